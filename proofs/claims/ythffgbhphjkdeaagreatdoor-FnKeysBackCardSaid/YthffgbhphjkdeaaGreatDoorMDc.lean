/-
  PROVED: contracts of functions and words on memory, several texts put together: what each says stands at its theorems. Conditions: as told there.
-/
import Derived.Test.YthffgbhphjkdeaaGreatDoorMDb
import Derived.ProofKit
import Derived.Lib.Atoi
import Derived.Lib.AtoiErr
import Derived.Lib.Strings
set_option linter.unusedVariables false
set_option linter.unusedSimpArgs false
namespace Go.Proofs.YthffgbhphjkdeaaGreatDoor
open Go.RowKit
set_option linter.unusedVariables false
set_option linter.unusedSimpArgs false

set_option maxRecDepth 100000 in
set_option maxHeartbeats 8000000 in
theorem l06Style_d (B gc : Nat) (w : World) (hc : Cur B 75 w gc) : Calls Tryz.prog 40 #[.pointer (some ⟨gc, 0, none⟩)] w (DrewV 75 B gc w (fun v : Style => .agg v.cells.toArray) (fun v => AllOk v.cells)) := by
  refine calls_draw (as_ := [.pointer (some ⟨gc, 0, none⟩)]) hc Tryz.func40 rfl rfl (fun a h1 h2 h3 => ((Fr.nil h1 h2).arg (h3 0 _ rfl))) ?_
  repeat (first | refine SX.seq ?_ | refine SXl.nil ?_ | refine SX.region ?_ | refine SQ.thenNormal ?_ | (refine l_call ?_; (refine SXl.v (OpW.call rfl (fun w hl => sstyleNew_any _)) rfl ?_ ?_ ?_); rfl; rfl) | (refine l_move ?_; (refine SXl.v (OpW.move rfl) rfl ?_ ?_ ?_); rfl; rfl) | (refine l_alloc ?_; refine SXl.alloc ?_ ?_ (fun g => ?_); rfl; rfl) | (refine l_store ?_; first | (refine SXl.store 0 ?_ rfl rfl rfl rfl rfl rfl ?_; rfl; simp only [List.set_cons_zero, List.set_cons_succ]) | (refine SXl.store 1 ?_ rfl rfl rfl rfl rfl rfl ?_; rfl; simp only [List.set_cons_zero, List.set_cons_succ]) | (refine SXl.store 2 ?_ rfl rfl rfl rfl rfl rfl ?_; rfl; simp only [List.set_cons_zero, List.set_cons_succ]) | (refine SXl.storeAll 0 ?_ rfl rfl rfl rfl rfl rfl rfl ?_; rfl; simp only [List.set_cons_zero, List.set_cons_succ]) | (refine SXl.storeAll 1 ?_ rfl rfl rfl rfl rfl rfl rfl ?_; rfl; simp only [List.set_cons_zero, List.set_cons_succ]) | (refine SXl.storeAll 2 ?_ rfl rfl rfl rfl rfl rfl rfl ?_; rfl; simp only [List.set_cons_zero, List.set_cons_succ]) | (refine SXl.storeRow 0 ?_ rfl rfl rfl rfl rfl rfl rfl ?_; rfl; simp only [over, List.set_cons_zero, List.set_cons_succ]) | (refine SXl.storeRow 1 ?_ rfl rfl rfl rfl rfl rfl rfl ?_; rfl; simp only [over, List.set_cons_zero, List.set_cons_succ]) | (refine SXl.storeRow 2 ?_ rfl rfl rfl rfl rfl rfl rfl ?_; rfl; simp only [over, List.set_cons_zero, List.set_cons_succ])))
  rename_i g2
  revert g; intro g3
  skip
  refine l_call ?_
  refine SXl.draw (ξ := Int) (v := fun x : Int => .int .i64 x) rfl rfl rfl (fun x => 0 ≤ x ∧ x < 4) (fun w hl => below_d B gc w hl.inv 4 (by decide) (by decide)) (fun x1 h1 => ?_)
  repeat (first | refine SX.seq ?_ | refine SXl.nil ?_ | refine SX.region ?_ | refine SQ.thenNormal ?_ | (refine l_fieldAddr ?_; (refine SXl.v (OpW.fieldAddr rfl) rfl ?_ ?_ ?_); rfl; rfl) | (refine l_move ?_; (refine SXl.v (OpW.move rfl) rfl ?_ ?_ ?_); rfl; rfl) | (refine l_add ?_; (refine SXl.v (OpW.addi rfl rfl (by omega) (by omega)) rfl ?_ ?_ ?_); rfl; rfl) | (refine l_store ?_; first | (refine SXl.store 0 ?_ rfl rfl rfl rfl rfl rfl ?_; rfl; simp only [List.set_cons_zero, List.set_cons_succ]) | (refine SXl.store 1 ?_ rfl rfl rfl rfl rfl rfl ?_; rfl; simp only [List.set_cons_zero, List.set_cons_succ]) | (refine SXl.store 2 ?_ rfl rfl rfl rfl rfl rfl ?_; rfl; simp only [List.set_cons_zero, List.set_cons_succ]) | (refine SXl.storeAll 0 ?_ rfl rfl rfl rfl rfl rfl rfl ?_; rfl; simp only [List.set_cons_zero, List.set_cons_succ]) | (refine SXl.storeAll 1 ?_ rfl rfl rfl rfl rfl rfl rfl ?_; rfl; simp only [List.set_cons_zero, List.set_cons_succ]) | (refine SXl.storeAll 2 ?_ rfl rfl rfl rfl rfl rfl rfl ?_; rfl; simp only [List.set_cons_zero, List.set_cons_succ]) | (refine SXl.storeRow 0 ?_ rfl rfl rfl rfl rfl rfl rfl ?_; rfl; simp only [over, List.set_cons_zero, List.set_cons_succ]) | (refine SXl.storeRow 1 ?_ rfl rfl rfl rfl rfl rfl rfl ?_; rfl; simp only [over, List.set_cons_zero, List.set_cons_succ]) | (refine SXl.storeRow 2 ?_ rfl rfl rfl rfl rfl rfl rfl ?_; rfl; simp only [over, List.set_cons_zero, List.set_cons_succ])))
  refine l_call ?_
  refine SXl.draw (ξ := Bool) (v := fun b => .bool b) rfl rfl rfl (fun _ => True) (fun w hl => once_d B gc w hl.inv 3 (by decide)) (fun b1 _ => ?_)
  repeat (first | refine SXl.nil ?_ | refine SQ.thenNormal ?_)
  refine SX.join (ι := Style) (fun s => AllOk s.cells) (fun s => [⟨g3, s.cells, 31⟩, ⟨g2, (default : Style).cells, 31⟩]) (fun _ => []) (fun _ => []) (fun _ => [(0, .pointer (some ⟨gc, 0, none⟩)), (2, .pointer (some ⟨g2, 0, none⟩)), (3, .pointer (some ⟨g3, 0, none⟩))]) ?_ ?_
  · cases b1
    · repeat (first | refine SX.skip ?_ | refine SX.condF rfl ?_)
      refine SQ.join ({ newStyle with dir := 1 + x1 }) (((allOk_of (c := newStyle.cells) (by decide)).set (cellOk_int (n := 1 + x1) ⟨by omega, by omega⟩) 0)) ?_ (fun _ hl => hl)
      (repeat (first | exact subF_nil _ | (refine subF_cons rfl ?_) | (refine subF_consv rfl (by rfl) ?_)))
    · repeat (first | refine SX.region ?_ | refine SX.condT rfl ?_ | (refine l_move ?_; (refine SXl.v (OpW.move rfl) rfl ?_ ?_ ?_); rfl; rfl))
      skip
      refine l_call ?_
      refine SXl.draw (ξ := Int) (v := fun x : Int => .int .i64 x) rfl rfl rfl (fun x => 0 ≤ x ∧ x < 3) (fun w hl => below_d B gc w hl.inv 3 (by decide) (by decide)) (fun x2 h2 => ?_)
      repeat (first | refine SXl.nil ?_ | (refine l_fieldAddr ?_; (refine SXl.v (OpW.fieldAddr rfl) rfl ?_ ?_ ?_); rfl; rfl) | (refine l_add ?_; (refine SXl.v (OpW.addi rfl rfl (by omega) (by omega)) rfl ?_ ?_ ?_); rfl; rfl) | (refine l_store ?_; first | (refine SXl.store 0 ?_ rfl rfl rfl rfl rfl rfl ?_; rfl; simp only [List.set_cons_zero, List.set_cons_succ]) | (refine SXl.store 1 ?_ rfl rfl rfl rfl rfl rfl ?_; rfl; simp only [List.set_cons_zero, List.set_cons_succ]) | (refine SXl.store 2 ?_ rfl rfl rfl rfl rfl rfl ?_; rfl; simp only [List.set_cons_zero, List.set_cons_succ]) | (refine SXl.storeAll 0 ?_ rfl rfl rfl rfl rfl rfl rfl ?_; rfl; simp only [List.set_cons_zero, List.set_cons_succ]) | (refine SXl.storeAll 1 ?_ rfl rfl rfl rfl rfl rfl rfl ?_; rfl; simp only [List.set_cons_zero, List.set_cons_succ]) | (refine SXl.storeAll 2 ?_ rfl rfl rfl rfl rfl rfl rfl ?_; rfl; simp only [List.set_cons_zero, List.set_cons_succ]) | (refine SXl.storeRow 0 ?_ rfl rfl rfl rfl rfl rfl rfl ?_; rfl; simp only [over, List.set_cons_zero, List.set_cons_succ]) | (refine SXl.storeRow 1 ?_ rfl rfl rfl rfl rfl rfl rfl ?_; rfl; simp only [over, List.set_cons_zero, List.set_cons_succ]) | (refine SXl.storeRow 2 ?_ rfl rfl rfl rfl rfl rfl rfl ?_; rfl; simp only [over, List.set_cons_zero, List.set_cons_succ])))
      refine SQ.join ({ newStyle with dir := 1 + x1, wrap := 1 + x2 }) ((((allOk_of (c := newStyle.cells) (by decide)).set (cellOk_int (n := 1 + x1) ⟨by omega, by omega⟩) 0).set (cellOk_int (n := 1 + x2) ⟨by omega, by omega⟩) 1)) ?_ (fun _ hl => hl)
      (repeat (first | exact subF_nil _ | (refine subF_cons rfl ?_) | (refine subF_consv rfl (by rfl) ?_)))
  intro s1 hs1
  repeat (first | refine SX.seq ?_ | refine SX.region ?_ | (refine l_move ?_; (refine SXl.v (OpW.move rfl) rfl ?_ ?_ ?_); rfl; rfl))
  refine l_call ?_
  refine SXl.draw (ξ := Int) (v := fun x : Int => .int .i64 x) rfl rfl rfl (fun x => 0 ≤ x ∧ x < 6) (fun w hl => below_d B gc w hl.inv 6 (by decide) (by decide)) (fun x3 h3 => ?_)
  repeat (first | refine SX.seq ?_ | refine SXl.nil ?_ | refine SX.region ?_ | refine SQ.thenNormal ?_ | (refine l_fieldAddr ?_; (refine SXl.v (OpW.fieldAddr rfl) rfl ?_ ?_ ?_); rfl; rfl) | (refine l_move ?_; (refine SXl.v (OpW.move rfl) rfl ?_ ?_ ?_); rfl; rfl) | (refine l_add ?_; (refine SXl.v (OpW.addi rfl rfl (by omega) (by omega)) rfl ?_ ?_ ?_); rfl; rfl) | (refine l_store ?_; first | (refine SXl.store 0 ?_ rfl rfl rfl rfl rfl rfl ?_; rfl; simp only [List.set_cons_zero, List.set_cons_succ]) | (refine SXl.store 1 ?_ rfl rfl rfl rfl rfl rfl ?_; rfl; simp only [List.set_cons_zero, List.set_cons_succ]) | (refine SXl.store 2 ?_ rfl rfl rfl rfl rfl rfl ?_; rfl; simp only [List.set_cons_zero, List.set_cons_succ]) | (refine SXl.storeAll 0 ?_ rfl rfl rfl rfl rfl rfl rfl ?_; rfl; simp only [List.set_cons_zero, List.set_cons_succ]) | (refine SXl.storeAll 1 ?_ rfl rfl rfl rfl rfl rfl rfl ?_; rfl; simp only [List.set_cons_zero, List.set_cons_succ]) | (refine SXl.storeAll 2 ?_ rfl rfl rfl rfl rfl rfl rfl ?_; rfl; simp only [List.set_cons_zero, List.set_cons_succ]) | (refine SXl.storeRow 0 ?_ rfl rfl rfl rfl rfl rfl rfl ?_; rfl; simp only [over, List.set_cons_zero, List.set_cons_succ]) | (refine SXl.storeRow 1 ?_ rfl rfl rfl rfl rfl rfl rfl ?_; rfl; simp only [over, List.set_cons_zero, List.set_cons_succ]) | (refine SXl.storeRow 2 ?_ rfl rfl rfl rfl rfl rfl rfl ?_; rfl; simp only [over, List.set_cons_zero, List.set_cons_succ])))
  refine l_call ?_
  refine SXl.draw (ξ := Int) (v := fun x : Int => .int .i64 x) rfl rfl rfl (fun x => 0 ≤ x ∧ x < 5) (fun w hl => below_d B gc w hl.inv 5 (by decide) (by decide)) (fun x4 h4 => ?_)
  repeat (first | refine SX.seq ?_ | refine SXl.nil ?_ | refine SX.region ?_ | refine SQ.thenNormal ?_ | (refine l_fieldAddr ?_; (refine SXl.v (OpW.fieldAddr rfl) rfl ?_ ?_ ?_); rfl; rfl) | (refine l_move ?_; (refine SXl.v (OpW.move rfl) rfl ?_ ?_ ?_); rfl; rfl) | (refine l_add ?_; (refine SXl.v (OpW.addi rfl rfl (by omega) (by omega)) rfl ?_ ?_ ?_); rfl; rfl) | (refine l_store ?_; first | (refine SXl.store 0 ?_ rfl rfl rfl rfl rfl rfl ?_; rfl; simp only [List.set_cons_zero, List.set_cons_succ]) | (refine SXl.store 1 ?_ rfl rfl rfl rfl rfl rfl ?_; rfl; simp only [List.set_cons_zero, List.set_cons_succ]) | (refine SXl.store 2 ?_ rfl rfl rfl rfl rfl rfl ?_; rfl; simp only [List.set_cons_zero, List.set_cons_succ]) | (refine SXl.storeAll 0 ?_ rfl rfl rfl rfl rfl rfl rfl ?_; rfl; simp only [List.set_cons_zero, List.set_cons_succ]) | (refine SXl.storeAll 1 ?_ rfl rfl rfl rfl rfl rfl rfl ?_; rfl; simp only [List.set_cons_zero, List.set_cons_succ]) | (refine SXl.storeAll 2 ?_ rfl rfl rfl rfl rfl rfl rfl ?_; rfl; simp only [List.set_cons_zero, List.set_cons_succ]) | (refine SXl.storeRow 0 ?_ rfl rfl rfl rfl rfl rfl rfl ?_; rfl; simp only [over, List.set_cons_zero, List.set_cons_succ]) | (refine SXl.storeRow 1 ?_ rfl rfl rfl rfl rfl rfl rfl ?_; rfl; simp only [over, List.set_cons_zero, List.set_cons_succ]) | (refine SXl.storeRow 2 ?_ rfl rfl rfl rfl rfl rfl rfl ?_; rfl; simp only [over, List.set_cons_zero, List.set_cons_succ])))
  refine l_call ?_
  refine SXl.draw (ξ := Bool) (v := fun b => .bool b) rfl rfl rfl (fun _ => True) (fun w hl => once_d B gc w hl.inv 3 (by decide)) (fun b2 _ => ?_)
  repeat (first | refine SXl.nil ?_ | refine SQ.thenNormal ?_)
  refine SX.join (ι := Style) (fun s => AllOk s.cells) (fun s => [⟨g3, s.cells, 31⟩, ⟨g2, (default : Style).cells, 31⟩]) (fun _ => []) (fun _ => []) (fun _ => [(0, .pointer (some ⟨gc, 0, none⟩)), (2, .pointer (some ⟨g2, 0, none⟩)), (3, .pointer (some ⟨g3, 0, none⟩))]) ?_ ?_
  · cases b2
    · repeat (first | refine SX.skip ?_ | refine SX.condF rfl ?_)
      refine SQ.join ({ s1 with justify := 1 + x3, items := 1 + x4 }) (((hs1.set (cellOk_int (n := 1 + x3) ⟨by omega, by omega⟩) 2).set (cellOk_int (n := 1 + x4) ⟨by omega, by omega⟩) 3)) ?_ (fun _ hl => hl)
      (repeat (first | exact subF_nil _ | (refine subF_cons rfl ?_) | (refine subF_consv rfl (by rfl) ?_)))
    · repeat (first | refine SX.region ?_ | refine SX.condT rfl ?_ | (refine l_move ?_; (refine SXl.v (OpW.move rfl) rfl ?_ ?_ ?_); rfl; rfl))
      skip
      refine l_call ?_
      refine SXl.draw (ξ := Int) (v := fun x : Int => .int .i64 x) rfl rfl rfl (fun x => 0 ≤ x ∧ x < 6) (fun w hl => below_d B gc w hl.inv 6 (by decide) (by decide)) (fun x5 h5 => ?_)
      repeat (first | refine SXl.nil ?_ | (refine l_fieldAddr ?_; (refine SXl.v (OpW.fieldAddr rfl) rfl ?_ ?_ ?_); rfl; rfl) | (refine l_store ?_; first | (refine SXl.store 0 ?_ rfl rfl rfl rfl rfl rfl ?_; rfl; simp only [List.set_cons_zero, List.set_cons_succ]) | (refine SXl.store 1 ?_ rfl rfl rfl rfl rfl rfl ?_; rfl; simp only [List.set_cons_zero, List.set_cons_succ]) | (refine SXl.store 2 ?_ rfl rfl rfl rfl rfl rfl ?_; rfl; simp only [List.set_cons_zero, List.set_cons_succ]) | (refine SXl.storeAll 0 ?_ rfl rfl rfl rfl rfl rfl rfl ?_; rfl; simp only [List.set_cons_zero, List.set_cons_succ]) | (refine SXl.storeAll 1 ?_ rfl rfl rfl rfl rfl rfl rfl ?_; rfl; simp only [List.set_cons_zero, List.set_cons_succ]) | (refine SXl.storeAll 2 ?_ rfl rfl rfl rfl rfl rfl rfl ?_; rfl; simp only [List.set_cons_zero, List.set_cons_succ]) | (refine SXl.storeRow 0 ?_ rfl rfl rfl rfl rfl rfl rfl ?_; rfl; simp only [over, List.set_cons_zero, List.set_cons_succ]) | (refine SXl.storeRow 1 ?_ rfl rfl rfl rfl rfl rfl rfl ?_; rfl; simp only [over, List.set_cons_zero, List.set_cons_succ]) | (refine SXl.storeRow 2 ?_ rfl rfl rfl rfl rfl rfl rfl ?_; rfl; simp only [over, List.set_cons_zero, List.set_cons_succ])))
      refine SQ.join ({ s1 with justify := 1 + x3, items := 1 + x4, self := x5 }) ((((hs1.set (cellOk_int (n := 1 + x3) ⟨by omega, by omega⟩) 2).set (cellOk_int (n := 1 + x4) ⟨by omega, by omega⟩) 3).set (cellOk_int (n := x5) ⟨by omega, by omega⟩) 4)) ?_ (fun _ hl => hl)
      (repeat (first | exact subF_nil _ | (refine subF_cons rfl ?_) | (refine subF_consv rfl (by rfl) ?_)))
  intro s2 hs2
  repeat (first | refine SX.seq ?_ | refine SX.region ?_ | (refine l_move ?_; (refine SXl.v (OpW.move rfl) rfl ?_ ?_ ?_); rfl; rfl))
  refine l_call ?_
  refine SXl.draw (ξ := Int) (v := fun x : Int => .int .i64 x) rfl rfl rfl (fun x => 0 ≤ x ∧ x < 6) (fun w hl => below_d B gc w hl.inv 6 (by decide) (by decide)) (fun x6 h6 => ?_)
  repeat (first | refine SX.seq ?_ | refine SXl.nil ?_ | refine SX.region ?_ | refine SQ.thenNormal ?_ | (refine l_fieldAddr ?_; (refine SXl.v (OpW.fieldAddr rfl) rfl ?_ ?_ ?_); rfl; rfl) | (refine l_move ?_; (refine SXl.v (OpW.move rfl) rfl ?_ ?_ ?_); rfl; rfl) | (refine l_add ?_; (refine SXl.v (OpW.addi rfl rfl (by omega) (by omega)) rfl ?_ ?_ ?_); rfl; rfl) | (refine l_store ?_; first | (refine SXl.store 0 ?_ rfl rfl rfl rfl rfl rfl ?_; rfl; simp only [List.set_cons_zero, List.set_cons_succ]) | (refine SXl.store 1 ?_ rfl rfl rfl rfl rfl rfl ?_; rfl; simp only [List.set_cons_zero, List.set_cons_succ]) | (refine SXl.store 2 ?_ rfl rfl rfl rfl rfl rfl ?_; rfl; simp only [List.set_cons_zero, List.set_cons_succ]) | (refine SXl.storeAll 0 ?_ rfl rfl rfl rfl rfl rfl rfl ?_; rfl; simp only [List.set_cons_zero, List.set_cons_succ]) | (refine SXl.storeAll 1 ?_ rfl rfl rfl rfl rfl rfl rfl ?_; rfl; simp only [List.set_cons_zero, List.set_cons_succ]) | (refine SXl.storeAll 2 ?_ rfl rfl rfl rfl rfl rfl rfl ?_; rfl; simp only [List.set_cons_zero, List.set_cons_succ]) | (refine SXl.storeRow 0 ?_ rfl rfl rfl rfl rfl rfl rfl ?_; rfl; simp only [over, List.set_cons_zero, List.set_cons_succ]) | (refine SXl.storeRow 1 ?_ rfl rfl rfl rfl rfl rfl rfl ?_; rfl; simp only [over, List.set_cons_zero, List.set_cons_succ]) | (refine SXl.storeRow 2 ?_ rfl rfl rfl rfl rfl rfl rfl ?_; rfl; simp only [over, List.set_cons_zero, List.set_cons_succ])))
  refine l_call ?_
  refine SXl.draw (ξ := Bool) (v := fun b => .bool b) rfl rfl rfl (fun _ => True) (fun w hl => once_d B gc w hl.inv 10 (by decide)) (fun x7 _ => ?_)
  repeat (first | refine SX.seq ?_ | refine SXl.nil ?_ | refine SX.region ?_ | refine SQ.thenNormal ?_ | (refine l_fieldAddr ?_; (refine SXl.v (OpW.fieldAddr rfl) rfl ?_ ?_ ?_); rfl; rfl) | (refine l_move ?_; (refine SXl.v (OpW.move rfl) rfl ?_ ?_ ?_); rfl; rfl) | (refine l_store ?_; first | (refine SXl.store 0 ?_ rfl rfl rfl rfl rfl rfl ?_; rfl; simp only [List.set_cons_zero, List.set_cons_succ]) | (refine SXl.store 1 ?_ rfl rfl rfl rfl rfl rfl ?_; rfl; simp only [List.set_cons_zero, List.set_cons_succ]) | (refine SXl.store 2 ?_ rfl rfl rfl rfl rfl rfl ?_; rfl; simp only [List.set_cons_zero, List.set_cons_succ]) | (refine SXl.storeAll 0 ?_ rfl rfl rfl rfl rfl rfl rfl ?_; rfl; simp only [List.set_cons_zero, List.set_cons_succ]) | (refine SXl.storeAll 1 ?_ rfl rfl rfl rfl rfl rfl rfl ?_; rfl; simp only [List.set_cons_zero, List.set_cons_succ]) | (refine SXl.storeAll 2 ?_ rfl rfl rfl rfl rfl rfl rfl ?_; rfl; simp only [List.set_cons_zero, List.set_cons_succ]) | (refine SXl.storeRow 0 ?_ rfl rfl rfl rfl rfl rfl rfl ?_; rfl; simp only [over, List.set_cons_zero, List.set_cons_succ]) | (refine SXl.storeRow 1 ?_ rfl rfl rfl rfl rfl rfl rfl ?_; rfl; simp only [over, List.set_cons_zero, List.set_cons_succ]) | (refine SXl.storeRow 2 ?_ rfl rfl rfl rfl rfl rfl rfl ?_; rfl; simp only [over, List.set_cons_zero, List.set_cons_succ])))
  refine l_call ?_
  refine SXl.draw (ξ := Bool) (v := fun b => .bool b) rfl rfl rfl (fun _ => True) (fun w hl => once_d B gc w hl.inv 12 (by decide)) (fun x8 _ => ?_)
  repeat (first | refine SX.seq ?_ | refine SXl.nil ?_ | refine SX.region ?_ | refine SQ.thenNormal ?_ | (refine l_fieldAddr ?_; (refine SXl.v (OpW.fieldAddr rfl) rfl ?_ ?_ ?_); rfl; rfl) | (refine l_move ?_; (refine SXl.v (OpW.move rfl) rfl ?_ ?_ ?_); rfl; rfl) | (refine l_store ?_; first | (refine SXl.store 0 ?_ rfl rfl rfl rfl rfl rfl ?_; rfl; simp only [List.set_cons_zero, List.set_cons_succ]) | (refine SXl.store 1 ?_ rfl rfl rfl rfl rfl rfl ?_; rfl; simp only [List.set_cons_zero, List.set_cons_succ]) | (refine SXl.store 2 ?_ rfl rfl rfl rfl rfl rfl ?_; rfl; simp only [List.set_cons_zero, List.set_cons_succ]) | (refine SXl.storeAll 0 ?_ rfl rfl rfl rfl rfl rfl rfl ?_; rfl; simp only [List.set_cons_zero, List.set_cons_succ]) | (refine SXl.storeAll 1 ?_ rfl rfl rfl rfl rfl rfl rfl ?_; rfl; simp only [List.set_cons_zero, List.set_cons_succ]) | (refine SXl.storeAll 2 ?_ rfl rfl rfl rfl rfl rfl rfl ?_; rfl; simp only [List.set_cons_zero, List.set_cons_succ]) | (refine SXl.storeRow 0 ?_ rfl rfl rfl rfl rfl rfl rfl ?_; rfl; simp only [over, List.set_cons_zero, List.set_cons_succ]) | (refine SXl.storeRow 1 ?_ rfl rfl rfl rfl rfl rfl rfl ?_; rfl; simp only [over, List.set_cons_zero, List.set_cons_succ]) | (refine SXl.storeRow 2 ?_ rfl rfl rfl rfl rfl rfl rfl ?_; rfl; simp only [over, List.set_cons_zero, List.set_cons_succ])))
  refine l_call ?_
  refine SXl.draw (ξ := Bool) (v := fun b => .bool b) rfl rfl rfl (fun _ => True) (fun w hl => once_d B gc w hl.inv 5 (by decide)) (fun b3 _ => ?_)
  repeat (first | refine SXl.nil ?_ | refine SQ.thenNormal ?_)
  refine SX.join (ι := Style) (fun s => AllOk s.cells) (fun s => [⟨g3, s.cells, 31⟩, ⟨g2, (default : Style).cells, 31⟩]) (fun _ => []) (fun _ => []) (fun _ => [(0, .pointer (some ⟨gc, 0, none⟩)), (2, .pointer (some ⟨g2, 0, none⟩)), (3, .pointer (some ⟨g3, 0, none⟩))]) ?_ ?_
  · cases b3
    · repeat (first | refine SX.skip ?_ | refine SX.condF rfl ?_)
      refine SQ.join ({ s2 with content := 1 + x6, apart := x7, hidden := x8 }) ((((hs2.set (cellOk_int (n := 1 + x6) ⟨by omega, by omega⟩) 5).set (cellOk_bool x7) 6).set (cellOk_bool x8) 7)) ?_ (fun _ hl => hl)
      (repeat (first | exact subF_nil _ | (refine subF_cons rfl ?_) | (refine subF_consv rfl (by rfl) ?_)))
    · repeat (first | refine SX.region ?_ | refine SX.condT rfl ?_ | (refine l_move ?_; (refine SXl.v (OpW.move rfl) rfl ?_ ?_ ?_); rfl; rfl))
      skip
      refine l_call ?_
      refine SXl.draw (ξ := Int) (v := fun x : Int => .int .i64 x) rfl rfl rfl (fun x => 0 ≤ x ∧ x < 5) (fun w hl => below_d B gc w hl.inv 5 (by decide) (by decide)) (fun x9 h9 => ?_)
      repeat (first | refine SXl.nil ?_ | (refine l_fieldAddr ?_; (refine SXl.v (OpW.fieldAddr rfl) rfl ?_ ?_ ?_); rfl; rfl) | (refine l_sub ?_; (refine SXl.v (OpW.subi rfl rfl (by omega) (by omega)) rfl ?_ ?_ ?_); rfl; rfl) | (refine l_store ?_; first | (refine SXl.store 0 ?_ rfl rfl rfl rfl rfl rfl ?_; rfl; simp only [List.set_cons_zero, List.set_cons_succ]) | (refine SXl.store 1 ?_ rfl rfl rfl rfl rfl rfl ?_; rfl; simp only [List.set_cons_zero, List.set_cons_succ]) | (refine SXl.store 2 ?_ rfl rfl rfl rfl rfl rfl ?_; rfl; simp only [List.set_cons_zero, List.set_cons_succ]) | (refine SXl.storeAll 0 ?_ rfl rfl rfl rfl rfl rfl rfl ?_; rfl; simp only [List.set_cons_zero, List.set_cons_succ]) | (refine SXl.storeAll 1 ?_ rfl rfl rfl rfl rfl rfl rfl ?_; rfl; simp only [List.set_cons_zero, List.set_cons_succ]) | (refine SXl.storeAll 2 ?_ rfl rfl rfl rfl rfl rfl rfl ?_; rfl; simp only [List.set_cons_zero, List.set_cons_succ]) | (refine SXl.storeRow 0 ?_ rfl rfl rfl rfl rfl rfl rfl ?_; rfl; simp only [over, List.set_cons_zero, List.set_cons_succ]) | (refine SXl.storeRow 1 ?_ rfl rfl rfl rfl rfl rfl rfl ?_; rfl; simp only [over, List.set_cons_zero, List.set_cons_succ]) | (refine SXl.storeRow 2 ?_ rfl rfl rfl rfl rfl rfl rfl ?_; rfl; simp only [over, List.set_cons_zero, List.set_cons_succ])))
      refine SQ.join ({ s2 with content := 1 + x6, apart := x7, hidden := x8, order := x9 - 2 }) (((((hs2.set (cellOk_int (n := 1 + x6) ⟨by omega, by omega⟩) 5).set (cellOk_bool x7) 6).set (cellOk_bool x8) 7).set (cellOk_int (n := x9 - 2) ⟨by omega, by omega⟩) 8)) ?_ (fun _ hl => hl)
      (repeat (first | exact subF_nil _ | (refine subF_cons rfl ?_) | (refine subF_consv rfl (by rfl) ?_)))
  intro s3 hs3
  repeat (first | refine SX.seq ?_ | refine SX.region ?_ | (refine l_move ?_; (refine SXl.v (OpW.move rfl) rfl ?_ ?_ ?_); rfl; rfl))
  refine l_buildSlice ?_
  refine SXl.lit (cells := [.int .i64 0, .int .i64 0, .int .i64 1, .int .i64 1, .int .i64 2, .int .i64 1000]) (z := .int .i64 0) ?_ ?_ rfl (by decide) (by kernel_rfl) rfl (fun gl => ?_)
  rfl; rfl
  skip
  refine l_call ?_
  refine SXl.draw (ξ := Int) (v := fun x => .int .i64 x) rfl rfl rfl (fun x => x ∈ ([0, 0, 1, 1, 2, 1000] : List Int)) (fun w hl => pick_d (l := [0, 0, 1, 1, 2, 1000]) hl (by decide) (by decide)) (fun x10 h10 => ?_)
  refine SXl.drop1 ?_
  have h10b : 0 ≤ x10 ∧ x10 ≤ 6400 := by simp at h10; omega
  repeat (first | refine SX.seq ?_ | refine SXl.nil ?_ | refine SX.region ?_ | refine SQ.thenNormal ?_ | (refine l_fieldAddr ?_; (refine SXl.v (OpW.fieldAddr rfl) rfl ?_ ?_ ?_); rfl; rfl) | (refine l_move ?_; (refine SXl.v (OpW.move rfl) rfl ?_ ?_ ?_); rfl; rfl) | (refine l_store ?_; first | (refine SXl.store 0 ?_ rfl rfl rfl rfl rfl rfl ?_; rfl; simp only [List.set_cons_zero, List.set_cons_succ]) | (refine SXl.store 1 ?_ rfl rfl rfl rfl rfl rfl ?_; rfl; simp only [List.set_cons_zero, List.set_cons_succ]) | (refine SXl.store 2 ?_ rfl rfl rfl rfl rfl rfl ?_; rfl; simp only [List.set_cons_zero, List.set_cons_succ]) | (refine SXl.storeAll 0 ?_ rfl rfl rfl rfl rfl rfl rfl ?_; rfl; simp only [List.set_cons_zero, List.set_cons_succ]) | (refine SXl.storeAll 1 ?_ rfl rfl rfl rfl rfl rfl rfl ?_; rfl; simp only [List.set_cons_zero, List.set_cons_succ]) | (refine SXl.storeAll 2 ?_ rfl rfl rfl rfl rfl rfl rfl ?_; rfl; simp only [List.set_cons_zero, List.set_cons_succ]) | (refine SXl.storeRow 0 ?_ rfl rfl rfl rfl rfl rfl rfl ?_; rfl; simp only [over, List.set_cons_zero, List.set_cons_succ]) | (refine SXl.storeRow 1 ?_ rfl rfl rfl rfl rfl rfl rfl ?_; rfl; simp only [over, List.set_cons_zero, List.set_cons_succ]) | (refine SXl.storeRow 2 ?_ rfl rfl rfl rfl rfl rfl rfl ?_; rfl; simp only [over, List.set_cons_zero, List.set_cons_succ])))
  refine l_buildSlice ?_
  refine SXl.lit (cells := [.int .i64 0, .int .i64 1, .int .i64 1, .int .i64 2, .int .i64 1000]) (z := .int .i64 0) ?_ ?_ rfl (by decide) (by kernel_rfl) rfl (fun gl => ?_)
  rfl; rfl
  skip
  refine l_call ?_
  refine SXl.draw (ξ := Int) (v := fun x => .int .i64 x) rfl rfl rfl (fun x => x ∈ ([0, 1, 1, 2, 1000] : List Int)) (fun w hl => pick_d (l := [0, 1, 1, 2, 1000]) hl (by decide) (by decide)) (fun x11 h11 => ?_)
  refine SXl.drop1 ?_
  have h11b : 0 ≤ x11 ∧ x11 ≤ 6400 := by simp at h11; omega
  repeat (first | refine SX.seq ?_ | refine SXl.nil ?_ | refine SX.region ?_ | refine SQ.thenNormal ?_ | (refine l_fieldAddr ?_; (refine SXl.v (OpW.fieldAddr rfl) rfl ?_ ?_ ?_); rfl; rfl) | (refine l_move ?_; (refine SXl.v (OpW.move rfl) rfl ?_ ?_ ?_); rfl; rfl) | (refine l_store ?_; first | (refine SXl.store 0 ?_ rfl rfl rfl rfl rfl rfl ?_; rfl; simp only [List.set_cons_zero, List.set_cons_succ]) | (refine SXl.store 1 ?_ rfl rfl rfl rfl rfl rfl ?_; rfl; simp only [List.set_cons_zero, List.set_cons_succ]) | (refine SXl.store 2 ?_ rfl rfl rfl rfl rfl rfl ?_; rfl; simp only [List.set_cons_zero, List.set_cons_succ]) | (refine SXl.storeAll 0 ?_ rfl rfl rfl rfl rfl rfl rfl ?_; rfl; simp only [List.set_cons_zero, List.set_cons_succ]) | (refine SXl.storeAll 1 ?_ rfl rfl rfl rfl rfl rfl rfl ?_; rfl; simp only [List.set_cons_zero, List.set_cons_succ]) | (refine SXl.storeAll 2 ?_ rfl rfl rfl rfl rfl rfl rfl ?_; rfl; simp only [List.set_cons_zero, List.set_cons_succ]) | (refine SXl.storeRow 0 ?_ rfl rfl rfl rfl rfl rfl rfl ?_; rfl; simp only [over, List.set_cons_zero, List.set_cons_succ]) | (refine SXl.storeRow 1 ?_ rfl rfl rfl rfl rfl rfl rfl ?_; rfl; simp only [over, List.set_cons_zero, List.set_cons_succ]) | (refine SXl.storeRow 2 ?_ rfl rfl rfl rfl rfl rfl rfl ?_; rfl; simp only [over, List.set_cons_zero, List.set_cons_succ])))
  refine l_call ?_
  refine SXl.draw (ξ := Val) (v := fun v => .agg v.cells.toArray) rfl rfl rfl (fun v => AllOk v.cells) (fun w hl => l04Value_d B gc w hl.inv) (fun x12 h12 => ?_)
  repeat (first | refine SX.seq ?_ | refine SXl.nil ?_ | refine SX.region ?_ | refine SQ.thenNormal ?_ | (refine l_fieldAddr ?_; (refine SXl.v (OpW.fieldAddr rfl) rfl ?_ ?_ ?_); rfl; rfl) | (refine l_move ?_; (refine SXl.v (OpW.move rfl) rfl ?_ ?_ ?_); rfl; rfl) | (refine l_store ?_; first | (refine SXl.store 0 ?_ rfl rfl rfl rfl rfl rfl ?_; rfl; simp only [List.set_cons_zero, List.set_cons_succ]) | (refine SXl.store 1 ?_ rfl rfl rfl rfl rfl rfl ?_; rfl; simp only [List.set_cons_zero, List.set_cons_succ]) | (refine SXl.store 2 ?_ rfl rfl rfl rfl rfl rfl ?_; rfl; simp only [List.set_cons_zero, List.set_cons_succ]) | (refine SXl.storeAll 0 ?_ rfl rfl rfl rfl rfl rfl rfl ?_; rfl; simp only [List.set_cons_zero, List.set_cons_succ]) | (refine SXl.storeAll 1 ?_ rfl rfl rfl rfl rfl rfl rfl ?_; rfl; simp only [List.set_cons_zero, List.set_cons_succ]) | (refine SXl.storeAll 2 ?_ rfl rfl rfl rfl rfl rfl rfl ?_; rfl; simp only [List.set_cons_zero, List.set_cons_succ]) | (refine SXl.storeRow 0 ?_ rfl rfl rfl rfl rfl rfl rfl ?_; rfl; simp only [over, List.set_cons_zero, List.set_cons_succ]) | (refine SXl.storeRow 1 ?_ rfl rfl rfl rfl rfl rfl rfl ?_; rfl; simp only [over, List.set_cons_zero, List.set_cons_succ]) | (refine SXl.storeRow 2 ?_ rfl rfl rfl rfl rfl rfl rfl ?_; rfl; simp only [over, List.set_cons_zero, List.set_cons_succ])))
  refine l_call ?_
  refine SXl.draw (ξ := Val) (v := fun v => .agg v.cells.toArray) rfl rfl rfl (fun v => AllOk v.cells) (fun w hl => l04Value_d B gc w hl.inv) (fun x13 h13 => ?_)
  repeat (first | refine SX.seq ?_ | refine SXl.nil ?_ | refine SX.region ?_ | refine SQ.thenNormal ?_ | (refine l_fieldAddr ?_; (refine SXl.v (OpW.fieldAddr rfl) rfl ?_ ?_ ?_); rfl; rfl) | (refine l_move ?_; (refine SXl.v (OpW.move rfl) rfl ?_ ?_ ?_); rfl; rfl) | (refine l_store ?_; first | (refine SXl.store 0 ?_ rfl rfl rfl rfl rfl rfl ?_; rfl; simp only [List.set_cons_zero, List.set_cons_succ]) | (refine SXl.store 1 ?_ rfl rfl rfl rfl rfl rfl ?_; rfl; simp only [List.set_cons_zero, List.set_cons_succ]) | (refine SXl.store 2 ?_ rfl rfl rfl rfl rfl rfl ?_; rfl; simp only [List.set_cons_zero, List.set_cons_succ]) | (refine SXl.storeAll 0 ?_ rfl rfl rfl rfl rfl rfl rfl ?_; rfl; simp only [List.set_cons_zero, List.set_cons_succ]) | (refine SXl.storeAll 1 ?_ rfl rfl rfl rfl rfl rfl rfl ?_; rfl; simp only [List.set_cons_zero, List.set_cons_succ]) | (refine SXl.storeAll 2 ?_ rfl rfl rfl rfl rfl rfl rfl ?_; rfl; simp only [List.set_cons_zero, List.set_cons_succ]) | (refine SXl.storeRow 0 ?_ rfl rfl rfl rfl rfl rfl rfl ?_; rfl; simp only [over, List.set_cons_zero, List.set_cons_succ]) | (refine SXl.storeRow 1 ?_ rfl rfl rfl rfl rfl rfl rfl ?_; rfl; simp only [over, List.set_cons_zero, List.set_cons_succ]) | (refine SXl.storeRow 2 ?_ rfl rfl rfl rfl rfl rfl rfl ?_; rfl; simp only [over, List.set_cons_zero, List.set_cons_succ])))
  refine l_call ?_
  refine SXl.draw (ξ := Val) (v := fun v => .agg v.cells.toArray) rfl rfl rfl (fun v => AllOk v.cells) (fun w hl => l04Value_d B gc w hl.inv) (fun x14 h14 => ?_)
  repeat (first | refine SX.seq ?_ | refine SXl.nil ?_ | refine SX.region ?_ | refine SQ.thenNormal ?_ | (refine l_fieldAddr ?_; (refine SXl.v (OpW.fieldAddr rfl) rfl ?_ ?_ ?_); rfl; rfl) | (refine l_move ?_; (refine SXl.v (OpW.move rfl) rfl ?_ ?_ ?_); rfl; rfl) | (refine l_store ?_; first | (refine SXl.store 0 ?_ rfl rfl rfl rfl rfl rfl ?_; rfl; simp only [List.set_cons_zero, List.set_cons_succ]) | (refine SXl.store 1 ?_ rfl rfl rfl rfl rfl rfl ?_; rfl; simp only [List.set_cons_zero, List.set_cons_succ]) | (refine SXl.store 2 ?_ rfl rfl rfl rfl rfl rfl ?_; rfl; simp only [List.set_cons_zero, List.set_cons_succ]) | (refine SXl.storeAll 0 ?_ rfl rfl rfl rfl rfl rfl rfl ?_; rfl; simp only [List.set_cons_zero, List.set_cons_succ]) | (refine SXl.storeAll 1 ?_ rfl rfl rfl rfl rfl rfl rfl ?_; rfl; simp only [List.set_cons_zero, List.set_cons_succ]) | (refine SXl.storeAll 2 ?_ rfl rfl rfl rfl rfl rfl rfl ?_; rfl; simp only [List.set_cons_zero, List.set_cons_succ]) | (refine SXl.storeRow 0 ?_ rfl rfl rfl rfl rfl rfl rfl ?_; rfl; simp only [over, List.set_cons_zero, List.set_cons_succ]) | (refine SXl.storeRow 1 ?_ rfl rfl rfl rfl rfl rfl rfl ?_; rfl; simp only [over, List.set_cons_zero, List.set_cons_succ]) | (refine SXl.storeRow 2 ?_ rfl rfl rfl rfl rfl rfl rfl ?_; rfl; simp only [over, List.set_cons_zero, List.set_cons_succ])))
  refine l_call ?_
  refine SXl.draw (ξ := Bool) (v := fun b => .bool b) rfl rfl rfl (fun _ => True) (fun w hl => once_d B gc w hl.inv 4 (by decide)) (fun b4 _ => ?_)
  repeat (first | refine SXl.nil ?_ | refine SQ.thenNormal ?_)
  refine SX.join (ι := Style) (fun s => AllOk s.cells) (fun s => [⟨g3, s.cells, 31⟩, ⟨g2, (default : Style).cells, 31⟩]) (fun _ => []) (fun _ => []) (fun _ => [(0, .pointer (some ⟨gc, 0, none⟩)), (2, .pointer (some ⟨g2, 0, none⟩)), (3, .pointer (some ⟨g3, 0, none⟩))]) ?_ ?_
  · cases b4
    · repeat (first | refine SX.skip ?_ | refine SX.condF rfl ?_)
      refine SQ.join ({ s3 with grow := x10, shrink := x11, basis := x12, width := x13, height := x14 }) ((AllOk.over (j := 15) (AllOk.over (j := 13) (AllOk.over (j := 11) ((hs3.set (cellOk_int (n := x10) ⟨by omega, by omega⟩) 9).set (cellOk_int (n := x11) ⟨by omega, by omega⟩) 10) h12) h13) h14)) ?_ (fun _ hl => hl)
      (repeat (first | exact subF_nil _ | (refine subF_cons rfl ?_) | (refine subF_consv rfl (by rfl) ?_)))
    · repeat (first | refine SX.seq ?_ | refine SX.region ?_ | refine SX.condT rfl ?_ | (refine l_move ?_; (refine SXl.v (OpW.move rfl) rfl ?_ ?_ ?_); rfl; rfl))
      skip
      refine l_call ?_
      refine SXl.draw (ξ := Val) (v := fun v => .agg v.cells.toArray) rfl rfl rfl (fun v => AllOk v.cells) (fun w hl => l04Value_d B gc w hl.inv) (fun x15 h15 => ?_)
      repeat (first | refine SXl.nil ?_ | refine SX.region ?_ | refine SQ.thenNormal ?_ | (refine l_fieldAddr ?_; (refine SXl.v (OpW.fieldAddr rfl) rfl ?_ ?_ ?_); rfl; rfl) | (refine l_move ?_; (refine SXl.v (OpW.move rfl) rfl ?_ ?_ ?_); rfl; rfl) | (refine l_store ?_; first | (refine SXl.store 0 ?_ rfl rfl rfl rfl rfl rfl ?_; rfl; simp only [List.set_cons_zero, List.set_cons_succ]) | (refine SXl.store 1 ?_ rfl rfl rfl rfl rfl rfl ?_; rfl; simp only [List.set_cons_zero, List.set_cons_succ]) | (refine SXl.store 2 ?_ rfl rfl rfl rfl rfl rfl ?_; rfl; simp only [List.set_cons_zero, List.set_cons_succ]) | (refine SXl.storeAll 0 ?_ rfl rfl rfl rfl rfl rfl rfl ?_; rfl; simp only [List.set_cons_zero, List.set_cons_succ]) | (refine SXl.storeAll 1 ?_ rfl rfl rfl rfl rfl rfl rfl ?_; rfl; simp only [List.set_cons_zero, List.set_cons_succ]) | (refine SXl.storeAll 2 ?_ rfl rfl rfl rfl rfl rfl rfl ?_; rfl; simp only [List.set_cons_zero, List.set_cons_succ]) | (refine SXl.storeRow 0 ?_ rfl rfl rfl rfl rfl rfl rfl ?_; rfl; simp only [over, List.set_cons_zero, List.set_cons_succ]) | (refine SXl.storeRow 1 ?_ rfl rfl rfl rfl rfl rfl rfl ?_; rfl; simp only [over, List.set_cons_zero, List.set_cons_succ]) | (refine SXl.storeRow 2 ?_ rfl rfl rfl rfl rfl rfl rfl ?_; rfl; simp only [over, List.set_cons_zero, List.set_cons_succ])))
      refine l_call ?_
      refine SXl.draw (ξ := Val) (v := fun v => .agg v.cells.toArray) rfl rfl rfl (fun v => AllOk v.cells) (fun w hl => l04Value_d B gc w hl.inv) (fun x16 h16 => ?_)
      repeat (first | refine SXl.nil ?_ | (refine l_fieldAddr ?_; (refine SXl.v (OpW.fieldAddr rfl) rfl ?_ ?_ ?_); rfl; rfl) | (refine l_store ?_; first | (refine SXl.store 0 ?_ rfl rfl rfl rfl rfl rfl ?_; rfl; simp only [List.set_cons_zero, List.set_cons_succ]) | (refine SXl.store 1 ?_ rfl rfl rfl rfl rfl rfl ?_; rfl; simp only [List.set_cons_zero, List.set_cons_succ]) | (refine SXl.store 2 ?_ rfl rfl rfl rfl rfl rfl ?_; rfl; simp only [List.set_cons_zero, List.set_cons_succ]) | (refine SXl.storeAll 0 ?_ rfl rfl rfl rfl rfl rfl rfl ?_; rfl; simp only [List.set_cons_zero, List.set_cons_succ]) | (refine SXl.storeAll 1 ?_ rfl rfl rfl rfl rfl rfl rfl ?_; rfl; simp only [List.set_cons_zero, List.set_cons_succ]) | (refine SXl.storeAll 2 ?_ rfl rfl rfl rfl rfl rfl rfl ?_; rfl; simp only [List.set_cons_zero, List.set_cons_succ]) | (refine SXl.storeRow 0 ?_ rfl rfl rfl rfl rfl rfl rfl ?_; rfl; simp only [over, List.set_cons_zero, List.set_cons_succ]) | (refine SXl.storeRow 1 ?_ rfl rfl rfl rfl rfl rfl rfl ?_; rfl; simp only [over, List.set_cons_zero, List.set_cons_succ]) | (refine SXl.storeRow 2 ?_ rfl rfl rfl rfl rfl rfl rfl ?_; rfl; simp only [over, List.set_cons_zero, List.set_cons_succ])))
      refine SQ.join ({ s3 with grow := x10, shrink := x11, basis := x12, width := x13, height := x14, minWidth := x15, maxWidth := x16 }) ((AllOk.over (j := 21) (AllOk.over (j := 17) (AllOk.over (j := 15) (AllOk.over (j := 13) (AllOk.over (j := 11) ((hs3.set (cellOk_int (n := x10) ⟨by omega, by omega⟩) 9).set (cellOk_int (n := x11) ⟨by omega, by omega⟩) 10) h12) h13) h14) h15) h16)) ?_ (fun _ hl => hl)
      (repeat (first | exact subF_nil _ | (refine subF_cons rfl ?_) | (refine subF_consv rfl (by rfl) ?_)))
  intro s4 hs4
  repeat (first | refine SX.seq ?_ | refine SX.region ?_ | (refine l_move ?_; (refine SXl.v (OpW.move rfl) rfl ?_ ?_ ?_); rfl; rfl))
  refine l_call ?_
  refine SXl.draw (ξ := Bool) (v := fun b => .bool b) rfl rfl rfl (fun _ => True) (fun w hl => once_d B gc w hl.inv 4 (by decide)) (fun b5 _ => ?_)
  repeat (first | refine SXl.nil ?_ | refine SQ.thenNormal ?_)
  refine SX.join (ι := Style) (fun s => AllOk s.cells) (fun s => [⟨g3, s.cells, 31⟩, ⟨g2, (default : Style).cells, 31⟩]) (fun _ => []) (fun _ => []) (fun _ => [(0, .pointer (some ⟨gc, 0, none⟩)), (2, .pointer (some ⟨g2, 0, none⟩)), (3, .pointer (some ⟨g3, 0, none⟩))]) ?_ ?_
  · cases b5
    · repeat (first | refine SX.skip ?_ | refine SX.condF rfl ?_)
      refine SQ.join (s4) (hs4) ?_ (fun _ hl => hl)
      (repeat (first | exact subF_nil _ | (refine subF_cons rfl ?_) | (refine subF_consv rfl (by rfl) ?_)))
    · repeat (first | refine SX.seq ?_ | refine SX.region ?_ | refine SX.condT rfl ?_ | (refine l_move ?_; (refine SXl.v (OpW.move rfl) rfl ?_ ?_ ?_); rfl; rfl))
      skip
      refine l_call ?_
      refine SXl.draw (ξ := Val) (v := fun v => .agg v.cells.toArray) rfl rfl rfl (fun v => AllOk v.cells) (fun w hl => l04Value_d B gc w hl.inv) (fun x17 h17 => ?_)
      repeat (first | refine SXl.nil ?_ | refine SX.region ?_ | refine SQ.thenNormal ?_ | (refine l_fieldAddr ?_; (refine SXl.v (OpW.fieldAddr rfl) rfl ?_ ?_ ?_); rfl; rfl) | (refine l_move ?_; (refine SXl.v (OpW.move rfl) rfl ?_ ?_ ?_); rfl; rfl) | (refine l_store ?_; first | (refine SXl.store 0 ?_ rfl rfl rfl rfl rfl rfl ?_; rfl; simp only [List.set_cons_zero, List.set_cons_succ]) | (refine SXl.store 1 ?_ rfl rfl rfl rfl rfl rfl ?_; rfl; simp only [List.set_cons_zero, List.set_cons_succ]) | (refine SXl.store 2 ?_ rfl rfl rfl rfl rfl rfl ?_; rfl; simp only [List.set_cons_zero, List.set_cons_succ]) | (refine SXl.storeAll 0 ?_ rfl rfl rfl rfl rfl rfl rfl ?_; rfl; simp only [List.set_cons_zero, List.set_cons_succ]) | (refine SXl.storeAll 1 ?_ rfl rfl rfl rfl rfl rfl rfl ?_; rfl; simp only [List.set_cons_zero, List.set_cons_succ]) | (refine SXl.storeAll 2 ?_ rfl rfl rfl rfl rfl rfl rfl ?_; rfl; simp only [List.set_cons_zero, List.set_cons_succ]) | (refine SXl.storeRow 0 ?_ rfl rfl rfl rfl rfl rfl rfl ?_; rfl; simp only [over, List.set_cons_zero, List.set_cons_succ]) | (refine SXl.storeRow 1 ?_ rfl rfl rfl rfl rfl rfl rfl ?_; rfl; simp only [over, List.set_cons_zero, List.set_cons_succ]) | (refine SXl.storeRow 2 ?_ rfl rfl rfl rfl rfl rfl rfl ?_; rfl; simp only [over, List.set_cons_zero, List.set_cons_succ])))
      refine l_call ?_
      refine SXl.draw (ξ := Val) (v := fun v => .agg v.cells.toArray) rfl rfl rfl (fun v => AllOk v.cells) (fun w hl => l04Value_d B gc w hl.inv) (fun x18 h18 => ?_)
      repeat (first | refine SXl.nil ?_ | (refine l_fieldAddr ?_; (refine SXl.v (OpW.fieldAddr rfl) rfl ?_ ?_ ?_); rfl; rfl) | (refine l_store ?_; first | (refine SXl.store 0 ?_ rfl rfl rfl rfl rfl rfl ?_; rfl; simp only [List.set_cons_zero, List.set_cons_succ]) | (refine SXl.store 1 ?_ rfl rfl rfl rfl rfl rfl ?_; rfl; simp only [List.set_cons_zero, List.set_cons_succ]) | (refine SXl.store 2 ?_ rfl rfl rfl rfl rfl rfl ?_; rfl; simp only [List.set_cons_zero, List.set_cons_succ]) | (refine SXl.storeAll 0 ?_ rfl rfl rfl rfl rfl rfl rfl ?_; rfl; simp only [List.set_cons_zero, List.set_cons_succ]) | (refine SXl.storeAll 1 ?_ rfl rfl rfl rfl rfl rfl rfl ?_; rfl; simp only [List.set_cons_zero, List.set_cons_succ]) | (refine SXl.storeAll 2 ?_ rfl rfl rfl rfl rfl rfl rfl ?_; rfl; simp only [List.set_cons_zero, List.set_cons_succ]) | (refine SXl.storeRow 0 ?_ rfl rfl rfl rfl rfl rfl rfl ?_; rfl; simp only [over, List.set_cons_zero, List.set_cons_succ]) | (refine SXl.storeRow 1 ?_ rfl rfl rfl rfl rfl rfl rfl ?_; rfl; simp only [over, List.set_cons_zero, List.set_cons_succ]) | (refine SXl.storeRow 2 ?_ rfl rfl rfl rfl rfl rfl rfl ?_; rfl; simp only [over, List.set_cons_zero, List.set_cons_succ])))
      refine SQ.join ({ s4 with minHeight := x17, maxHeight := x18 }) ((AllOk.over (j := 23) (AllOk.over (j := 19) hs4 h17) h18)) ?_ (fun _ hl => hl)
      (repeat (first | exact subF_nil _ | (refine subF_cons rfl ?_) | (refine subF_consv rfl (by rfl) ?_)))
  intro s5 hs5
  repeat (first | refine SX.seq ?_ | refine SX.region ?_ | (refine l_move ?_; (refine SXl.v (OpW.move rfl) rfl ?_ ?_ ?_); rfl; rfl))
  refine l_call ?_
  refine SXl.draw (ξ := Bool) (v := fun b => .bool b) rfl rfl rfl (fun _ => True) (fun w hl => once_d B gc w hl.inv 8 (by decide)) (fun b6 _ => ?_)
  repeat (first | refine SXl.nil ?_ | refine SQ.thenNormal ?_)
  refine SX.join (ι := Style) (fun s => AllOk s.cells) (fun s => [⟨g3, s.cells, 31⟩, ⟨g2, (default : Style).cells, 31⟩]) (fun _ => []) (fun _ => []) (fun _ => [(0, .pointer (some ⟨gc, 0, none⟩)), (2, .pointer (some ⟨g2, 0, none⟩)), (3, .pointer (some ⟨g3, 0, none⟩))]) ?_ ?_
  · cases b6
    · repeat (first | refine SX.skip ?_ | refine SX.condF rfl ?_)
      refine SQ.join (s5) (hs5) ?_ (fun _ hl => hl)
      (repeat (first | exact subF_nil _ | (refine subF_cons rfl ?_) | (refine subF_consv rfl (by rfl) ?_)))
    · repeat (first | refine SX.region ?_ | refine SX.condT rfl ?_ | (refine l_move ?_; (refine SXl.v (OpW.move rfl) rfl ?_ ?_ ?_); rfl; rfl))
      skip
      refine l_buildSlice ?_
      refine SXl.lit (cells := [.int .i64 64, .int .i64 32, .int .i64 128, .int .i64 100, .int .i64 1, .int .i64 6400]) (z := .int .i64 0) ?_ ?_ rfl (by decide) (by kernel_rfl) rfl (fun gl => ?_)
      rfl; rfl
      skip
      refine l_call ?_
      refine SXl.draw (ξ := Int) (v := fun x => .int .i64 x) rfl rfl rfl (fun x => x ∈ ([64, 32, 128, 100, 1, 6400] : List Int)) (fun w hl => pick_d (l := [64, 32, 128, 100, 1, 6400]) hl (by decide) (by decide)) (fun x19 h19 => ?_)
      refine SXl.drop1 ?_
      have h19b : 0 ≤ x19 ∧ x19 ≤ 6400 := by simp at h19; omega
      repeat (first | refine SXl.nil ?_ | (refine l_fieldAddr ?_; (refine SXl.v (OpW.fieldAddr rfl) rfl ?_ ?_ ?_); rfl; rfl) | (refine l_store ?_; first | (refine SXl.store 0 ?_ rfl rfl rfl rfl rfl rfl ?_; rfl; simp only [List.set_cons_zero, List.set_cons_succ]) | (refine SXl.store 1 ?_ rfl rfl rfl rfl rfl rfl ?_; rfl; simp only [List.set_cons_zero, List.set_cons_succ]) | (refine SXl.store 2 ?_ rfl rfl rfl rfl rfl rfl ?_; rfl; simp only [List.set_cons_zero, List.set_cons_succ]) | (refine SXl.storeAll 0 ?_ rfl rfl rfl rfl rfl rfl rfl ?_; rfl; simp only [List.set_cons_zero, List.set_cons_succ]) | (refine SXl.storeAll 1 ?_ rfl rfl rfl rfl rfl rfl rfl ?_; rfl; simp only [List.set_cons_zero, List.set_cons_succ]) | (refine SXl.storeAll 2 ?_ rfl rfl rfl rfl rfl rfl rfl ?_; rfl; simp only [List.set_cons_zero, List.set_cons_succ]) | (refine SXl.storeRow 0 ?_ rfl rfl rfl rfl rfl rfl rfl ?_; rfl; simp only [over, List.set_cons_zero, List.set_cons_succ]) | (refine SXl.storeRow 1 ?_ rfl rfl rfl rfl rfl rfl rfl ?_; rfl; simp only [over, List.set_cons_zero, List.set_cons_succ]) | (refine SXl.storeRow 2 ?_ rfl rfl rfl rfl rfl rfl rfl ?_; rfl; simp only [over, List.set_cons_zero, List.set_cons_succ])))
      refine SQ.join ({ s5 with ratio := x19 }) ((hs5.set (cellOk_int (n := x19) ⟨by omega, by omega⟩) 25)) ?_ (fun _ hl => hl)
      (repeat (first | exact subF_nil _ | (refine subF_cons rfl ?_) | (refine subF_consv rfl (by rfl) ?_)))
  intro s6 hs6
  repeat (first | refine SX.seq ?_ | refine SX.region ?_ | (refine l_move ?_; (refine SXl.v (OpW.move rfl) rfl ?_ ?_ ?_); rfl; rfl))
  refine l_call ?_
  refine SXl.draw (ξ := Bool) (v := fun b => .bool b) rfl rfl rfl (fun _ => True) (fun w hl => once_d B gc w hl.inv 3 (by decide)) (fun b7 _ => ?_)
  repeat (first | refine SXl.nil ?_ | refine SQ.thenNormal ?_)
  refine SX.join (ι := Style) (fun s => AllOk s.cells) (fun s => [⟨g3, s.cells, 31⟩, ⟨g2, (default : Style).cells, 31⟩]) (fun _ => []) (fun _ => []) (fun _ => [(0, .pointer (some ⟨gc, 0, none⟩)), (2, .pointer (some ⟨g2, 0, none⟩)), (3, .pointer (some ⟨g3, 0, none⟩))]) ?_ ?_
  · cases b7
    · repeat (first | refine SX.skip ?_ | refine SX.condF rfl ?_)
      refine SQ.join (s6) (hs6) ?_ (fun _ hl => hl)
      (repeat (first | exact subF_nil _ | (refine subF_cons rfl ?_) | (refine subF_consv rfl (by rfl) ?_)))
    · repeat (first | refine SX.region ?_ | refine SX.condT rfl ?_ | (refine l_move ?_; (refine SXl.v (OpW.move rfl) rfl ?_ ?_ ?_); rfl; rfl))
      skip
      refine l_call ?_
      refine SXl.draw (ξ := Sides) (v := fun v => .agg v.cells.toArray) rfl rfl rfl (fun v => AllOk v.cells) (fun w hl => l05Sides_d B gc w hl.inv) (fun x20 h20 => ?_)
      repeat (first | refine SXl.nil ?_ | (refine l_fieldAddr ?_; (refine SXl.v (OpW.fieldAddr rfl) rfl ?_ ?_ ?_); rfl; rfl) | (refine l_store ?_; first | (refine SXl.store 0 ?_ rfl rfl rfl rfl rfl rfl ?_; rfl; simp only [List.set_cons_zero, List.set_cons_succ]) | (refine SXl.store 1 ?_ rfl rfl rfl rfl rfl rfl ?_; rfl; simp only [List.set_cons_zero, List.set_cons_succ]) | (refine SXl.store 2 ?_ rfl rfl rfl rfl rfl rfl ?_; rfl; simp only [List.set_cons_zero, List.set_cons_succ]) | (refine SXl.storeAll 0 ?_ rfl rfl rfl rfl rfl rfl rfl ?_; rfl; simp only [List.set_cons_zero, List.set_cons_succ]) | (refine SXl.storeAll 1 ?_ rfl rfl rfl rfl rfl rfl rfl ?_; rfl; simp only [List.set_cons_zero, List.set_cons_succ]) | (refine SXl.storeAll 2 ?_ rfl rfl rfl rfl rfl rfl rfl ?_; rfl; simp only [List.set_cons_zero, List.set_cons_succ]) | (refine SXl.storeRow 0 ?_ rfl rfl rfl rfl rfl rfl rfl ?_; rfl; simp only [over, List.set_cons_zero, List.set_cons_succ]) | (refine SXl.storeRow 1 ?_ rfl rfl rfl rfl rfl rfl rfl ?_; rfl; simp only [over, List.set_cons_zero, List.set_cons_succ]) | (refine SXl.storeRow 2 ?_ rfl rfl rfl rfl rfl rfl rfl ?_; rfl; simp only [over, List.set_cons_zero, List.set_cons_succ])))
      refine SQ.join ({ s6 with margin := x20 }) ((AllOk.over (j := 26) hs6 h20)) ?_ (fun _ hl => hl)
      (repeat (first | exact subF_nil _ | (refine subF_cons rfl ?_) | (refine subF_consv rfl (by rfl) ?_)))
  intro s7 hs7
  repeat (first | refine SX.seq ?_ | refine SX.region ?_ | (refine l_move ?_; (refine SXl.v (OpW.move rfl) rfl ?_ ?_ ?_); rfl; rfl))
  refine l_call ?_
  refine SXl.draw (ξ := Bool) (v := fun b => .bool b) rfl rfl rfl (fun _ => True) (fun w hl => once_d B gc w hl.inv 4 (by decide)) (fun b8 _ => ?_)
  repeat (first | refine SXl.nil ?_ | refine SQ.thenNormal ?_)
  refine SX.join (ι := Style) (fun s => AllOk s.cells) (fun s => [⟨g3, s.cells, 31⟩, ⟨g2, (default : Style).cells, 31⟩]) (fun _ => []) (fun _ => []) (fun _ => [(0, .pointer (some ⟨gc, 0, none⟩)), (2, .pointer (some ⟨g2, 0, none⟩)), (3, .pointer (some ⟨g3, 0, none⟩))]) ?_ ?_
  · cases b8
    · repeat (first | refine SX.skip ?_ | refine SX.condF rfl ?_)
      refine SQ.join (s7) (hs7) ?_ (fun _ hl => hl)
      (repeat (first | exact subF_nil _ | (refine subF_cons rfl ?_) | (refine subF_consv rfl (by rfl) ?_)))
    · repeat (first | refine SX.region ?_ | refine SX.condT rfl ?_ | (refine l_move ?_; (refine SXl.v (OpW.move rfl) rfl ?_ ?_ ?_); rfl; rfl))
      skip
      refine l_call ?_
      refine SXl.draw (ξ := Sides) (v := fun v => .agg v.cells.toArray) rfl rfl rfl (fun v => AllOk v.cells) (fun w hl => l05Sides_d B gc w hl.inv) (fun x21 h21 => ?_)
      repeat (first | refine SXl.nil ?_ | (refine l_fieldAddr ?_; (refine SXl.v (OpW.fieldAddr rfl) rfl ?_ ?_ ?_); rfl; rfl) | (refine l_store ?_; first | (refine SXl.store 0 ?_ rfl rfl rfl rfl rfl rfl ?_; rfl; simp only [List.set_cons_zero, List.set_cons_succ]) | (refine SXl.store 1 ?_ rfl rfl rfl rfl rfl rfl ?_; rfl; simp only [List.set_cons_zero, List.set_cons_succ]) | (refine SXl.store 2 ?_ rfl rfl rfl rfl rfl rfl ?_; rfl; simp only [List.set_cons_zero, List.set_cons_succ]) | (refine SXl.storeAll 0 ?_ rfl rfl rfl rfl rfl rfl rfl ?_; rfl; simp only [List.set_cons_zero, List.set_cons_succ]) | (refine SXl.storeAll 1 ?_ rfl rfl rfl rfl rfl rfl rfl ?_; rfl; simp only [List.set_cons_zero, List.set_cons_succ]) | (refine SXl.storeAll 2 ?_ rfl rfl rfl rfl rfl rfl rfl ?_; rfl; simp only [List.set_cons_zero, List.set_cons_succ]) | (refine SXl.storeRow 0 ?_ rfl rfl rfl rfl rfl rfl rfl ?_; rfl; simp only [over, List.set_cons_zero, List.set_cons_succ]) | (refine SXl.storeRow 1 ?_ rfl rfl rfl rfl rfl rfl rfl ?_; rfl; simp only [over, List.set_cons_zero, List.set_cons_succ]) | (refine SXl.storeRow 2 ?_ rfl rfl rfl rfl rfl rfl rfl ?_; rfl; simp only [over, List.set_cons_zero, List.set_cons_succ])))
      refine SQ.join ({ s7 with inset := x21 }) ((AllOk.over (j := 38) hs7 h21)) ?_ (fun _ hl => hl)
      (repeat (first | exact subF_nil _ | (refine subF_cons rfl ?_) | (refine subF_consv rfl (by rfl) ?_)))
  intro s8 hs8
  repeat (first | refine SX.seq ?_ | refine SX.region ?_ | (refine l_move ?_; (refine SXl.v (OpW.move rfl) rfl ?_ ?_ ?_); rfl; rfl))
  refine l_call ?_
  refine SXl.draw (ξ := Bool) (v := fun b => .bool b) rfl rfl rfl (fun _ => True) (fun w hl => once_d B gc w hl.inv 4 (by decide)) (fun b9 _ => ?_)
  repeat (first | refine SXl.nil ?_ | refine SQ.thenNormal ?_)
  refine SX.join (ι := Style) (fun s => AllOk s.cells) (fun s => [⟨g3, s.cells, 31⟩, ⟨g2, (default : Style).cells, 31⟩]) (fun _ => []) (fun _ => []) (fun _ => [(0, .pointer (some ⟨gc, 0, none⟩)), (2, .pointer (some ⟨g2, 0, none⟩)), (3, .pointer (some ⟨g3, 0, none⟩))]) ?_ ?_
  · cases b9
    · repeat (first | refine SX.skip ?_ | refine SX.condF rfl ?_)
      refine SQ.join (s8) (hs8) ?_ (fun _ hl => hl)
      (repeat (first | exact subF_nil _ | (refine subF_cons rfl ?_) | (refine subF_consv rfl (by rfl) ?_)))
    · repeat (first | refine SX.seq ?_ | refine SX.region ?_ | refine SX.condT rfl ?_ | (refine l_move ?_; (refine SXl.v (OpW.move rfl) rfl ?_ ?_ ?_); rfl; rfl))
      skip
      refine l_call ?_
      refine SXl.draw (ξ := Edges) (v := fun v => .agg v.cells.toArray) rfl rfl rfl (fun v => AllOk v.cells) (fun w hl => l05Edges_d B gc w hl.inv) (fun x22 h22 => ?_)
      repeat (first | refine SXl.nil ?_ | refine SX.region ?_ | refine SQ.thenNormal ?_ | (refine l_fieldAddr ?_; (refine SXl.v (OpW.fieldAddr rfl) rfl ?_ ?_ ?_); rfl; rfl) | (refine l_move ?_; (refine SXl.v (OpW.move rfl) rfl ?_ ?_ ?_); rfl; rfl) | (refine l_store ?_; first | (refine SXl.store 0 ?_ rfl rfl rfl rfl rfl rfl ?_; rfl; simp only [List.set_cons_zero, List.set_cons_succ]) | (refine SXl.store 1 ?_ rfl rfl rfl rfl rfl rfl ?_; rfl; simp only [List.set_cons_zero, List.set_cons_succ]) | (refine SXl.store 2 ?_ rfl rfl rfl rfl rfl rfl ?_; rfl; simp only [List.set_cons_zero, List.set_cons_succ]) | (refine SXl.storeAll 0 ?_ rfl rfl rfl rfl rfl rfl rfl ?_; rfl; simp only [List.set_cons_zero, List.set_cons_succ]) | (refine SXl.storeAll 1 ?_ rfl rfl rfl rfl rfl rfl rfl ?_; rfl; simp only [List.set_cons_zero, List.set_cons_succ]) | (refine SXl.storeAll 2 ?_ rfl rfl rfl rfl rfl rfl rfl ?_; rfl; simp only [List.set_cons_zero, List.set_cons_succ]) | (refine SXl.storeRow 0 ?_ rfl rfl rfl rfl rfl rfl rfl ?_; rfl; simp only [over, List.set_cons_zero, List.set_cons_succ]) | (refine SXl.storeRow 1 ?_ rfl rfl rfl rfl rfl rfl rfl ?_; rfl; simp only [over, List.set_cons_zero, List.set_cons_succ]) | (refine SXl.storeRow 2 ?_ rfl rfl rfl rfl rfl rfl rfl ?_; rfl; simp only [over, List.set_cons_zero, List.set_cons_succ])))
      refine l_call ?_
      refine SXl.draw (ξ := Edges) (v := fun v => .agg v.cells.toArray) rfl rfl rfl (fun v => AllOk v.cells) (fun w hl => l05Edges_d B gc w hl.inv) (fun x23 h23 => ?_)
      repeat (first | refine SXl.nil ?_ | (refine l_fieldAddr ?_; (refine SXl.v (OpW.fieldAddr rfl) rfl ?_ ?_ ?_); rfl; rfl) | (refine l_store ?_; first | (refine SXl.store 0 ?_ rfl rfl rfl rfl rfl rfl ?_; rfl; simp only [List.set_cons_zero, List.set_cons_succ]) | (refine SXl.store 1 ?_ rfl rfl rfl rfl rfl rfl ?_; rfl; simp only [List.set_cons_zero, List.set_cons_succ]) | (refine SXl.store 2 ?_ rfl rfl rfl rfl rfl rfl ?_; rfl; simp only [List.set_cons_zero, List.set_cons_succ]) | (refine SXl.storeAll 0 ?_ rfl rfl rfl rfl rfl rfl rfl ?_; rfl; simp only [List.set_cons_zero, List.set_cons_succ]) | (refine SXl.storeAll 1 ?_ rfl rfl rfl rfl rfl rfl rfl ?_; rfl; simp only [List.set_cons_zero, List.set_cons_succ]) | (refine SXl.storeAll 2 ?_ rfl rfl rfl rfl rfl rfl rfl ?_; rfl; simp only [List.set_cons_zero, List.set_cons_succ]) | (refine SXl.storeRow 0 ?_ rfl rfl rfl rfl rfl rfl rfl ?_; rfl; simp only [over, List.set_cons_zero, List.set_cons_succ]) | (refine SXl.storeRow 1 ?_ rfl rfl rfl rfl rfl rfl rfl ?_; rfl; simp only [over, List.set_cons_zero, List.set_cons_succ]) | (refine SXl.storeRow 2 ?_ rfl rfl rfl rfl rfl rfl rfl ?_; rfl; simp only [over, List.set_cons_zero, List.set_cons_succ])))
      refine SQ.join ({ s8 with pad := x22, border := x23 }) ((AllOk.over (j := 54) (AllOk.over (j := 50) hs8 h22) h23)) ?_ (fun _ hl => hl)
      (repeat (first | exact subF_nil _ | (refine subF_cons rfl ?_) | (refine subF_consv rfl (by rfl) ?_)))
  intro s9 hs9
  repeat (first | refine SX.seq ?_ | refine SX.region ?_ | (refine l_move ?_; (refine SXl.v (OpW.move rfl) rfl ?_ ?_ ?_); rfl; rfl))
  refine l_call ?_
  refine SXl.draw (ξ := Bool) (v := fun b => .bool b) rfl rfl rfl (fun _ => True) (fun w hl => once_d B gc w hl.inv 4 (by decide)) (fun b10 _ => ?_)
  repeat (first | refine SXl.nil ?_ | refine SQ.thenNormal ?_)
  refine SX.join (ι := Style) (fun s => AllOk s.cells) (fun s => [⟨g3, s.cells, 31⟩, ⟨g2, (default : Style).cells, 31⟩]) (fun _ => []) (fun _ => []) (fun _ => [(0, .pointer (some ⟨gc, 0, none⟩)), (2, .pointer (some ⟨g2, 0, none⟩)), (3, .pointer (some ⟨g3, 0, none⟩))]) ?_ ?_
  · cases b10
    · repeat (first | refine SX.skip ?_ | refine SX.condF rfl ?_)
      refine SQ.join (s9) (hs9) ?_ (fun _ hl => hl)
      (repeat (first | exact subF_nil _ | (refine subF_cons rfl ?_) | (refine subF_consv rfl (by rfl) ?_)))
    · repeat (first | refine SX.seq ?_ | refine SX.region ?_ | refine SX.condT rfl ?_ | (refine l_move ?_; (refine SXl.v (OpW.move rfl) rfl ?_ ?_ ?_); rfl; rfl))
      skip
      refine l_call ?_
      refine SXl.draw (ξ := Int) (v := fun x : Int => .int .i64 x) rfl rfl rfl (fun x => 0 ≤ x ∧ x < 100) (fun w hl => below_d B gc w hl.inv 100 (by decide) (by decide)) (fun x24 h24 => ?_)
      repeat (first | refine SXl.nil ?_ | refine SX.region ?_ | refine SQ.thenNormal ?_ | (refine l_fieldAddr ?_; (refine SXl.v (OpW.fieldAddr rfl) rfl ?_ ?_ ?_); rfl; rfl) | (refine l_move ?_; (refine SXl.v (OpW.move rfl) rfl ?_ ?_ ?_); rfl; rfl) | (refine l_store ?_; first | (refine SXl.store 0 ?_ rfl rfl rfl rfl rfl rfl ?_; rfl; simp only [List.set_cons_zero, List.set_cons_succ]) | (refine SXl.store 1 ?_ rfl rfl rfl rfl rfl rfl ?_; rfl; simp only [List.set_cons_zero, List.set_cons_succ]) | (refine SXl.store 2 ?_ rfl rfl rfl rfl rfl rfl ?_; rfl; simp only [List.set_cons_zero, List.set_cons_succ]) | (refine SXl.storeAll 0 ?_ rfl rfl rfl rfl rfl rfl rfl ?_; rfl; simp only [List.set_cons_zero, List.set_cons_succ]) | (refine SXl.storeAll 1 ?_ rfl rfl rfl rfl rfl rfl rfl ?_; rfl; simp only [List.set_cons_zero, List.set_cons_succ]) | (refine SXl.storeAll 2 ?_ rfl rfl rfl rfl rfl rfl rfl ?_; rfl; simp only [List.set_cons_zero, List.set_cons_succ]) | (refine SXl.storeRow 0 ?_ rfl rfl rfl rfl rfl rfl rfl ?_; rfl; simp only [over, List.set_cons_zero, List.set_cons_succ]) | (refine SXl.storeRow 1 ?_ rfl rfl rfl rfl rfl rfl rfl ?_; rfl; simp only [over, List.set_cons_zero, List.set_cons_succ]) | (refine SXl.storeRow 2 ?_ rfl rfl rfl rfl rfl rfl rfl ?_; rfl; simp only [over, List.set_cons_zero, List.set_cons_succ])))
      refine l_call ?_
      refine SXl.draw (ξ := Int) (v := fun x : Int => .int .i64 x) rfl rfl rfl (fun x => 0 ≤ x ∧ x < 100) (fun w hl => below_d B gc w hl.inv 100 (by decide) (by decide)) (fun x25 h25 => ?_)
      repeat (first | refine SXl.nil ?_ | (refine l_fieldAddr ?_; (refine SXl.v (OpW.fieldAddr rfl) rfl ?_ ?_ ?_); rfl; rfl) | (refine l_store ?_; first | (refine SXl.store 0 ?_ rfl rfl rfl rfl rfl rfl ?_; rfl; simp only [List.set_cons_zero, List.set_cons_succ]) | (refine SXl.store 1 ?_ rfl rfl rfl rfl rfl rfl ?_; rfl; simp only [List.set_cons_zero, List.set_cons_succ]) | (refine SXl.store 2 ?_ rfl rfl rfl rfl rfl rfl ?_; rfl; simp only [List.set_cons_zero, List.set_cons_succ]) | (refine SXl.storeAll 0 ?_ rfl rfl rfl rfl rfl rfl rfl ?_; rfl; simp only [List.set_cons_zero, List.set_cons_succ]) | (refine SXl.storeAll 1 ?_ rfl rfl rfl rfl rfl rfl rfl ?_; rfl; simp only [List.set_cons_zero, List.set_cons_succ]) | (refine SXl.storeAll 2 ?_ rfl rfl rfl rfl rfl rfl rfl ?_; rfl; simp only [List.set_cons_zero, List.set_cons_succ]) | (refine SXl.storeRow 0 ?_ rfl rfl rfl rfl rfl rfl rfl ?_; rfl; simp only [over, List.set_cons_zero, List.set_cons_succ]) | (refine SXl.storeRow 1 ?_ rfl rfl rfl rfl rfl rfl rfl ?_; rfl; simp only [over, List.set_cons_zero, List.set_cons_succ]) | (refine SXl.storeRow 2 ?_ rfl rfl rfl rfl rfl rfl rfl ?_; rfl; simp only [over, List.set_cons_zero, List.set_cons_succ])))
      refine SQ.join ({ s9 with rowGap := x24, colGap := x25 }) (((hs9.set (cellOk_int (n := x24) ⟨by omega, by omega⟩) 58).set (cellOk_int (n := x25) ⟨by omega, by omega⟩) 59)) ?_ (fun _ hl => hl)
      (repeat (first | exact subF_nil _ | (refine subF_cons rfl ?_) | (refine subF_consv rfl (by rfl) ?_)))
  intro s10 hs10
  repeat (first | refine SX.seq ?_ | refine SXl.nil ?_ | refine SX.region ?_ | refine SQ.thenNormal ?_ | (refine l_load ?_; (refine SXl.v (OpW.loadAll 0 rfl rfl rfl) rfl ?_ ?_ ?_); rfl; rfl) | (refine l_store ?_; first | (refine SXl.store 0 ?_ rfl rfl rfl rfl rfl rfl ?_; rfl; simp only [List.set_cons_zero, List.set_cons_succ]) | (refine SXl.store 1 ?_ rfl rfl rfl rfl rfl rfl ?_; rfl; simp only [List.set_cons_zero, List.set_cons_succ]) | (refine SXl.store 2 ?_ rfl rfl rfl rfl rfl rfl ?_; rfl; simp only [List.set_cons_zero, List.set_cons_succ]) | (refine SXl.storeAll 0 ?_ rfl rfl rfl rfl rfl rfl rfl ?_; rfl; simp only [List.set_cons_zero, List.set_cons_succ]) | (refine SXl.storeAll 1 ?_ rfl rfl rfl rfl rfl rfl rfl ?_; rfl; simp only [List.set_cons_zero, List.set_cons_succ]) | (refine SXl.storeAll 2 ?_ rfl rfl rfl rfl rfl rfl rfl ?_; rfl; simp only [List.set_cons_zero, List.set_cons_succ]) | (refine SXl.storeRow 0 ?_ rfl rfl rfl rfl rfl rfl rfl ?_; rfl; simp only [over, List.set_cons_zero, List.set_cons_succ]) | (refine SXl.storeRow 1 ?_ rfl rfl rfl rfl rfl rfl rfl ?_; rfl; simp only [over, List.set_cons_zero, List.set_cons_succ]) | (refine SXl.storeRow 2 ?_ rfl rfl rfl rfl rfl rfl rfl ?_; rfl; simp only [over, List.set_cons_zero, List.set_cons_succ])) | refine SX.ret ?_)
  refine SQ.bodyCell 1 rfl rfl rfl rfl (fun w' hl => ⟨s10, rfl, hs10, hl.mod, hl.inv⟩)

set_option maxRecDepth 100000 in
set_option maxHeartbeats 8000000 in
theorem l06Any_d (B gc : Nat) (w : World) (hc : Cur B 75 w gc) : Calls Tryz.prog 15 #[.pointer (some ⟨gc, 0, none⟩)] w (DrewV 75 B gc w (fun v : Style => .agg v.cells.toArray) (fun v => AllOk v.cells)) := by
  refine calls_draw (as_ := [.pointer (some ⟨gc, 0, none⟩)]) hc Tryz.func15 rfl rfl (fun a h1 h2 h3 => ((Fr.nil h1 h2).arg (h3 0 _ rfl))) ?_
  repeat (first | refine SX.seq ?_ | refine SXl.nil ?_ | refine SX.region ?_ | refine SQ.thenNormal ?_ | (refine l_move ?_; (refine SXl.v (OpW.move rfl) rfl ?_ ?_ ?_); rfl; rfl) | (refine l_alloc ?_; refine SXl.alloc ?_ ?_ (fun g => ?_); rfl; rfl))
  refine l_call ?_
  refine SXl.draw (ξ := Style) (v := fun v => .agg v.cells.toArray) rfl rfl rfl (fun v => AllOk v.cells) (fun w hl => l06Style_d B gc w hl.inv) (fun s hs => ?_)
  repeat (first | refine SX.seq ?_ | refine SXl.nil ?_ | refine SX.region ?_ | refine SQ.thenNormal ?_ | (refine l_move ?_; (refine SXl.v (OpW.move rfl) rfl ?_ ?_ ?_); rfl; rfl) | (refine l_alloc ?_; refine SXl.alloc ?_ ?_ (fun g => ?_); rfl; rfl) | (refine l_store ?_; first | (refine SXl.store 0 ?_ rfl rfl rfl rfl rfl rfl ?_; rfl; simp only [List.set_cons_zero, List.set_cons_succ]) | (refine SXl.store 1 ?_ rfl rfl rfl rfl rfl rfl ?_; rfl; simp only [List.set_cons_zero, List.set_cons_succ]) | (refine SXl.store 2 ?_ rfl rfl rfl rfl rfl rfl ?_; rfl; simp only [List.set_cons_zero, List.set_cons_succ]) | (refine SXl.storeAll 0 ?_ rfl rfl rfl rfl rfl rfl rfl ?_; rfl; simp only [List.set_cons_zero, List.set_cons_succ]) | (refine SXl.storeAll 1 ?_ rfl rfl rfl rfl rfl rfl rfl ?_; rfl; simp only [List.set_cons_zero, List.set_cons_succ]) | (refine SXl.storeAll 2 ?_ rfl rfl rfl rfl rfl rfl rfl ?_; rfl; simp only [List.set_cons_zero, List.set_cons_succ]) | (refine SXl.storeRow 0 ?_ rfl rfl rfl rfl rfl rfl rfl ?_; rfl; simp only [over, List.set_cons_zero, List.set_cons_succ]) | (refine SXl.storeRow 1 ?_ rfl rfl rfl rfl rfl rfl rfl ?_; rfl; simp only [over, List.set_cons_zero, List.set_cons_succ]) | (refine SXl.storeRow 2 ?_ rfl rfl rfl rfl rfl rfl rfl ?_; rfl; simp only [over, List.set_cons_zero, List.set_cons_succ])))
  refine l_buildSlice ?_
  refine SXl.lit (cells := [.int .i64 0, .int .i64 (-1), .int .i64 7, .int .i64 1001, .int .i64 (-1001), .int .i64 6401, .int .i64 1048577, .int .i64 9223372036854775807]) (z := .int .i64 0) ?_ ?_ rfl (by decide) (by kernel_rfl) rfl (fun gl => ?_)
  rfl; rfl
  skip
  refine l_call ?_
  refine SXl.draw (ξ := Int) (v := fun x => .int .i64 x) rfl rfl rfl (fun x => x ∈ ([0, -1, 7, 1001, -1001, 6401, 1048577, 9223372036854775807] : List Int)) (fun w hl => pick_d (l := [0, -1, 7, 1001, -1001, 6401, 1048577, 9223372036854775807]) hl (by decide) (by decide)) (fun x hx => ?_)
  refine SXl.drop1 ?_
  have hxb : I64 x := by simp at hx; exact ⟨by omega, by omega⟩
  repeat (first | refine SX.seq ?_ | refine SXl.nil ?_ | refine SX.region ?_ | refine SQ.thenNormal ?_ | (refine l_move ?_; (refine SXl.v (OpW.move rfl) rfl ?_ ?_ ?_); rfl; rfl) | (refine l_assign ?_; (refine SXl.v (OpW.assign rfl) rfl ?_ ?_ ?_); rfl; rfl))
  refine l_call ?_
  refine SXl.draw (ξ := Int) (v := fun x : Int => .int .i64 x) rfl rfl rfl (fun x => 0 ≤ x ∧ x < 24) (fun w hl => below_d B gc w hl.inv 24 (by decide) (by decide)) (fun y hy => ?_)
  by_cases y0 : y = 0
  · repeat (first | refine SX.seq ?_ | refine SXl.nil ?_ | refine SX.region ?_ | refine SQ.thenNormal ?_ | refine SX.block ?_ | refine SX.condT rfl ?_ | (refine l_load ?_; (refine SXl.v (OpW.loadAll 0 rfl rfl rfl) rfl ?_ ?_ ?_); rfl; rfl) | (refine l_fieldAddr ?_; (refine SXl.v (OpW.fieldAddr rfl) rfl ?_ ?_ ?_); rfl; rfl) | (refine l_move ?_; (refine SXl.v (OpW.move rfl) rfl ?_ ?_ ?_); rfl; rfl) | (refine l_assign ?_; (refine SXl.v (OpW.assign rfl) rfl ?_ ?_ ?_); rfl; rfl) | (refine l_eql ?_; (refine SXl.v (OpW.eqlT rfl rfl (by omega)) rfl ?_ ?_ ?_); rfl; rfl) | (refine l_store ?_; first | (refine SXl.store 0 ?_ rfl rfl rfl rfl rfl rfl ?_; rfl; simp only [List.set_cons_zero, List.set_cons_succ]) | (refine SXl.store 1 ?_ rfl rfl rfl rfl rfl rfl ?_; rfl; simp only [List.set_cons_zero, List.set_cons_succ]) | (refine SXl.store 2 ?_ rfl rfl rfl rfl rfl rfl ?_; rfl; simp only [List.set_cons_zero, List.set_cons_succ]) | (refine SXl.storeAll 0 ?_ rfl rfl rfl rfl rfl rfl rfl ?_; rfl; simp only [List.set_cons_zero, List.set_cons_succ]) | (refine SXl.storeAll 1 ?_ rfl rfl rfl rfl rfl rfl rfl ?_; rfl; simp only [List.set_cons_zero, List.set_cons_succ]) | (refine SXl.storeAll 2 ?_ rfl rfl rfl rfl rfl rfl rfl ?_; rfl; simp only [List.set_cons_zero, List.set_cons_succ]) | (refine SXl.storeRow 0 ?_ rfl rfl rfl rfl rfl rfl rfl ?_; rfl; simp only [over, List.set_cons_zero, List.set_cons_succ]) | (refine SXl.storeRow 1 ?_ rfl rfl rfl rfl rfl rfl rfl ?_; rfl; simp only [over, List.set_cons_zero, List.set_cons_succ]) | (refine SXl.storeRow 2 ?_ rfl rfl rfl rfl rfl rfl rfl ?_; rfl; simp only [over, List.set_cons_zero, List.set_cons_succ])) | refine SX.ret ?_ | refine SQ.blockNormal ?_)
    refine SQ.bodyCell 1 rfl rfl rfl rfl (fun w' hl => ⟨{ s with dir := x }, rfl, (hs.set (cellOk_int (n := x) hxb) 0), hl.mod, hl.inv⟩)
  by_cases y1 : y = 1
  · repeat (first | refine SX.seq ?_ | refine SXl.nil ?_ | refine SX.region ?_ | refine SQ.thenNormal ?_ | refine SX.block ?_ | refine SX.condT rfl ?_ | refine SX.condF rfl ?_ | (refine l_load ?_; (refine SXl.v (OpW.loadAll 0 rfl rfl rfl) rfl ?_ ?_ ?_); rfl; rfl) | (refine l_fieldAddr ?_; (refine SXl.v (OpW.fieldAddr rfl) rfl ?_ ?_ ?_); rfl; rfl) | (refine l_move ?_; (refine SXl.v (OpW.move rfl) rfl ?_ ?_ ?_); rfl; rfl) | (refine l_assign ?_; (refine SXl.v (OpW.assign rfl) rfl ?_ ?_ ?_); rfl; rfl) | (refine l_eql ?_; (first | refine SXl.v (OpW.eqlT rfl rfl (by omega)) rfl ?_ ?_ ?_ | refine SXl.v (OpW.eqlF rfl rfl (by omega)) rfl ?_ ?_ ?_); rfl; rfl) | (refine l_store ?_; first | (refine SXl.store 0 ?_ rfl rfl rfl rfl rfl rfl ?_; rfl; simp only [List.set_cons_zero, List.set_cons_succ]) | (refine SXl.store 1 ?_ rfl rfl rfl rfl rfl rfl ?_; rfl; simp only [List.set_cons_zero, List.set_cons_succ]) | (refine SXl.store 2 ?_ rfl rfl rfl rfl rfl rfl ?_; rfl; simp only [List.set_cons_zero, List.set_cons_succ]) | (refine SXl.storeAll 0 ?_ rfl rfl rfl rfl rfl rfl rfl ?_; rfl; simp only [List.set_cons_zero, List.set_cons_succ]) | (refine SXl.storeAll 1 ?_ rfl rfl rfl rfl rfl rfl rfl ?_; rfl; simp only [List.set_cons_zero, List.set_cons_succ]) | (refine SXl.storeAll 2 ?_ rfl rfl rfl rfl rfl rfl rfl ?_; rfl; simp only [List.set_cons_zero, List.set_cons_succ]) | (refine SXl.storeRow 0 ?_ rfl rfl rfl rfl rfl rfl rfl ?_; rfl; simp only [over, List.set_cons_zero, List.set_cons_succ]) | (refine SXl.storeRow 1 ?_ rfl rfl rfl rfl rfl rfl rfl ?_; rfl; simp only [over, List.set_cons_zero, List.set_cons_succ]) | (refine SXl.storeRow 2 ?_ rfl rfl rfl rfl rfl rfl rfl ?_; rfl; simp only [over, List.set_cons_zero, List.set_cons_succ])) | refine SX.ret ?_ | refine SQ.blockNormal ?_)
    refine SQ.bodyCell 1 rfl rfl rfl rfl (fun w' hl => ⟨{ s with items := x }, rfl, (hs.set (cellOk_int (n := x) hxb) 3), hl.mod, hl.inv⟩)
  by_cases y2 : y = 2
  · repeat (first | refine SX.seq ?_ | refine SXl.nil ?_ | refine SX.region ?_ | refine SQ.thenNormal ?_ | refine SX.block ?_ | refine SX.condT rfl ?_ | refine SX.condF rfl ?_ | (refine l_load ?_; (refine SXl.v (OpW.loadAll 0 rfl rfl rfl) rfl ?_ ?_ ?_); rfl; rfl) | (refine l_fieldAddr ?_; (refine SXl.v (OpW.fieldAddr rfl) rfl ?_ ?_ ?_); rfl; rfl) | (refine l_move ?_; (refine SXl.v (OpW.move rfl) rfl ?_ ?_ ?_); rfl; rfl) | (refine l_assign ?_; (refine SXl.v (OpW.assign rfl) rfl ?_ ?_ ?_); rfl; rfl) | (refine l_eql ?_; (first | refine SXl.v (OpW.eqlT rfl rfl (by omega)) rfl ?_ ?_ ?_ | refine SXl.v (OpW.eqlF rfl rfl (by omega)) rfl ?_ ?_ ?_); rfl; rfl) | (refine l_store ?_; first | (refine SXl.store 0 ?_ rfl rfl rfl rfl rfl rfl ?_; rfl; simp only [List.set_cons_zero, List.set_cons_succ]) | (refine SXl.store 1 ?_ rfl rfl rfl rfl rfl rfl ?_; rfl; simp only [List.set_cons_zero, List.set_cons_succ]) | (refine SXl.store 2 ?_ rfl rfl rfl rfl rfl rfl ?_; rfl; simp only [List.set_cons_zero, List.set_cons_succ]) | (refine SXl.storeAll 0 ?_ rfl rfl rfl rfl rfl rfl rfl ?_; rfl; simp only [List.set_cons_zero, List.set_cons_succ]) | (refine SXl.storeAll 1 ?_ rfl rfl rfl rfl rfl rfl rfl ?_; rfl; simp only [List.set_cons_zero, List.set_cons_succ]) | (refine SXl.storeAll 2 ?_ rfl rfl rfl rfl rfl rfl rfl ?_; rfl; simp only [List.set_cons_zero, List.set_cons_succ]) | (refine SXl.storeRow 0 ?_ rfl rfl rfl rfl rfl rfl rfl ?_; rfl; simp only [over, List.set_cons_zero, List.set_cons_succ]) | (refine SXl.storeRow 1 ?_ rfl rfl rfl rfl rfl rfl rfl ?_; rfl; simp only [over, List.set_cons_zero, List.set_cons_succ]) | (refine SXl.storeRow 2 ?_ rfl rfl rfl rfl rfl rfl rfl ?_; rfl; simp only [over, List.set_cons_zero, List.set_cons_succ])) | refine SX.ret ?_ | refine SQ.blockNormal ?_)
    refine SQ.bodyCell 1 rfl rfl rfl rfl (fun w' hl => ⟨{ s with self := x }, rfl, (hs.set (cellOk_int (n := x) hxb) 4), hl.mod, hl.inv⟩)
  by_cases y3 : y = 3
  · repeat (first | refine SX.seq ?_ | refine SXl.nil ?_ | refine SX.region ?_ | refine SQ.thenNormal ?_ | refine SX.block ?_ | refine SX.condT rfl ?_ | refine SX.condF rfl ?_ | (refine l_load ?_; (refine SXl.v (OpW.loadAll 0 rfl rfl rfl) rfl ?_ ?_ ?_); rfl; rfl) | (refine l_fieldAddr ?_; (refine SXl.v (OpW.fieldAddr rfl) rfl ?_ ?_ ?_); rfl; rfl) | (refine l_move ?_; (refine SXl.v (OpW.move rfl) rfl ?_ ?_ ?_); rfl; rfl) | (refine l_assign ?_; (refine SXl.v (OpW.assign rfl) rfl ?_ ?_ ?_); rfl; rfl) | (refine l_eql ?_; (first | refine SXl.v (OpW.eqlT rfl rfl (by omega)) rfl ?_ ?_ ?_ | refine SXl.v (OpW.eqlF rfl rfl (by omega)) rfl ?_ ?_ ?_); rfl; rfl) | (refine l_store ?_; first | (refine SXl.store 0 ?_ rfl rfl rfl rfl rfl rfl ?_; rfl; simp only [List.set_cons_zero, List.set_cons_succ]) | (refine SXl.store 1 ?_ rfl rfl rfl rfl rfl rfl ?_; rfl; simp only [List.set_cons_zero, List.set_cons_succ]) | (refine SXl.store 2 ?_ rfl rfl rfl rfl rfl rfl ?_; rfl; simp only [List.set_cons_zero, List.set_cons_succ]) | (refine SXl.storeAll 0 ?_ rfl rfl rfl rfl rfl rfl rfl ?_; rfl; simp only [List.set_cons_zero, List.set_cons_succ]) | (refine SXl.storeAll 1 ?_ rfl rfl rfl rfl rfl rfl rfl ?_; rfl; simp only [List.set_cons_zero, List.set_cons_succ]) | (refine SXl.storeAll 2 ?_ rfl rfl rfl rfl rfl rfl rfl ?_; rfl; simp only [List.set_cons_zero, List.set_cons_succ]) | (refine SXl.storeRow 0 ?_ rfl rfl rfl rfl rfl rfl rfl ?_; rfl; simp only [over, List.set_cons_zero, List.set_cons_succ]) | (refine SXl.storeRow 1 ?_ rfl rfl rfl rfl rfl rfl rfl ?_; rfl; simp only [over, List.set_cons_zero, List.set_cons_succ]) | (refine SXl.storeRow 2 ?_ rfl rfl rfl rfl rfl rfl rfl ?_; rfl; simp only [over, List.set_cons_zero, List.set_cons_succ])) | refine SX.ret ?_ | refine SQ.blockNormal ?_)
    refine SQ.bodyCell 1 rfl rfl rfl rfl (fun w' hl => ⟨{ s with grow := x }, rfl, (hs.set (cellOk_int (n := x) hxb) 9), hl.mod, hl.inv⟩)
  by_cases y4 : y = 4
  · repeat (first | refine SX.seq ?_ | refine SXl.nil ?_ | refine SX.region ?_ | refine SQ.thenNormal ?_ | refine SX.block ?_ | refine SX.condT rfl ?_ | refine SX.condF rfl ?_ | (refine l_load ?_; (refine SXl.v (OpW.loadAll 0 rfl rfl rfl) rfl ?_ ?_ ?_); rfl; rfl) | (refine l_fieldAddr ?_; (refine SXl.v (OpW.fieldAddr rfl) rfl ?_ ?_ ?_); rfl; rfl) | (refine l_move ?_; (refine SXl.v (OpW.move rfl) rfl ?_ ?_ ?_); rfl; rfl) | (refine l_assign ?_; (refine SXl.v (OpW.assign rfl) rfl ?_ ?_ ?_); rfl; rfl) | (refine l_eql ?_; (first | refine SXl.v (OpW.eqlT rfl rfl (by omega)) rfl ?_ ?_ ?_ | refine SXl.v (OpW.eqlF rfl rfl (by omega)) rfl ?_ ?_ ?_); rfl; rfl) | (refine l_store ?_; first | (refine SXl.store 0 ?_ rfl rfl rfl rfl rfl rfl ?_; rfl; simp only [List.set_cons_zero, List.set_cons_succ]) | (refine SXl.store 1 ?_ rfl rfl rfl rfl rfl rfl ?_; rfl; simp only [List.set_cons_zero, List.set_cons_succ]) | (refine SXl.store 2 ?_ rfl rfl rfl rfl rfl rfl ?_; rfl; simp only [List.set_cons_zero, List.set_cons_succ]) | (refine SXl.storeAll 0 ?_ rfl rfl rfl rfl rfl rfl rfl ?_; rfl; simp only [List.set_cons_zero, List.set_cons_succ]) | (refine SXl.storeAll 1 ?_ rfl rfl rfl rfl rfl rfl rfl ?_; rfl; simp only [List.set_cons_zero, List.set_cons_succ]) | (refine SXl.storeAll 2 ?_ rfl rfl rfl rfl rfl rfl rfl ?_; rfl; simp only [List.set_cons_zero, List.set_cons_succ]) | (refine SXl.storeRow 0 ?_ rfl rfl rfl rfl rfl rfl rfl ?_; rfl; simp only [over, List.set_cons_zero, List.set_cons_succ]) | (refine SXl.storeRow 1 ?_ rfl rfl rfl rfl rfl rfl rfl ?_; rfl; simp only [over, List.set_cons_zero, List.set_cons_succ]) | (refine SXl.storeRow 2 ?_ rfl rfl rfl rfl rfl rfl rfl ?_; rfl; simp only [over, List.set_cons_zero, List.set_cons_succ])) | refine SX.ret ?_ | refine SQ.blockNormal ?_)
    refine SQ.bodyCell 1 rfl rfl rfl rfl (fun w' hl => ⟨{ s with order := x }, rfl, (hs.set (cellOk_int (n := x) hxb) 8), hl.mod, hl.inv⟩)
  by_cases y5 : y = 5
  · repeat (first | refine SX.seq ?_ | refine SXl.nil ?_ | refine SX.region ?_ | refine SQ.thenNormal ?_ | refine SX.block ?_ | refine SX.condT rfl ?_ | refine SX.condF rfl ?_ | (refine l_load ?_; (refine SXl.v (OpW.loadAll 0 rfl rfl rfl) rfl ?_ ?_ ?_); rfl; rfl) | (refine l_fieldAddr ?_; (refine SXl.v (OpW.fieldAddr rfl) rfl ?_ ?_ ?_); rfl; rfl) | (refine l_move ?_; (refine SXl.v (OpW.move rfl) rfl ?_ ?_ ?_); rfl; rfl) | (refine l_assign ?_; (refine SXl.v (OpW.assign rfl) rfl ?_ ?_ ?_); rfl; rfl) | (refine l_eql ?_; (first | refine SXl.v (OpW.eqlT rfl rfl (by omega)) rfl ?_ ?_ ?_ | refine SXl.v (OpW.eqlF rfl rfl (by omega)) rfl ?_ ?_ ?_); rfl; rfl) | (refine l_store ?_; first | (refine SXl.store 0 ?_ rfl rfl rfl rfl rfl rfl ?_; rfl; simp only [List.set_cons_zero, List.set_cons_succ]) | (refine SXl.store 1 ?_ rfl rfl rfl rfl rfl rfl ?_; rfl; simp only [List.set_cons_zero, List.set_cons_succ]) | (refine SXl.store 2 ?_ rfl rfl rfl rfl rfl rfl ?_; rfl; simp only [List.set_cons_zero, List.set_cons_succ]) | (refine SXl.storeAll 0 ?_ rfl rfl rfl rfl rfl rfl rfl ?_; rfl; simp only [List.set_cons_zero, List.set_cons_succ]) | (refine SXl.storeAll 1 ?_ rfl rfl rfl rfl rfl rfl rfl ?_; rfl; simp only [List.set_cons_zero, List.set_cons_succ]) | (refine SXl.storeAll 2 ?_ rfl rfl rfl rfl rfl rfl rfl ?_; rfl; simp only [List.set_cons_zero, List.set_cons_succ]) | (refine SXl.storeRow 0 ?_ rfl rfl rfl rfl rfl rfl rfl ?_; rfl; simp only [over, List.set_cons_zero, List.set_cons_succ]) | (refine SXl.storeRow 1 ?_ rfl rfl rfl rfl rfl rfl rfl ?_; rfl; simp only [over, List.set_cons_zero, List.set_cons_succ]) | (refine SXl.storeRow 2 ?_ rfl rfl rfl rfl rfl rfl rfl ?_; rfl; simp only [over, List.set_cons_zero, List.set_cons_succ])) | refine SX.ret ?_ | refine SQ.blockNormal ?_)
    refine SQ.bodyCell 1 rfl rfl rfl rfl (fun w' hl => ⟨{ s with ratio := x }, rfl, (hs.set (cellOk_int (n := x) hxb) 25), hl.mod, hl.inv⟩)
  by_cases y6 : y = 6
  · repeat (first | refine SX.seq ?_ | refine SXl.nil ?_ | refine SX.region ?_ | refine SQ.thenNormal ?_ | refine SX.block ?_ | refine SX.condT rfl ?_ | refine SX.condF rfl ?_ | (refine l_move ?_; (refine SXl.v (OpW.move rfl) rfl ?_ ?_ ?_); rfl; rfl) | (refine l_assign ?_; (refine SXl.v (OpW.assign rfl) rfl ?_ ?_ ?_); rfl; rfl) | (refine l_eql ?_; (first | refine SXl.v (OpW.eqlT rfl rfl (by omega)) rfl ?_ ?_ ?_ | refine SXl.v (OpW.eqlF rfl rfl (by omega)) rfl ?_ ?_ ?_); rfl; rfl))
    refine l_call ?_
    refine SXl.draw (ξ := Val) (v := fun v => .agg v.cells.toArray) rfl rfl rfl (fun v => AllOk v.cells) (fun w hl => l04Any_d B gc w hl.inv) (fun v hv => ?_)
    repeat (first | refine SX.seq ?_ | refine SXl.nil ?_ | refine SX.region ?_ | refine SQ.thenNormal ?_ | (refine l_load ?_; (refine SXl.v (OpW.loadAll 0 rfl rfl rfl) rfl ?_ ?_ ?_); rfl; rfl) | (refine l_fieldAddr ?_; (refine SXl.v (OpW.fieldAddr rfl) rfl ?_ ?_ ?_); rfl; rfl) | (refine l_store ?_; first | (refine SXl.store 0 ?_ rfl rfl rfl rfl rfl rfl ?_; rfl; simp only [List.set_cons_zero, List.set_cons_succ]) | (refine SXl.store 1 ?_ rfl rfl rfl rfl rfl rfl ?_; rfl; simp only [List.set_cons_zero, List.set_cons_succ]) | (refine SXl.store 2 ?_ rfl rfl rfl rfl rfl rfl ?_; rfl; simp only [List.set_cons_zero, List.set_cons_succ]) | (refine SXl.storeAll 0 ?_ rfl rfl rfl rfl rfl rfl rfl ?_; rfl; simp only [List.set_cons_zero, List.set_cons_succ]) | (refine SXl.storeAll 1 ?_ rfl rfl rfl rfl rfl rfl rfl ?_; rfl; simp only [List.set_cons_zero, List.set_cons_succ]) | (refine SXl.storeAll 2 ?_ rfl rfl rfl rfl rfl rfl rfl ?_; rfl; simp only [List.set_cons_zero, List.set_cons_succ]) | (refine SXl.storeRow 0 ?_ rfl rfl rfl rfl rfl rfl rfl ?_; rfl; simp only [over, List.set_cons_zero, List.set_cons_succ]) | (refine SXl.storeRow 1 ?_ rfl rfl rfl rfl rfl rfl rfl ?_; rfl; simp only [over, List.set_cons_zero, List.set_cons_succ]) | (refine SXl.storeRow 2 ?_ rfl rfl rfl rfl rfl rfl rfl ?_; rfl; simp only [over, List.set_cons_zero, List.set_cons_succ])) | refine SX.ret ?_ | refine SQ.blockNormal ?_)
    refine SQ.bodyCell 1 rfl rfl rfl rfl (fun w' hl => ⟨{ s with width := v }, rfl, (AllOk.over (j := 13) hs hv), hl.mod, hl.inv⟩)
  by_cases y7 : y = 7
  · repeat (first | refine SX.seq ?_ | refine SXl.nil ?_ | refine SX.region ?_ | refine SQ.thenNormal ?_ | refine SX.block ?_ | refine SX.condT rfl ?_ | refine SX.condF rfl ?_ | (refine l_move ?_; (refine SXl.v (OpW.move rfl) rfl ?_ ?_ ?_); rfl; rfl) | (refine l_assign ?_; (refine SXl.v (OpW.assign rfl) rfl ?_ ?_ ?_); rfl; rfl) | (refine l_eql ?_; (first | refine SXl.v (OpW.eqlT rfl rfl (by omega)) rfl ?_ ?_ ?_ | refine SXl.v (OpW.eqlF rfl rfl (by omega)) rfl ?_ ?_ ?_); rfl; rfl))
    refine l_call ?_
    refine SXl.draw (ξ := Sides) (v := fun v => .agg v.cells.toArray) rfl rfl rfl (fun v => AllOk v.cells) (fun w hl => l05Any_d B gc w hl.inv) (fun v hv => ?_)
    repeat (first | refine SX.seq ?_ | refine SXl.nil ?_ | refine SX.region ?_ | refine SQ.thenNormal ?_ | (refine l_load ?_; (refine SXl.v (OpW.loadAll 0 rfl rfl rfl) rfl ?_ ?_ ?_); rfl; rfl) | (refine l_fieldAddr ?_; (refine SXl.v (OpW.fieldAddr rfl) rfl ?_ ?_ ?_); rfl; rfl) | (refine l_store ?_; first | (refine SXl.store 0 ?_ rfl rfl rfl rfl rfl rfl ?_; rfl; simp only [List.set_cons_zero, List.set_cons_succ]) | (refine SXl.store 1 ?_ rfl rfl rfl rfl rfl rfl ?_; rfl; simp only [List.set_cons_zero, List.set_cons_succ]) | (refine SXl.store 2 ?_ rfl rfl rfl rfl rfl rfl ?_; rfl; simp only [List.set_cons_zero, List.set_cons_succ]) | (refine SXl.storeAll 0 ?_ rfl rfl rfl rfl rfl rfl rfl ?_; rfl; simp only [List.set_cons_zero, List.set_cons_succ]) | (refine SXl.storeAll 1 ?_ rfl rfl rfl rfl rfl rfl rfl ?_; rfl; simp only [List.set_cons_zero, List.set_cons_succ]) | (refine SXl.storeAll 2 ?_ rfl rfl rfl rfl rfl rfl rfl ?_; rfl; simp only [List.set_cons_zero, List.set_cons_succ]) | (refine SXl.storeRow 0 ?_ rfl rfl rfl rfl rfl rfl rfl ?_; rfl; simp only [over, List.set_cons_zero, List.set_cons_succ]) | (refine SXl.storeRow 1 ?_ rfl rfl rfl rfl rfl rfl rfl ?_; rfl; simp only [over, List.set_cons_zero, List.set_cons_succ]) | (refine SXl.storeRow 2 ?_ rfl rfl rfl rfl rfl rfl rfl ?_; rfl; simp only [over, List.set_cons_zero, List.set_cons_succ])) | refine SX.ret ?_ | refine SQ.blockNormal ?_)
    refine SQ.bodyCell 1 rfl rfl rfl rfl (fun w' hl => ⟨{ s with margin := v }, rfl, (AllOk.over (j := 26) hs hv), hl.mod, hl.inv⟩)
  by_cases y8 : y = 8
  · repeat (first | refine SX.seq ?_ | refine SXl.nil ?_ | refine SX.region ?_ | refine SQ.thenNormal ?_ | refine SX.block ?_ | refine SX.condT rfl ?_ | refine SX.condF rfl ?_ | (refine l_move ?_; (refine SXl.v (OpW.move rfl) rfl ?_ ?_ ?_); rfl; rfl) | (refine l_assign ?_; (refine SXl.v (OpW.assign rfl) rfl ?_ ?_ ?_); rfl; rfl) | (refine l_eql ?_; (first | refine SXl.v (OpW.eqlT rfl rfl (by omega)) rfl ?_ ?_ ?_ | refine SXl.v (OpW.eqlF rfl rfl (by omega)) rfl ?_ ?_ ?_); rfl; rfl))
    refine l_call ?_
    refine SXl.draw (ξ := Edges) (v := fun v => .agg v.cells.toArray) rfl rfl rfl (fun v => AllOk v.cells) (fun w hl => l05AnyEdges_d B gc w hl.inv) (fun v hv => ?_)
    repeat (first | refine SX.seq ?_ | refine SXl.nil ?_ | refine SX.region ?_ | refine SQ.thenNormal ?_ | (refine l_load ?_; (refine SXl.v (OpW.loadAll 0 rfl rfl rfl) rfl ?_ ?_ ?_); rfl; rfl) | (refine l_fieldAddr ?_; (refine SXl.v (OpW.fieldAddr rfl) rfl ?_ ?_ ?_); rfl; rfl) | (refine l_store ?_; first | (refine SXl.store 0 ?_ rfl rfl rfl rfl rfl rfl ?_; rfl; simp only [List.set_cons_zero, List.set_cons_succ]) | (refine SXl.store 1 ?_ rfl rfl rfl rfl rfl rfl ?_; rfl; simp only [List.set_cons_zero, List.set_cons_succ]) | (refine SXl.store 2 ?_ rfl rfl rfl rfl rfl rfl ?_; rfl; simp only [List.set_cons_zero, List.set_cons_succ]) | (refine SXl.storeAll 0 ?_ rfl rfl rfl rfl rfl rfl rfl ?_; rfl; simp only [List.set_cons_zero, List.set_cons_succ]) | (refine SXl.storeAll 1 ?_ rfl rfl rfl rfl rfl rfl rfl ?_; rfl; simp only [List.set_cons_zero, List.set_cons_succ]) | (refine SXl.storeAll 2 ?_ rfl rfl rfl rfl rfl rfl rfl ?_; rfl; simp only [List.set_cons_zero, List.set_cons_succ]) | (refine SXl.storeRow 0 ?_ rfl rfl rfl rfl rfl rfl rfl ?_; rfl; simp only [over, List.set_cons_zero, List.set_cons_succ]) | (refine SXl.storeRow 1 ?_ rfl rfl rfl rfl rfl rfl rfl ?_; rfl; simp only [over, List.set_cons_zero, List.set_cons_succ]) | (refine SXl.storeRow 2 ?_ rfl rfl rfl rfl rfl rfl rfl ?_; rfl; simp only [over, List.set_cons_zero, List.set_cons_succ])) | refine SX.ret ?_ | refine SQ.blockNormal ?_)
    refine SQ.bodyCell 1 rfl rfl rfl rfl (fun w' hl => ⟨{ s with pad := v }, rfl, (AllOk.over (j := 50) hs hv), hl.mod, hl.inv⟩)
  by_cases y9 : y = 9
  · repeat (first | refine SX.seq ?_ | refine SXl.nil ?_ | refine SX.region ?_ | refine SQ.thenNormal ?_ | refine SX.block ?_ | refine SX.condT rfl ?_ | refine SX.condF rfl ?_ | (refine l_load ?_; (refine SXl.v (OpW.loadAll 0 rfl rfl rfl) rfl ?_ ?_ ?_); rfl; rfl) | (refine l_fieldAddr ?_; (refine SXl.v (OpW.fieldAddr rfl) rfl ?_ ?_ ?_); rfl; rfl) | (refine l_move ?_; (refine SXl.v (OpW.move rfl) rfl ?_ ?_ ?_); rfl; rfl) | (refine l_assign ?_; (refine SXl.v (OpW.assign rfl) rfl ?_ ?_ ?_); rfl; rfl) | (refine l_eql ?_; (first | refine SXl.v (OpW.eqlT rfl rfl (by omega)) rfl ?_ ?_ ?_ | refine SXl.v (OpW.eqlF rfl rfl (by omega)) rfl ?_ ?_ ?_); rfl; rfl) | (refine l_store ?_; first | (refine SXl.store 0 ?_ rfl rfl rfl rfl rfl rfl ?_; rfl; simp only [List.set_cons_zero, List.set_cons_succ]) | (refine SXl.store 1 ?_ rfl rfl rfl rfl rfl rfl ?_; rfl; simp only [List.set_cons_zero, List.set_cons_succ]) | (refine SXl.store 2 ?_ rfl rfl rfl rfl rfl rfl ?_; rfl; simp only [List.set_cons_zero, List.set_cons_succ]) | (refine SXl.storeAll 0 ?_ rfl rfl rfl rfl rfl rfl rfl ?_; rfl; simp only [List.set_cons_zero, List.set_cons_succ]) | (refine SXl.storeAll 1 ?_ rfl rfl rfl rfl rfl rfl rfl ?_; rfl; simp only [List.set_cons_zero, List.set_cons_succ]) | (refine SXl.storeAll 2 ?_ rfl rfl rfl rfl rfl rfl rfl ?_; rfl; simp only [List.set_cons_zero, List.set_cons_succ]) | (refine SXl.storeRow 0 ?_ rfl rfl rfl rfl rfl rfl rfl ?_; rfl; simp only [over, List.set_cons_zero, List.set_cons_succ]) | (refine SXl.storeRow 1 ?_ rfl rfl rfl rfl rfl rfl rfl ?_; rfl; simp only [over, List.set_cons_zero, List.set_cons_succ]) | (refine SXl.storeRow 2 ?_ rfl rfl rfl rfl rfl rfl rfl ?_; rfl; simp only [over, List.set_cons_zero, List.set_cons_succ])) | refine SX.ret ?_ | refine SQ.blockNormal ?_)
    refine SQ.bodyCell 1 rfl rfl rfl rfl (fun w' hl => ⟨{ s with rowGap := x }, rfl, (hs.set (cellOk_int (n := x) hxb) 58), hl.mod, hl.inv⟩)
  by_cases y10 : y = 10
  · repeat (first | refine SX.seq ?_ | refine SXl.nil ?_ | refine SX.region ?_ | refine SQ.thenNormal ?_ | refine SX.block ?_ | refine SX.condT rfl ?_ | refine SX.condF rfl ?_ | (refine l_build ?_; (refine SXl.v ((OpW.build (vals := [(0, .int .i64 1), (1, .int .i64 (-1))]) (cells := Val.cells ⟨1, -1⟩) rfl (by kernel_rfl))) rfl ?_ ?_ ?_); rfl; rfl) | (refine l_load ?_; (refine SXl.v (OpW.loadAll 0 rfl rfl rfl) rfl ?_ ?_ ?_); rfl; rfl) | (refine l_fieldAddr ?_; (refine SXl.v (OpW.fieldAddr rfl) rfl ?_ ?_ ?_); rfl; rfl) | (refine l_assign ?_; (refine SXl.v (OpW.assign rfl) rfl ?_ ?_ ?_); rfl; rfl) | (refine l_eql ?_; (first | refine SXl.v (OpW.eqlT rfl rfl (by omega)) rfl ?_ ?_ ?_ | refine SXl.v (OpW.eqlF rfl rfl (by omega)) rfl ?_ ?_ ?_); rfl; rfl) | (refine l_store ?_; first | (refine SXl.store 0 ?_ rfl rfl rfl rfl rfl rfl ?_; rfl; simp only [List.set_cons_zero, List.set_cons_succ]) | (refine SXl.store 1 ?_ rfl rfl rfl rfl rfl rfl ?_; rfl; simp only [List.set_cons_zero, List.set_cons_succ]) | (refine SXl.store 2 ?_ rfl rfl rfl rfl rfl rfl ?_; rfl; simp only [List.set_cons_zero, List.set_cons_succ]) | (refine SXl.storeAll 0 ?_ rfl rfl rfl rfl rfl rfl rfl ?_; rfl; simp only [List.set_cons_zero, List.set_cons_succ]) | (refine SXl.storeAll 1 ?_ rfl rfl rfl rfl rfl rfl rfl ?_; rfl; simp only [List.set_cons_zero, List.set_cons_succ]) | (refine SXl.storeAll 2 ?_ rfl rfl rfl rfl rfl rfl rfl ?_; rfl; simp only [List.set_cons_zero, List.set_cons_succ]) | (refine SXl.storeRow 0 ?_ rfl rfl rfl rfl rfl rfl rfl ?_; rfl; simp only [over, List.set_cons_zero, List.set_cons_succ]) | (refine SXl.storeRow 1 ?_ rfl rfl rfl rfl rfl rfl rfl ?_; rfl; simp only [over, List.set_cons_zero, List.set_cons_succ]) | (refine SXl.storeRow 2 ?_ rfl rfl rfl rfl rfl rfl rfl ?_; rfl; simp only [over, List.set_cons_zero, List.set_cons_succ])) | refine SX.ret ?_ | refine SQ.blockNormal ?_)
    refine SQ.bodyCell 1 rfl rfl rfl rfl (fun w' hl => ⟨{ s with maxHeight := ⟨1, -1⟩ }, rfl, (AllOk.over (j := 23) hs (allOk_of (c := Val.cells ⟨1, -1⟩) (by decide))), hl.mod, hl.inv⟩)
  repeat (first | refine SX.seq ?_ | refine SXl.nil ?_ | refine SX.region ?_ | refine SQ.thenNormal ?_ | refine SX.block ?_ | refine SX.skip ?_ | refine SX.condF rfl ?_ | (refine l_load ?_; (refine SXl.v (OpW.loadAll 0 rfl rfl rfl) rfl ?_ ?_ ?_); rfl; rfl) | (refine l_assign ?_; (refine SXl.v (OpW.assign rfl) rfl ?_ ?_ ?_); rfl; rfl) | (refine l_eql ?_; (refine SXl.v (OpW.eqlF rfl rfl (by omega)) rfl ?_ ?_ ?_); rfl; rfl) | (refine l_store ?_; first | (refine SXl.store 0 ?_ rfl rfl rfl rfl rfl rfl ?_; rfl; simp only [List.set_cons_zero, List.set_cons_succ]) | (refine SXl.store 1 ?_ rfl rfl rfl rfl rfl rfl ?_; rfl; simp only [List.set_cons_zero, List.set_cons_succ]) | (refine SXl.store 2 ?_ rfl rfl rfl rfl rfl rfl ?_; rfl; simp only [List.set_cons_zero, List.set_cons_succ]) | (refine SXl.storeAll 0 ?_ rfl rfl rfl rfl rfl rfl rfl ?_; rfl; simp only [List.set_cons_zero, List.set_cons_succ]) | (refine SXl.storeAll 1 ?_ rfl rfl rfl rfl rfl rfl rfl ?_; rfl; simp only [List.set_cons_zero, List.set_cons_succ]) | (refine SXl.storeAll 2 ?_ rfl rfl rfl rfl rfl rfl rfl ?_; rfl; simp only [List.set_cons_zero, List.set_cons_succ]) | (refine SXl.storeRow 0 ?_ rfl rfl rfl rfl rfl rfl rfl ?_; rfl; simp only [over, List.set_cons_zero, List.set_cons_succ]) | (refine SXl.storeRow 1 ?_ rfl rfl rfl rfl rfl rfl rfl ?_; rfl; simp only [over, List.set_cons_zero, List.set_cons_succ]) | (refine SXl.storeRow 2 ?_ rfl rfl rfl rfl rfl rfl rfl ?_; rfl; simp only [over, List.set_cons_zero, List.set_cons_succ])) | refine SX.ret ?_ | refine SQ.blockNormal ?_)
  refine SQ.bodyCell 1 rfl rfl rfl rfl (fun w' hl => ⟨s, rfl, hs, hl.mod, hl.inv⟩)
end Go.Proofs.YthffgbhphjkdeaaGreatDoor
namespace Go.Proofs.YthffgbhphjkdeaaGreatDoor
open Go.RowKit

/-- What a block that a pointer names is. -/
def gOf (v : Value) : Nat := match v with
  | .pointer (some a) => a.block
  | _ => 0
/-- Only a new block of the cells z may turn, to the cells r. -/
def TQ (B T0 : Nat) (z r : List Value) (w w' : World) : Prop := Mod (fun k => B ≤ k ∧ w.heap[k]? = some (.cells z.toArray T0 (0, 0)) ∧ w'.heap[k]? = some (.cells r.toArray T0 (0, 0))) w w'
structure Far (W : World) (L : List Blk) (O : List Own) (E : List Res) (B : Nat) : Prop where
  old : W.heap.size ≤ B
  blk : ∀ b ∈ L, b.g < B
  own : ∀ o ∈ O, ∀ k, o.v.ownBlock = some k → k < B
  res : ∀ F ∈ E, ∀ k, F.foot k → k < B
section
variable {P : Program} {n : Nat} {W : World} {R : Rg W} {L : List Blk} {O : List Own} {E : List Res} {w w' : World} {B T0 : Nat} {z r : List Value}
theorem Loc.far (h : Loc W R L O E w) : Far W L O E w.heap.size := ⟨h.mod.size, fun b hb => h.blk_lt hb, fun o ho k hk => (ownBlock_lt (h.own o ho).1 hk).2, fun F hF k hk => (h.res F hF).2.1 k hk⟩
theorem Loc.keepQ (hf : Far W L O E B) (h : Loc W R L O E w) (hm : TQ B T0 z r w w') : Loc W R L O E w' :=
  h.frame hm (fun k hk hs => by have := hf.old; have := hs.1; omega) (fun b hb hs => by have := hf.blk b hb; have := hs.1; omega) (fun o ho k hk hs => by have := hf.own o ho k hk; have := hs.1; omega) (fun F hF k hk hs => by have := hf.res F hF k hk; have := hs.1; omega)
theorem Loc.addNew (hf : Far W L O E B) (h : Loc W R L O E w) {g : Nat} (hg : B ≤ g) (hb : w.heap[g]? = some (.cells r.toArray T0 (0, 0))) : Loc W R (⟨g, r, T0⟩ :: L) O E w where
  mod := h.mod
  inv := h.inv
  blk := fun b hbm => by
    rcases List.mem_cons.1 hbm with rfl | hbm
    · exact ⟨.inr (Nat.le_trans hf.old hg), hb⟩
    · exact h.blk b hbm
  apart := List.pairwise_cons.2 ⟨fun b hbm e => by have := hf.blk b hbm; simp only at e; omega, h.apart⟩
  own := fun o ho => ⟨(h.own o ho).1, fun b hbm e => by
    rcases List.mem_cons.1 hbm with rfl | hbm
    · have := hf.own o ho _ e; simp only at this; omega
    · exact (h.own o ho).2 b hbm e⟩
  ownApart := h.ownApart
  res := fun F hF => ⟨(h.res F hF).1, (h.res F hF).2.1, fun b hbm f => by
    rcases List.mem_cons.1 hbm with rfl | hbm
    · have := hf.res F hF _ f; simp only at this; omega
    · exact (h.res F hF).2.2.1 b hbm f, (h.res F hF).2.2.2⟩
  resNew := h.resNew
  resApart := h.resApart
/-- A pointer at a new block of the cells z or r. -/
def AV (B T0 : Nat) (z r : List Value) (w : World) (v : Value) : Prop := ∃ g, v = .pointer (some ⟨g, 0, none⟩) ∧ B ≤ g ∧ (w.heap[g]? = some (.cells z.toArray T0 (0, 0)) ∨ w.heap[g]? = some (.cells r.toArray T0 (0, 0)))
theorem AV.keep {v : Value} (h : AV B T0 z r w v) (hm : TQ B T0 z r w w') : AV B T0 z r w' v := by
  obtain ⟨g, h1, h2, h3⟩ := h
  refine ⟨g, h1, h2, ?_⟩
  by_cases hs : B ≤ g ∧ w.heap[g]? = some (.cells z.toArray T0 (0, 0)) ∧ w'.heap[g]? = some (.cells r.toArray T0 (0, 0))
  · exact .inr hs.2.2
  · have hlt : g < w.heap.size := by rcases h3 with h3 | h3 <;> exact (Array.getElem?_eq_some_iff.1 h3).1
    rw [hm.block g hlt hs]
    exact h3
/-- The block that operation ka made holds the cells r. -/
def SV (ka T0 : Nat) (r : List Value) (x : Nat → Value) (w : World) (_ : Value) : Prop := w.heap[gOf (x ka)]? = some (.cells r.toArray T0 (0, 0))
theorem SV.keep {ka : Nat} {x : Nat → Value} {v : Value} (h : SV ka T0 r x w v) (hm : TQ B T0 z r w w') : SV ka T0 r x w' v := by
  unfold SV at *
  by_cases hs : B ≤ gOf (x ka) ∧ w.heap[gOf (x ka)]? = some (.cells z.toArray T0 (0, 0)) ∧ w'.heap[gOf (x ka)]? = some (.cells r.toArray T0 (0, 0))
  · exact hs.2.2
  · rw [hm.block _ (Array.getElem?_eq_some_iff.1 h).1 hs]
    exact h
structure SXq (P : Program) (n : Nat) (W : World) (R : Rg W) (ops : Array Oper) (L : List Blk) (O : List Own) (E : List Res) (B T0 : Nat) (z r : List Value) (k : Nat) (U : List (Nat × ((Nat → Value) → World → Value → Prop))) (f : (Nat → Value) → List (Nat × Value)) (l : List Oper) (Q : Exit → Act → World → Prop) : Prop where
  run : ∀ F : (Nat → Value) → Act, (∀ x, Fr n (f x) (F x)) → RS P ops (TQ B T0 z r) (fun w => Loc W R L O E w ∧ B ≤ w.heap.size) Q k l F U
end
section
variable {P : Program} {n : Nat} {W : World} {R : Rg W} {L : List Blk} {O : List Own} {E : List Res} {U : List (Nat × ((Nat → Value) → World → Value → Prop))} {f : (Nat → Value) → List (Nat × Value)} {f0 : List (Nat × Value)} {Q : Exit → Act → World → Prop} {ops : Array Oper} {rest : List Oper} {k B T0 : Nat} {z r : List Value}
theorem SX.drawnQ {id : Nat} {l : List Oper} (T0 : Nat) (z r : List Value) (hm : P.follows .mixedOrders = true) (hc : regOk l.toArray = true) (h : ∀ B, Far W L O E B → SXq P n W R l.toArray L O E B T0 z r 0 [] (fun _ => f0) l Q) : SX P n W R L O E f0 (.region id l.toArray true) Q := ⟨fun a w hf hl =>
  wp_region_rs (fun w' => Loc W R L O E w' ∧ w.heap.size ≤ w'.heap.size) (TQ w.heap.size T0 z r) hm hc ⟨hl.keep ((Mod.refl _ w).drew), Nat.le_refl _⟩ ((h w.heap.size hl.far).run _ fun _ => hf)⟩
theorem SXq.v {o : Oper} {v : Value} {d : Nat} (hr : ∀ x, OpW P n W R L O E (f x) o v) (hdst : o.dst = some d) (hw : ∀ x, wantO ops (f x) o = some true) (hd : Nat.blt d n = true) (h : SXq P n W R ops L O E B T0 z r (k + 1) U (fun x => (d, v) :: f x) rest Q) : SXq P n W R ops L O E B T0 z r k U f (o :: rest) Q := ⟨fun F hF =>
  RS.val [] (fun _ => v) rfl (fun _ _ _ => rfl) (fun x => wanted_of (hF x) (hw x)) (fun x w hS _ => wp_never ((hr x).run _ w (hF x) hS.1) fun _ _ ⟨h1, h2⟩ => ⟨h1, ⟨hS.1.keep h2, Nat.le_trans hS.2 h2.size⟩, h2.mono fun _ _ f => f.elim⟩) (by rw [hdst]; exact h.run _ fun x => (hF x).put hd v)⟩
/-- The value of an operation that hangs on the block that operation ka handed back. -/
theorem SXq.vk {o : Oper} {d : Nat} (ka : Nat) (v : Value → Value) (hus : ([ka].all fun i => (reach ops ops.size k).contains i) = true) (hr : ∀ x, OpW P n W R L O E (f x) o (v (x ka))) (hdst : o.dst = some d) (hw : ∀ x, wantO ops (f x) o = some true) (hd : Nat.blt d n = true) (h : SXq P n W R ops L O E B T0 z r (k + 1) U (fun x => (d, v (x ka)) :: f x) rest Q) : SXq P n W R ops L O E B T0 z r k U f (o :: rest) Q := ⟨fun F hF =>
  RS.val [ka] (fun x => v (x ka)) hus (fun x y h => by rw [h ka List.mem_cons_self]) (fun x => wanted_of (hF x) (hw x)) (fun x w hS _ => wp_never ((hr x).run _ w (hF x) hS.1) fun _ _ ⟨h1, h2⟩ => ⟨h1, ⟨hS.1.keep h2, Nat.le_trans hS.2 h2.size⟩, h2.mono fun _ _ f => f.elim⟩) (by rw [hdst]; exact h.run _ fun x => (hF x).put hd (v (x ka)))⟩
theorem SXq.no {o : Oper} {d : Nat} (hw : ∀ x, wantO ops (f x) o = some false) (hdst : o.dst = some d) (hd : Nat.blt d n = true) (h : SXq P n W R ops L O E B T0 z r (k + 1) U (fun x => (d, undef) :: f x) rest Q) : SXq P n W R ops L O E B T0 z r k U f (o :: rest) Q := ⟨fun F hF =>
  RS.skip (fun x => wanted_of (hF x) (hw x)) (by rw [hdst]; exact h.run _ fun x => (hF x).put hd undef)⟩
variable {d m ka ks : Nat} {xo yo : Operand} {ty : TypeId} {pos : String} {af : Array Edge} {gd : Option (Nat × Bool)}
theorem SXq.alloc [t : TZero P T0 z] (hf : Far W L O E B) (hw : ∀ x, wantO ops (f x) ⟨some d, .alloc T0, ty, pos, af, gd⟩ = some true) (hd : Nat.blt d n = true)
    (h : SXq P n W R ops L O E B T0 z r (k + 1) ((k, fun _ => AV B T0 z r) :: U) (fun x => (d, .pointer (some ⟨gOf (x k), 0, none⟩)) :: f x) rest Q) : SXq P n W R ops L O E B T0 z r k U f (⟨some d, .alloc T0, ty, pos, af, gd⟩ :: rest) Q := ⟨fun F hF =>
  RS.new [] (AV B T0 z r) (fun v => .pointer (some ⟨gOf v, 0, none⟩)) (fun _ v ⟨g, hv, _⟩ => by subst hv; rfl) rfl (fun _ _ _ h hm => h.keep hm) (fun x => wanted_of (hF x) (hw x)) (fun x w hS _ => by
    obtain ⟨v, h1, h2⟩ := t.h
    obtain ⟨i, hi, hz⟩ := Option.map_eq_some_iff.1 h1
    have hrun : (execOp (F x).eval ⟨some d, .alloc T0, ty, pos, af, gd⟩).run P w = .ok (.value (.pointer (some ⟨w.heap.size, 0, none⟩))) (w.alloc (.cells z.toArray T0)) := by
      simp [execOp, Instr.alloc, zeroValue, typeInfo, hi, hz, newVar, newRow, h2]
    unfold Oper.wp
    rw [hrun, Oper.upon_value]
    have hm : Mod (fun _ => False) w (w.alloc (.cells z.toArray T0)) := (Mod.refl _ w).alloc _
    exact ⟨_, rfl, ⟨w.heap.size, rfl, hS.2, .inl (heap_alloc_new w _)⟩, ⟨hS.1.keep hm, Nat.le_trans hS.2 hm.size⟩, hm.mono fun _ _ f => f.elim⟩) (h.run _ fun x => (hF x).put hd _)⟩
theorem SXq.store (ka : Nat) [t : TRow P T0 m] (hf : Far W L O E B) (hus : ([ka].all fun i => (reach ops ops.size k).contains i) = true) (hU : (ka, fun _ => AV B T0 z r) ∈ U) (hw : ∀ x, wantO ops (f x) ⟨none, .store T0 xo yo, ty, pos, af, gd⟩ = some true) (hx : ∀ x, evO (f x) xo = some (.pointer (some ⟨gOf (x ka), 0, none⟩))) (hy : ∀ x, evO (f x) yo = some (.agg r.toArray)) (hr : r.length = m) (hz : z.length = m) (hv : r.all (·.oneCell') = true)
    (h : SXq P n W R ops L O E B T0 z r (k + 1) ((k, SV ka T0 r) :: U) f rest Q) : SXq P n W R ops L O E B T0 z r k U f (⟨none, .store T0 xo yo, ty, pos, af, gd⟩ :: rest) Q := ⟨fun F hF =>
  RS.newx [ka] (SV ka T0 r) id (fun _ _ _ _ => rfl) hus ⟨fun _ _ _ _ h hm => h.keep hm, fun x y w v hxy h => by unfold SV at *; rw [← hxy ka List.mem_cons_self]; exact h⟩ (fun x => wanted_of (hF x) (hw x)) (fun x w hS hK => by
    obtain ⟨_, h3⟩ := t.h
    obtain ⟨g, hg, hB, hc⟩ := hK _ hU List.mem_cons_self
    have eg : gOf (x ka) = g := by rw [hg]; rfl
    have hxx := hx x
    rw [eg] at hxx
    have key : ∀ cs : List Value, cs.length = m → w.heap[g]? = some (.cells cs.toArray T0 (0, 0)) → (execOp (F x).eval ⟨none, .store T0 xo yo, ty, pos, af, gd⟩).run P w = .ok .skip (w.setCells g 0 r) ∧ (w.setCells g 0 r).heap[g]? = some (.cells r.toArray T0 (0, 0)) := fun cs hcs hb => by
      have e := run_store_row (P := P) (ty := T0) h3 (w := w) (b := g) (o := 0) (S := r.toArray) (by simp [hasRow, hb, hcs]) (by simp [openRow, hb]) (by simpa using hr) (by simpa using hv)
      refine ⟨by simp [execOp, (hF x).eval hxx, (hF x).eval (hy x), e], ?_⟩
      rw [setCells_heap g r 0 w _ _ _ hb, spl_over]
      have := over_all r cs [] (by omega)
      simp only [List.nil_append, List.length_nil] at this
      rw [this]
    have hmm := mod_setCells g r 0 w
    have fin : (execOp (F x).eval ⟨none, .store T0 xo yo, ty, pos, af, gd⟩).run P w = .ok .skip (w.setCells g 0 r) ∧ (w.setCells g 0 r).heap[g]? = some (.cells r.toArray T0 (0, 0)) ∧ TQ B T0 z r w (w.setCells g 0 r) := by
      rcases hc with hc | hc
      · obtain ⟨k1, k2⟩ := key z hz hc
        exact ⟨k1, k2, hmm.mono fun k _ e => by subst e; exact ⟨hB, hc, k2⟩⟩
      · obtain ⟨k1, k2⟩ := key r hr hc
        exact ⟨k1, k2, hmm.os, hmm.tape, hmm.output, hmm.size, fun k hk hn => by
          by_cases e : k = g
          · subst e; rw [k2, hc]
          · exact hmm.block k hk e⟩
    obtain ⟨k1, k2, k3⟩ := fin
    unfold Oper.wp
    rw [k1, Oper.upon_skip]
    exact ⟨undef, rfl, by unfold SV; rw [eg]; exact k2, ⟨Loc.keepQ hf hS.1 k3, Nat.le_trans hS.2 k3.size⟩, k3⟩) (h.run _ hF)⟩
theorem SXq.nil (ka ks : Nat) (hf : Far W L O E B) (hA : (ka, fun _ => AV B T0 z r) ∈ U) (hS : (ks, SV ka T0 r) ∈ U) (h : ∀ x, SQ n W R (⟨gOf (x ka), r, T0⟩ :: L) O E (f x) .normal Q) : SXq P n W R ops L O E B T0 z r k U f [] Q := ⟨fun F hF => RS.done fun x w hSw hU => by
  obtain ⟨g, hg, hB, _⟩ := hU _ hA
  have hs := hU _ hS
  have eg : gOf (x ka) = g := by rw [hg]; rfl
  exact (h x).run _ w (hF x) (Loc.addNew hf hSw.1 (by rw [eg]; exact hB) hs)⟩
/-! A literal slice of one cell, made in the region's head. -/
def sOf (v : Value) : Nat := match v with
  | .slice (some a) _ _ => a.block
  | _ => 0
theorem SX.drawnQT {id : Nat} {l : List Oper} (m : Nat) (T0 : Nat) (z r : List Value) (hm : P.follows .mixedOrders = true) (hc : regOkTo m l.toArray = true) (ht : tailOk l.toArray m = true) (h : ∀ B, Far W L O E B → SXq P n W R l.toArray L O E B T0 z r 0 [] (fun _ => f0) (l.take m) (fun _ a w => wpList P l.toArray Q (l.drop m) a w)) : SX P n W R L O E f0 (.region id l.toArray true) Q := ⟨fun a w hf hl =>
  wp_region_rs_tail m (fun w' => Loc W R L O E w' ∧ w.heap.size ≤ w'.heap.size) (TQ w.heap.size T0 z r) hm hc ht ⟨hl.keep ((Mod.refl _ w).drew), Nat.le_refl _⟩ ((h w.heap.size hl.far).run _ fun _ => hf)⟩
def NB (B e len : Nat) (cells : List Value) (w : World) (v : Value) : Prop := ∃ g, v = .slice (some ⟨g, 0, none⟩) len len ∧ B ≤ g ∧ w.heap[g]? = some (.cells cells.toArray e (0, 0))
theorem SXq.callB {e len fn : Nat} {cells args : List Value} {ars : List Operand} {aT : Array TypeId} [TFun P fn] (hf : Far W L O E B) (hne : cells ≠ []) (hw : ∀ x, wantO ops (f x) ⟨some d, .call ⟨.value (.func fn), ars.toArray, aT⟩, ty, pos, af, gd⟩ = some true) (hd : Nat.blt d n = true) (ha : ∀ x, evL (f x) ars = some args)
    (hc : ∀ w, Loc W R L O E w → Calls P fn args.toArray w fun en w' => ∃ g, en = .returned (.slice (some ⟨g, 0, none⟩) len len) ∧ w.heap.size ≤ g ∧ w'.heap[g]? = some (.cells cells.toArray e (0, 0)) ∧ Mod (fun _ => False) w w')
    (h : SXq P n W R ops L O E B T0 [] r (k + 1) ((k, fun _ => NB B e len cells) :: U) (fun x => (d, .slice (some ⟨sOf (x k), 0, none⟩) len len) :: f x) rest Q) : SXq P n W R ops L O E B T0 [] r k U f (⟨some d, .call ⟨.value (.func fn), ars.toArray, aT⟩, ty, pos, af, gd⟩ :: rest) Q := ⟨fun F hF =>
  RS.new [] (NB B e len cells) (fun v => .slice (some ⟨sOf v, 0, none⟩) len len) (fun _ v ⟨g, hv, _⟩ => by subst hv; rfl) rfl (fun w w' v ⟨g, h1, h2, h3⟩ hm => ⟨g, h1, h2, by
    rw [hm.block g (Array.getElem?_eq_some_iff.1 h3).1 (fun hs => by
      have := hs.2.1
      rw [h3] at this
      simp only [Option.some.injEq, Obj.cells.injEq] at this
      exact hne (by simpa using this.1))]
    exact h3⟩) (fun x => wanted_of (hF x) (hw x)) (fun x w hS _ => by
    unfold Oper.wp
    rw [run_callop (hF x) (ha x) w _ _, Oper.upon_enter]
    refine (hc w hS.1).mono ?_
    rintro en w' ⟨g, rfl, hg, hb, hm⟩
    exact ⟨_, rfl, ⟨g, rfl, Nat.le_trans hS.2 hg, hb⟩, ⟨hS.1.keep hm, Nat.le_trans hS.2 hm.size⟩, hm.mono fun _ _ f => f.elim⟩) (h.run _ fun x => (hF x).put hd _)⟩
theorem SXq.loadB {e len o T : Nat} {cells : List Value} {v : Value} (ka : Nat) [t : TOne P T] (hus : ([ka].all fun i => (reach ops ops.size k).contains i) = true) (hU : (ka, fun _ => NB B e len cells) ∈ U) (hw : ∀ x, wantO ops (f x) ⟨some d, .load T xo, ty, pos, af, gd⟩ = some true) (hd : Nat.blt d n = true) (hx : ∀ x, evO (f x) xo = some (.pointer (some ⟨sOf (x ka), o, none⟩))) (hv : cells[o]? = some v)
    (h : SXq P n W R ops L O E B T0 z r (k + 1) U (fun x => (d, v) :: f x) rest Q) : SXq P n W R ops L O E B T0 z r k U f (⟨some d, .load T xo, ty, pos, af, gd⟩ :: rest) Q := ⟨fun F hF =>
  RS.val [ka] (fun _ => v) hus (fun _ _ _ => rfl) (fun x => wanted_of (hF x) (hw x)) (fun x w hS hK => by
    obtain ⟨g, hg, hB, hb⟩ := hK _ hU List.mem_cons_self
    have eg : sOf (x ka) = g := by rw [hg]; rfl
    have hxx := hx x
    rw [eg] at hxx
    have hcell : w.cell? ⟨g, o, none⟩ = some v := blk_cell hb hv
    unfold Oper.wp
    have hrun : (execOp (F x).eval ⟨some d, .load T xo, ty, pos, af, gd⟩).run P w = .ok (.value v) w := by simp [execOp, (hF x).eval hxx, run_load1 hcell]
    rw [hrun, Oper.upon_value]
    exact ⟨rfl, hS, Mod.refl _ _⟩) (h.run _ fun x => (hF x).put hd v)⟩
theorem SXq.tail (h : ∀ x, SXl P n W R ops L O E (f x) rest Q) : SXq P n W R ops L O E B T0 z r k U f [] (fun _ a w => wpList P ops Q rest a w) := ⟨fun F hF => RS.done fun x w hSw _ => (h x).run _ w (hF x) hSw.1⟩
end
end Go.Proofs.YthffgbhphjkdeaaGreatDoor
namespace Go.Proofs.YthffgbhphjkdeaaGreatDoor
open Go.RowKit

/-- Only block g may turn, from the cells c to the cells c'. -/
def TP (g T : Nat) (c c' : List Value) (w w' : World) : Prop := Mod (fun k => k = g ∧ w.heap[k]? = some (.cells c.toArray T (0, 0)) ∧ w'.heap[k]? = some (.cells c'.toArray T (0, 0))) w w'
structure Near (W : World) (R : Rg W) (L : List Blk) (O : List Own) (E : List Res) (g : Nat) : Prop where
  new : R.q g ∨ W.heap.size ≤ g
  blk : ∀ b ∈ L, b.g ≠ g
  own : ∀ o ∈ O, o.v.ownBlock ≠ some g
  res : ∀ F ∈ E, ¬ F.foot g
/-- Block g holds c', told of operation ks. -/
def PV (g T : Nat) (c' : List Value) (_ : Nat → Value) (w : World) (_ : Value) : Prop := w.heap[g]? = some (.cells c'.toArray T (0, 0))
section
variable {P : Program} {n : Nat} {W : World} {R : Rg W} {L : List Blk} {O : List Own} {E : List Res} {w w' : World} {g T : Nat} {c c' : List Value}
theorem PV.keep {x : Nat → Value} {v : Value} (h : PV g T c' x w v) (hm : TP g T c c' w w') : PV g T c' x w' v := by
  unfold PV at *
  by_cases hs : g = g ∧ w.heap[g]? = some (.cells c.toArray T (0, 0)) ∧ w'.heap[g]? = some (.cells c'.toArray T (0, 0))
  · exact hs.2.2
  · rw [hm.block _ (Array.getElem?_eq_some_iff.1 h).1 hs]
    exact h
theorem Loc.erase {i : Nat} (h : Loc W R L O E w) : Loc W R (L.eraseIdx i) O E w where
  mod := h.mod
  inv := h.inv
  blk := fun b hb => h.blk b (List.mem_of_mem_eraseIdx hb)
  apart := h.apart.sublist (List.eraseIdx_sublist ..)
  own := fun o ho => ⟨(h.own o ho).1, fun b hb => (h.own o ho).2 b (List.mem_of_mem_eraseIdx hb)⟩
  ownApart := h.ownApart
  res := fun F hF => ⟨(h.res F hF).1, (h.res F hF).2.1, fun b hb => (h.res F hF).2.2.1 b (List.mem_of_mem_eraseIdx hb), (h.res F hF).2.2.2⟩
  resNew := h.resNew
  resApart := h.resApart
theorem Loc.near {i : Nat} (h : Loc W R L O E w) (hi : L[i]? = some ⟨g, c, T⟩) : Near W R (L.eraseIdx i) O E g := by
  have hm : (⟨g, c, T⟩ : Blk) ∈ L := List.mem_iff_getElem?.2 ⟨i, hi⟩
  refine ⟨(h.blk _ hm).1, fun b hb => ?_, fun o ho => (h.own o ho).2 _ hm, fun F hF => (h.res F hF).2.2.1 _ hm⟩
  obtain ⟨j, hj, hb⟩ := List.mem_eraseIdx_iff_getElem?.1 hb
  exact fun e => (pairwise_ne_of (fun _ _ h e => h e.symm) h.apart hb hi hj) e
theorem Loc.keepP (hf : Near W R L O E g) (h : Loc W R L O E w) {S : Nat → Prop} (hS : ∀ k, S k → k = g) (hm : Mod S w w') : Loc W R L O E w' :=
  h.frame hm (fun k hk hs => by have := hS k hs; subst this; rcases hf.new with h1 | h1; exact h1; omega) (fun b hb hs => hf.blk b hb (hS _ hs)) (fun o ho k hk hs => by have := hS k hs; subst this; exact hf.own o ho hk) (fun F hF k hk hs => by have := hS k hs; subst this; exact hf.res F hF hk)
theorem Loc.addP (hf : Near W R L O E g) (h : Loc W R L O E w) (hb : w.heap[g]? = some (.cells c'.toArray T (0, 0))) : Loc W R (⟨g, c', T⟩ :: L) O E w where
  mod := h.mod
  inv := h.inv
  blk := fun b hbm => by
    rcases List.mem_cons.1 hbm with rfl | hbm
    · exact ⟨hf.new, hb⟩
    · exact h.blk b hbm
  apart := List.pairwise_cons.2 ⟨fun b hbm e => hf.blk b hbm e.symm, h.apart⟩
  own := fun o ho => ⟨(h.own o ho).1, fun b hbm e => by
    rcases List.mem_cons.1 hbm with rfl | hbm
    · exact hf.own o ho e
    · exact (h.own o ho).2 b hbm e⟩
  ownApart := h.ownApart
  res := fun F hF => ⟨(h.res F hF).1, (h.res F hF).2.1, fun b hbm f => by
    rcases List.mem_cons.1 hbm with rfl | hbm
    · exact hf.res F hF f
    · exact (h.res F hF).2.2.1 b hbm f, (h.res F hF).2.2.2⟩
  resNew := h.resNew
  resApart := h.resApart
/-- Block g holds c or c'. -/
def Either (g T : Nat) (c c' : List Value) (w : World) : Prop := w.heap[g]? = some (.cells c.toArray T (0, 0)) ∨ w.heap[g]? = some (.cells c'.toArray T (0, 0))
theorem Either.keep (h : Either g T c c' w) (hm : Mod (fun _ => False) w w') : Either g T c c' w' := by
  rcases h with h | h
  · exact .inl (hm.blk h (fun f => f))
  · exact .inr (hm.blk h (fun f => f))
structure SXp (P : Program) (n : Nat) (W : World) (R : Rg W) (ops : Array Oper) (L : List Blk) (O : List Own) (E : List Res) (g T : Nat) (c c' : List Value) (k : Nat) (U : List (Nat × ((Nat → Value) → World → Value → Prop))) (f : List (Nat × Value)) (l : List Oper) (Q : Exit → Act → World → Prop) : Prop where
  run : ∀ F : Act, Fr n f F → RS P ops (TP g T c c') (fun w => Loc W R L O E w ∧ Either g T c c' w) Q k l (fun _ => F) U
end
section
variable {P : Program} {n : Nat} {W : World} {R : Rg W} {L L' : List Blk} {O : List Own} {E : List Res} {U : List (Nat × ((Nat → Value) → World → Value → Prop))} {f : List (Nat × Value)} {Q : Exit → Act → World → Prop} {ops : Array Oper} {rest : List Oper} {k g T : Nat} {c c' : List Value}
theorem SXp.v {o : Oper} {v : Value} {d : Nat} (hr : OpW P n W R L O E f o v) (hdst : o.dst = some d) (hw : wantO ops f o = some true) (hd : Nat.blt d n = true) (h : SXp P n W R ops L O E g T c c' (k + 1) U ((d, v) :: f) rest Q) : SXp P n W R ops L O E g T c c' k U f (o :: rest) Q := ⟨fun F hF =>
  RS.val [] (fun _ => v) rfl (fun _ _ _ => rfl) (fun _ => wanted_of hF hw) (fun _ w hS _ => wp_never (hr.run _ w hF hS.1) fun _ _ ⟨h1, h2⟩ => ⟨h1, ⟨hS.1.keep h2, hS.2.keep h2⟩, h2.mono fun _ _ f => f.elim⟩) (by rw [hdst]; exact h.run _ (hF.put hd v))⟩
theorem SXp.no {o : Oper} {d : Nat} (hw : wantO ops f o = some false) (hdst : o.dst = some d) (hd : Nat.blt d n = true) (h : SXp P n W R ops L O E g T c c' (k + 1) U ((d, undef) :: f) rest Q) : SXp P n W R ops L O E g T c c' k U f (o :: rest) Q := ⟨fun F hF =>
  RS.skip (fun _ => wanted_of hF hw) (by rw [hdst]; exact h.run _ (hF.put hd undef))⟩
variable {d m o T' : Nat} {xo yo : Operand} {ty : TypeId} {pos : String} {af : Array Edge} {gd : Option (Nat × Bool)} {v : Value}
theorem SXp.skips {o : Oper} (hf : Near W R L O E g) (hw : wantO ops f o = some true) (hdst : o.dst = none)
    (hrun : ∀ a w, Fr n f a → Either g T c c' w → ∃ w', (execOp a.eval o).run P w = .ok .skip w' ∧ w'.heap[g]? = some (.cells c'.toArray T (0, 0)) ∧ Mod (fun k => k = g) w w')
    (h : SXp P n W R ops L O E g T c c' (k + 1) ((k, PV g T c') :: U) f rest Q) : SXp P n W R ops L O E g T c c' k U f (o :: rest) Q := ⟨fun F hF =>
  RS.newx [] (PV g T c') id (fun _ _ _ _ => rfl) rfl ⟨fun _ _ _ _ h hm => h.keep hm, fun _ _ _ _ _ h => h⟩ (fun _ => wanted_of hF hw) (fun x w hS _ => by
    obtain ⟨w', h1, h2, h3⟩ := hrun F w hF hS.2
    have hT : TP g T c c' w w' := by
      rcases hS.2 with hc | hc
      · exact h3.mono fun k _ e => by subst e; exact ⟨rfl, hc, h2⟩
      · exact ⟨h3.os, h3.tape, h3.output, h3.size, fun k hk hn => by
          by_cases e : k = g
          · subst e; rw [h2, hc]
          · exact h3.block k hk e⟩
    unfold Oper.wp
    rw [h1, Oper.upon_skip, hdst]
    exact ⟨undef, rfl, h2, ⟨Loc.keepP hf hS.1 (fun k hk => hk) h3, .inr h2⟩, hT⟩) (by rw [hdst]; exact h.run _ hF)⟩
theorem SXp.store [TOne P T'] (hf : Near W R L O E g) (hw : wantO ops f ⟨none, .store T' xo yo, ty, pos, af, gd⟩ = some true) (hx : evO f xo = some (.pointer (some ⟨g, o, none⟩))) (hy : evO f yo = some v) (ho : Nat.blt o c.length = true) (hv : v.oneCell' = true) (hc : c.set o v = c')
    (h : SXp P n W R ops L O E g T c c' (k + 1) ((k, PV g T c') :: U) f rest Q) : SXp P n W R ops L O E g T c c' k U f (⟨none, .store T' xo yo, ty, pos, af, gd⟩ :: rest) Q :=
  SXp.skips hf hw rfl (fun a w hF hE => by
    have ho' : o < c.length := by simpa using ho
    have key : ∀ cs : List Value, cs.length = c.length → cs.set o v = c' → w.heap[g]? = some (.cells cs.toArray T (0, 0)) → ∃ w', (execOp a.eval ⟨none, .store T' xo yo, ty, pos, af, gd⟩).run P w = .ok .skip w' ∧ w'.heap[g]? = some (.cells c'.toArray T (0, 0)) ∧ Mod (fun k => k = g) w w' := fun cs hl hs hb => by
      obtain ⟨u, hu⟩ : ∃ u, cs[o]? = some u := ⟨_, List.getElem?_eq_getElem (by omega)⟩
      have h1 : w.cell? ⟨g, o, none⟩ = some u := by simp [World.cell?, hb, hu]
      have h2 : w.frozen? ⟨g, o, none⟩ = false := by simp [World.frozen?, hb]
      refine ⟨w.setCell ⟨g, o, none⟩ v, by simp [execOp, hF.eval hx, hF.eval hy, run_store1 h1 h2 hv], ?_, (Mod.refl _ w).setAt _ _ _⟩
      rw [← hs]
      simp [World.setCell, Array.getElem?_modify, hb]
    rcases hE with hE | hE
    · exact key c rfl hc hE
    · exact key c' (by rw [← hc, List.length_set]) (by rw [← hc, List.set_set]) hE) h
theorem over_over : ∀ (r c : List Value) (o : Nat), over (over c o r) o r = over c o r
  | [], _, _ => rfl
  | v :: r, c, o => by
    have comm : ∀ (r c : List Value) (p q : Nat) (u : Value), q < p → over (c.set q u) p r = (over c p r).set q u := by
      intro r
      induction r with
      | nil => intros; rfl
      | cons y r ih =>
        intro c p q u h
        simp only [over]
        rw [List.set_comm _ _ (by omega), ih _ _ _ _ (by omega)]
    simp only [over]
    rw [comm r _ _ _ _ (Nat.lt_succ_self o), comm r _ _ _ _ (Nat.lt_succ_self o), comm r _ _ _ _ (Nat.lt_succ_self o), over_over r, List.set_set]
theorem over_len : ∀ (r c : List Value) (o : Nat), (over c o r).length = c.length
  | [], _, _ => rfl
  | v :: r, c, o => by simp only [over]; rw [over_len, List.length_set]
theorem SXp.storeRow {r : List Value} [t : TRow P T' m] (hf : Near W R L O E g) (hw : wantO ops f ⟨none, .store T' xo yo, ty, pos, af, gd⟩ = some true) (hx : evO f xo = some (.pointer (some ⟨g, o, none⟩))) (hy : evO f yo = some (.agg r.toArray)) (ho : Nat.ble (o + m) c.length = true) (hm : r.length = m) (hv : r.all (·.oneCell') = true) (hc : over c o r = c')
    (h : SXp P n W R ops L O E g T c c' (k + 1) ((k, PV g T c') :: U) f rest Q) : SXp P n W R ops L O E g T c c' k U f (⟨none, .store T' xo yo, ty, pos, af, gd⟩ :: rest) Q :=
  SXp.skips hf hw rfl (fun a w hF hE => by
    have ho' : o + m ≤ c.length := Nat.le_of_ble_eq_true ho
    obtain ⟨_, h3⟩ := t.h
    have key : ∀ cs : List Value, cs.length = c.length → over cs o r = c' → w.heap[g]? = some (.cells cs.toArray T (0, 0)) → ∃ w', (execOp a.eval ⟨none, .store T' xo yo, ty, pos, af, gd⟩).run P w = .ok .skip w' ∧ w'.heap[g]? = some (.cells c'.toArray T (0, 0)) ∧ Mod (fun k => k = g) w w' := fun cs hl hs hb => by
      have e := run_store_row (P := P) (ty := T') h3 (w := w) (b := g) (o := o) (S := r.toArray) (by simp [hasRow, hb]; omega) (by simp [openRow, hb]) (by simpa using hm) (by simpa using hv)
      refine ⟨w.setCells g o r, by simp [execOp, hF.eval hx, hF.eval hy, e], ?_, mod_setCells g r o w⟩
      rw [setCells_heap g r o w _ _ _ hb, spl_over, hs]
    rcases hE with hE | hE
    · exact key c rfl hc hE
    · exact key c' (by rw [← hc, over_len]) (by rw [← hc, over_over]) hE) h
theorem SXp.nil (ks : Nat) (hf : Near W R L O E g) (hS : (ks, PV g T c') ∈ U) (h : SQ n W R (⟨g, c', T⟩ :: L) O E f .normal Q) : SXp P n W R ops L O E g T c c' k U f [] Q := ⟨fun F hF => RS.done fun x w hSw hU =>
  h.run _ w hF (Loc.addP hf hSw.1 (hU _ hS))⟩
theorem SXp.tail (ks : Nat) (hf : Near W R L O E g) (hS : (ks, PV g T c') ∈ U) (h : SXl P n W R ops (⟨g, c', T⟩ :: L) O E f rest Q) : SXp P n W R ops L O E g T c c' k U f [] (fun _ a w => wpList P ops Q rest a w) := ⟨fun F hF => RS.done fun x w hSw hU =>
  h.run _ w hF (Loc.addP hf hSw.1 (hU _ hS))⟩
end
end Go.Proofs.YthffgbhphjkdeaaGreatDoor
namespace Go.Proofs.YthffgbhphjkdeaaGreatDoor
open Go.RowKit
set_option linter.unusedVariables false
set_option linter.unusedSimpArgs false

/-- Only the cursor gc and block g may turn, this from the cells c to the cells c'. -/
def TZ (gc g T : Nat) (c c' : List Value) (w w' : World) : Prop := Mod (fun k => k = gc ∨ (k = g ∧ w.heap[k]? = some (.cells c.toArray T (0, 0)) ∧ w'.heap[k]? = some (.cells c'.toArray T (0, 0)))) w w'
/-- A value that was drawn. -/
def DV {ξ : Type} (v : ξ → Value) (K : ξ → Prop) (u : Value) : Prop := ∃ x, u = v x ∧ K x
/-- A literal slice of ints in new memory. -/
def IV (B e : Nat) (l : List Int) (w : World) (u : Value) : Prop := ∃ b, u = .slice (some ⟨b, 0, none⟩) l.length l.length ∧ B ≤ b ∧ w.heap[b]? = some (.cells (l.map (Value.int .i64)).toArray e (0, 0))
section
variable {P : Program} {n : Nat} {W : World} {L L' : List Blk} {O : List Own} {E E' : List Res} {w w' : World} {gc g T TC B : Nat} {c c' : List Value}
/-- The state of such a region. -/
structure SZ (W : World) (L : List Blk) (O : List Own) (E : List Res) (gc TC g T : Nat) (c c' : List Value) (B : Nat) (w : World) : Prop where
  loc : Loc W (Rg.none W) L O E w
  cur : (curRes TC W gc).says w
  blk : Either g T c c' w
  low : B ≤ w.heap.size
structure NearZ (W : World) (L : List Blk) (O : List Own) (E : List Res) (gc g B : Nat) : Prop where
  near : Near W (Rg.none W) L O E g
  nearC : Near W (Rg.none W) L O E gc
  ne : g ≠ gc
  lt : g < B ∧ gc < B
theorem SZ.keep (h : SZ W L O E gc TC g T c c' B w) (hm : Mod (fun _ => False) w w') : SZ W L O E gc TC g T c c' B w' :=
  ⟨h.loc.keep hm, (curRes TC W gc).stable _ _ _ h.cur hm (fun _ _ f => f), h.blk.keep hm, Nat.le_trans h.low hm.size⟩
theorem SZ.drawn (hn : NearZ W L O E gc g B) (h : SZ W L O E gc TC g T c c' B w) (hm : Mod (fun k => k = gc) w w') (hc : Cur W.heap.size TC w' gc) : SZ W L O E gc TC g T c c' B w' := by
  refine ⟨h.loc.keepP hn.nearC (fun k hk => hk) hm, ?_, ?_, Nat.le_trans h.low hm.size⟩
  · refine of_cur (fun k hk => ?_) hc
    have hg := h.cur.1
    rw [hm.block k (Nat.lt_of_lt_of_le hk h.loc.mod.size) (fun e => by omega), h.loc.mod.block k hk (fun f => f)]
  · rcases h.blk with hb | hb
    · exact .inl (hm.blk hb hn.ne)
    · exact .inr (hm.blk hb hn.ne)
structure SXz (P : Program) (n : Nat) (W : World) (ops : Array Oper) (L : List Blk) (O : List Own) (E : List Res) (gc TC g T : Nat) (c c' : List Value) (B : Nat) (k : Nat) (U : List (Nat × ((Nat → Value) → World → Value → Prop))) (f : (Nat → Value) → List (Nat × Value)) (l : List Oper) (Q : Exit → Go.Act → World → Prop) : Prop where
  run : ∀ F : (Nat → Value) → Go.Act, (∀ x, Fr n (f x) (F x)) → RS P ops (TZ gc g T c c') (SZ W L O E gc TC g T c c' B) Q k l F U
end
section
variable {P : Program} {n : Nat} {W : World} {L L' : List Blk} {O : List Own} {E E' : List Res} {U : List (Nat × ((Nat → Value) → World → Value → Prop))} {f : (Nat → Value) → List (Nat × Value)} {f0 : List (Nat × Value)} {Q : Exit → Go.Act → World → Prop} {ops : Array Oper} {rest : List Oper} {k gc TC g T B : Nat} {c c' : List Value}
theorem Loc.eraseE {i : Nat} {R : Rg W} {w : World} (h : Loc W R L O E w) : Loc W R L O (E.eraseIdx i) w where
  mod := h.mod
  inv := h.inv
  blk := h.blk
  apart := h.apart
  own := h.own
  ownApart := h.ownApart
  res := fun F hF => h.res F (List.mem_of_mem_eraseIdx hF)
  resNew := fun F hF => h.resNew F (List.mem_of_mem_eraseIdx hF)
  resApart := h.resApart.sublist (List.eraseIdx_sublist ..)
theorem SXz.v {o : Oper} {v : Value} {d : Nat} (hr : ∀ x, OpW P n W (Rg.none W) L O E (f x) o v) (hdst : o.dst = some d) (hw : ∀ x, wantO ops (f x) o = some true) (hd : Nat.blt d n = true) (h : SXz P n W ops L O E gc TC g T c c' B (k + 1) U (fun x => (d, v) :: f x) rest Q) : SXz P n W ops L O E gc TC g T c c' B k U f (o :: rest) Q := ⟨fun F hF =>
  RS.val [] (fun _ => v) rfl (fun _ _ _ => rfl) (fun x => wanted_of (hF x) (hw x)) (fun x w hS _ => wp_never ((hr x).run _ w (hF x) hS.loc) fun _ _ ⟨h1, h2⟩ => ⟨h1, hS.keep h2, h2.mono fun _ _ f => f.elim⟩) (by rw [hdst]; exact h.run _ fun x => (hF x).put hd v)⟩
/-- A value that hangs on what operation ka gave. -/
theorem SXz.vk {o : Oper} {d : Nat} (ka : Nat) (v : Value → Value) (hus : ([ka].all fun i => (reach ops ops.size k).contains i) = true) (hr : ∀ x w, (∀ u ∈ U, u.1 = ka → u.2 x w (x u.1)) → OpW P n W (Rg.none W) L O E (f x) o (v (x ka))) (hdst : o.dst = some d) (hw : ∀ x, wantO ops (f x) o = some true) (hd : Nat.blt d n = true) (h : SXz P n W ops L O E gc TC g T c c' B (k + 1) U (fun x => (d, v (x ka)) :: f x) rest Q) : SXz P n W ops L O E gc TC g T c c' B k U f (o :: rest) Q := ⟨fun F hF =>
  RS.val [ka] (fun x => v (x ka)) hus (fun x y h => by rw [h ka List.mem_cons_self]) (fun x => wanted_of (hF x) (hw x)) (fun x w hS hK => wp_never ((hr x w (fun u hu e => hK u hu (by rw [e]; exact List.mem_cons_self))).run _ w (hF x) hS.loc) fun _ _ ⟨h1, h2⟩ => ⟨h1, hS.keep h2, h2.mono fun _ _ f => f.elim⟩) (by rw [hdst]; exact h.run _ fun x => (hF x).put hd (v (x ka)))⟩
variable {d m : Nat} {fn : FuncId} {ars : List Operand} {aT : Array TypeId} {xo yo : Operand} {ty T' : TypeId} {pos : String} {af : Array Edge} {gd : Option (Nat × Bool)}
/-- A draw. -/
theorem SXz.draw {ξ : Type} {v : ξ → Value} {args : (Nat → Value) → List Value} [TFun P fn] (us : List Nat) (hn : NearZ W L O E gc g B) (hus : (us.all fun i => (reach ops ops.size k).contains i) = true) (hw : ∀ x, wantO ops (f x) ⟨some d, .call ⟨.value (.func fn), ars.toArray, aT⟩, ty, pos, af, gd⟩ = some true) (hd : Nat.blt d n = true) (ha : ∀ x, evL (f x) ars = some (args x)) (K : ξ → Prop)
    (hc : ∀ x w, Loc W (Rg.none W) L O E w → Cur W.heap.size TC w gc → (∀ u ∈ U, u.1 ∈ us → u.2 x w (x u.1)) → Calls P fn (args x).toArray w (DrewV TC W.heap.size gc w v K))
    (h : SXz P n W ops L O E gc TC g T c c' B (k + 1) ((k, fun _ _ u => DV v K u) :: U) (fun x => (d, x k) :: f x) rest Q) : SXz P n W ops L O E gc TC g T c c' B k U f (⟨some d, .call ⟨.value (.func fn), ars.toArray, aT⟩, ty, pos, af, gd⟩ :: rest) Q := ⟨fun F hF =>
  RS.new us (fun _ u => DV v K u) id (fun _ _ _ => rfl) hus (fun _ _ _ h _ => h) (fun x => wanted_of (hF x) (hw x)) (fun x w hS hK => by
    unfold Oper.wp
    rw [run_callop (hF x) (ha x) w _ _, Oper.upon_enter]
    refine (hc x w hS.loc (cur_of hS.loc.mod hS.cur) hK).mono ?_
    rintro e w' ⟨y, rfl, h1, h2, h3⟩
    exact ⟨v y, rfl, ⟨y, rfl, h1⟩, hS.drawn hn h2 h3, h2.mono fun _ _ e => .inl e⟩) (h.run _ fun x => (hF x).put hd _)⟩
/-- A literal of ints. -/
theorem SXz.lit {e by_ : Nat} {zv : Value} {parts : List (Nat × Operand)} {vals : List (Nat × Value)} (l : List Int) [t : TSl P T' e 1] [te : TEl P e 1 by_ zv] (hn : NearZ W L O E gc g B) (hw : ∀ x, wantO ops (f x) ⟨some d, .buildSlice T' l.length parts.toArray, ty, pos, af, gd⟩ = some true) (hd : Nat.blt d n = true)
    (hp : ∀ x, evP (f x) parts = some vals) (hm : l.length ≤ 16777216) (hc : Instr.fill (fun i => some (i * 1, 1)) (Array.replicate (l.length * 1) zv) vals = some (l.map (Value.int .i64)).toArray) (hz : zv.cells = #[zv])
    (h : SXz P n W ops L O E gc TC g T c c' B (k + 1) ((k, fun _ => IV B e l) :: U) (fun x => (d, x k) :: f x) rest Q) : SXz P n W ops L O E gc TC g T c c' B k U f (⟨some d, .buildSlice T' l.length parts.toArray, ty, pos, af, gd⟩ :: rest) Q := ⟨fun F hF =>
  RS.new [] (IV B e l) id (fun _ _ _ => rfl) rfl (fun w w' v ⟨b, h1, h2, h3⟩ hm => ⟨b, h1, h2, hm.blk h3 (fun hs => by
    have := hn.lt
    rcases hs with hs | hs
    · omega
    · have := hs.1; omega)⟩) (fun x => wanted_of (hF x) (hw x)) (fun x w hS _ => by
    -- the literal, as SXl.lit walks it
    have hl := hS.loc
    have key : SXl P n W (Rg.none W) ops L O E (f x) [⟨some d, .buildSlice T' l.length parts.toArray, ty, pos, af, gd⟩] (fun _ _ _ => True) := SXl.lit (vals := vals) (cells := l.map (Value.int .i64)) (z := zv) (hw x) hd (hp x) hm hc hz (fun g => SXl.nil ⟨fun _ _ _ _ => trivial⟩)
    obtain ⟨i0, q1, q2, q3, q4, q5, q6⟩ := te.h
    have e1 := evP_map (hF x) parts vals (hp x)
    have e2 : (parts.toArray.map fun p => (p.1, (F x).eval p.2)).toList = vals := by simpa using e1
    have hm2 : ¬ 2 ^ 24 < l.length := by omega
    have e3 : (Array.range l.length).map (fun _ => zv) = Array.replicate l.length zv := by
      apply Array.ext_getElem?
      intro i
      simp [Array.getElem?_map, Array.getElem?_range, Array.getElem?_replicate]
    have hrun : (execOp (F x).eval ⟨some d, .buildSlice T' l.length parts.toArray, ty, pos, af, gd⟩).run P w = .ok (.value (.slice (some ⟨w.heap.size, 0, none⟩) l.length l.length)) (w.alloc (.cells (l.map (Value.int .i64)).toArray e)) := by
      simp only [Nat.mul_one] at hc
      simp only [execOp, Instr.buildSlice, Sem.run_bind, run_underlying t.h.1, Result.andThen_ok, sizeOf, typeInfo, run_program, q1, Sem.run_pure, q3, Nat.mul_one]
      by_cases h0 : l.length = 0
      · have h00 : l = [] := List.length_eq_zero_iff.1 h0
        subst h00
        have hc' : Instr.fill (fun i => some (i, 1)) #[] vals = some #[] := by simpa using hc
        have e4 : Array.map (fun _ : Nat => (default : Value)) (Array.range 0) = #[] := by simp
        simp [newRow, q1, q2, q3, e1, e4, hc']
      · simp [newRow, zeroValue, typeInfo, q1, q2, hz, h0, hm2, Nat.mod_one, e1, e3, hc]
    have hmod : Mod (fun _ => False) w (w.alloc (.cells (l.map (Value.int .i64)).toArray e)) := (Mod.refl _ w).alloc _
    unfold Oper.wp
    rw [hrun, Oper.upon_value]
    exact ⟨_, rfl, ⟨w.heap.size, rfl, hS.low, heap_alloc_new w _⟩, hS.keep hmod, hmod.mono fun _ _ f => f.elim⟩) (h.run _ fun x => (hF x).put hd _)⟩
/-- The write. -/
theorem SXz.storeRow {r : List Value} [t : TRow P T' m] (hn : NearZ W L O E gc g B) (hw : ∀ x, wantO ops (f x) ⟨none, .store T' xo yo, ty, pos, af, gd⟩ = some true) (hx : ∀ x, evO (f x) xo = some (.pointer (some ⟨g, 0, none⟩))) (hy : ∀ x, evO (f x) yo = some (.agg r.toArray)) (hlen : c.length = m) (hm : r.length = m) (hv : r.all (·.oneCell') = true) (hc : r = c')
    (h : SXz P n W ops L O E gc TC g T c c' B (k + 1) ((k, PV g T c') :: U) f rest Q) : SXz P n W ops L O E gc TC g T c c' B k U f (⟨none, .store T' xo yo, ty, pos, af, gd⟩ :: rest) Q := ⟨fun F hF =>
  RS.newx [] (PV g T c') id (fun _ _ _ _ => rfl) rfl ⟨fun _ w w' v h hm => by
    unfold PV at *
    by_cases hs : g = gc ∨ (g = g ∧ w.heap[g]? = some (.cells c.toArray T (0, 0)) ∧ w'.heap[g]? = some (.cells c'.toArray T (0, 0)))
    · rcases hs with hs | hs
      · exact (hn.ne hs).elim
      · exact hs.2.2
    · rw [hm.block _ (Array.getElem?_eq_some_iff.1 h).1 hs]
      exact h, fun _ _ _ _ _ h => h⟩ (fun x => wanted_of (hF x) (hw x)) (fun x w hS _ => by
    subst hc
    obtain ⟨_, h3⟩ := t.h
    have key : ∀ cs : List Value, cs.length = m → w.heap[g]? = some (.cells cs.toArray T (0, 0)) → (execOp (F x).eval ⟨none, .store T' xo yo, ty, pos, af, gd⟩).run P w = .ok .skip (w.setCells g 0 r) ∧ (w.setCells g 0 r).heap[g]? = some (.cells r.toArray T (0, 0)) := fun cs hcs hb => by
      have e := run_store_row (P := P) (ty := T') h3 (w := w) (b := g) (o := 0) (S := r.toArray) (by simp [hasRow, hb, hcs]) (by simp [openRow, hb]) (by simpa using hm) (by simpa using hv)
      refine ⟨by simp [execOp, (hF x).eval (hx x), (hF x).eval (hy x), e], ?_⟩
      rw [setCells_heap g r 0 w _ _ _ hb, spl_over]
      have := over_all r cs [] (by omega)
      simp only [List.nil_append, List.length_nil] at this
      rw [this]
    have hmm := mod_setCells g r 0 w
    have fin : (execOp (F x).eval ⟨none, .store T' xo yo, ty, pos, af, gd⟩).run P w = .ok .skip (w.setCells g 0 r) ∧ (w.setCells g 0 r).heap[g]? = some (.cells r.toArray T (0, 0)) ∧ TZ gc g T c r w (w.setCells g 0 r) := by
      rcases hS.blk with hb | hb
      · obtain ⟨k1, k2⟩ := key c hlen hb
        exact ⟨k1, k2, hmm.mono fun k _ e => by subst e; exact .inr ⟨rfl, hb, k2⟩⟩
      · obtain ⟨k1, k2⟩ := key r hm hb
        exact ⟨k1, k2, hmm.os, hmm.tape, hmm.output, hmm.size, fun k hk hn => by
          by_cases e : k = g
          · subst e; rw [k2, hb]
          · exact hmm.block k hk e⟩
    obtain ⟨k1, k2, k3⟩ := fin
    unfold Oper.wp
    rw [k1, Oper.upon_skip]
    exact ⟨undef, rfl, k2, ⟨Loc.keepP hn.near hS.loc (fun k hk => hk) hmm, (curRes TC W gc).stable _ _ _ hS.cur hmm (fun k hk e => hn.ne (e.symm.trans hk)), .inr k2, Nat.le_trans hS.low hmm.size⟩, k3⟩) (h.run _ hF)⟩
theorem SXz.tail (ks : Nat) (hn : NearZ W L O E gc g B) (hs : (ks, PV g T c') ∈ U) (h : ∀ x, (∀ u ∈ U, ∃ w, u.2 x w (x u.1)) → SXl P n W (Rg.none W) ops (⟨g, c', T⟩ :: L) O (curRes TC W gc :: E) (f x) rest Q) : SXz P n W ops L O E gc TC g T c c' B k U f [] (fun _ a w => wpList P ops Q rest a w) := ⟨fun F hF => RS.done fun x w hSw hU => by
  have h1 := Loc.addP hn.near hSw.loc (hU _ hs)
  refine (h x (fun u hu => ⟨w, hU u hu⟩)).run _ w (hF x) ?_
  exact {
    mod := h1.mod, inv := h1.inv, blk := h1.blk, apart := h1.apart, own := h1.own, ownApart := h1.ownApart
    res := fun F hF => by
      rcases List.mem_cons.1 hF with rfl | hF
      · refine ⟨hSw.cur, fun k hk => ?_, fun b hb e => ?_, fun o ho k hk e => ?_⟩
        · have hk' : k = gc := hk
          have := hn.lt.2; have := hSw.low; omega
        · have hb' : b.g = gc := e
          rcases List.mem_cons.1 hb with rfl | hb
          · exact hn.ne hb'
          · exact hn.nearC.blk b hb hb'
        · have hk' : k = gc := e
          subst hk'
          exact hn.nearC.own o ho hk
      · exact h1.res F hF
    resNew := fun F hF k hk => by
      rcases List.mem_cons.1 hF with rfl | hF
      · have hk' : k = gc := hk
        have := hSw.cur.1; omega
      · exact h1.resNew F hF k hk
    resApart := List.pairwise_cons.2 ⟨fun G hG k hk hk2 => by
      have hk' : k = gc := hk
      subst hk'
      exact hn.nearC.res G hG hk2, h1.resApart⟩ }⟩
end
end Go.Proofs.YthffgbhphjkdeaaGreatDoor
namespace Go.Proofs.YthffgbhphjkdeaaGreatDoor
open Go.RowKit

def flagAt (b : Nat) (k : List UInt8) : Option Addr := if k = [97, 112, 97, 114, 116] then some ⟨b, 6, none⟩ else if k = [104, 105, 100, 100, 101, 110] then some ⟨b, 7, none⟩ else none
set_option maxRecDepth 100000 in
theorem flag_any (b : Nat) (k : List UInt8) (w : World) : Calls Tryz.prog 26 #[.pointer (some ⟨b, 0, none⟩), .string ⟨k.toArray⟩] w fun e w' => e = .returned (.pointer (flagAt b k)) ∧ Mod (fun _ => False) w w' := by
  refine calls_sx Tryz.func26 rfl rfl (fun a h1 h2 h3 => ((Fr.nil h1 h2).arg (h3 1 _ rfl)).arg (h3 0 _ rfl)) ?_
  by_cases k1 : k = [97, 112, 97, 114, 116]
  · subst k1
    repeat (first | refine SX.seq ?_ | refine SXl.nil ?_ | refine SX.region ?_ | refine SQ.thenNormal ?_ | refine SX.block ?_ | refine SX.condT rfl ?_ | (refine l_fieldAddr ?_; (refine SXl.v (OpW.fieldAddr rfl) rfl ?_ ?_ ?_); rfl; rfl) | (refine l_move ?_; (refine SXl.v (OpW.move rfl) rfl ?_ ?_ ?_); rfl; rfl) | (refine l_assign ?_; (refine SXl.v (OpW.assign rfl) rfl ?_ ?_ ?_); rfl; rfl) | (refine l_nilCheck ?_; (refine SXl.v (OpW.nilCheck rfl) rfl ?_ ?_ ?_); rfl; rfl) | (refine l_eql ?_; (refine SXl.v (OpW.eqlStrT rfl rfl (by first | assumption | with_reducible rfl | decide)) rfl ?_ ?_ ?_); rfl; rfl) | refine SX.ret ?_ | refine SQ.thenRet ?_ | refine SQ.blockRet ?_)
    refine SQ.body1 rfl rfl (fun w' hl => ⟨rfl, hl.mod⟩)
  by_cases k2 : k = [104, 105, 100, 100, 101, 110]
  · subst k2
    repeat (first | refine SX.seq ?_ | refine SXl.nil ?_ | refine SX.region ?_ | refine SQ.thenNormal ?_ | refine SX.block ?_ | refine SX.condT rfl ?_ | refine SX.condF rfl ?_ | (refine l_fieldAddr ?_; (refine SXl.v (OpW.fieldAddr rfl) rfl ?_ ?_ ?_); rfl; rfl) | (refine l_move ?_; (refine SXl.v (OpW.move rfl) rfl ?_ ?_ ?_); rfl; rfl) | (refine l_assign ?_; (refine SXl.v (OpW.assign rfl) rfl ?_ ?_ ?_); rfl; rfl) | (refine l_nilCheck ?_; (refine SXl.v (OpW.nilCheck rfl) rfl ?_ ?_ ?_); rfl; rfl) | (refine l_eql ?_; (first | refine SXl.v (OpW.eqlStrT rfl rfl (by first | assumption | with_reducible rfl | decide)) rfl ?_ ?_ ?_ | refine SXl.v (OpW.eqlStrF rfl rfl (by first | assumption | with_reducible rfl | decide)) rfl ?_ ?_ ?_); rfl; rfl) | refine SX.ret ?_ | refine SQ.thenRet ?_ | refine SQ.blockRet ?_)
    refine SQ.body1 rfl rfl (fun w' hl => ⟨rfl, hl.mod⟩)
  · repeat (first | refine SX.seq ?_ | refine SXl.nil ?_ | refine SX.region ?_ | refine SQ.thenNormal ?_ | refine SX.block ?_ | refine SX.skip ?_ | refine SX.condF rfl ?_ | (refine l_move ?_; (refine SXl.v (OpW.move rfl) rfl ?_ ?_ ?_); rfl; rfl) | (refine l_assign ?_; (refine SXl.v (OpW.assign rfl) rfl ?_ ?_ ?_); rfl; rfl) | (refine l_eql ?_; (refine SXl.v (OpW.eqlStrF rfl rfl (by first | assumption | with_reducible rfl | decide)) rfl ?_ ?_ ?_); rfl; rfl) | refine SX.ret ?_ | refine SQ.blockNormal ?_)
    refine SQ.body1 rfl rfl (fun w' hl => ⟨by unfold flagAt; rw [if_neg k1, if_neg k2], hl.mod⟩)

/-- Where a key stands, or -1. -/
def keyI (l : List (List UInt8)) (k : List UInt8) : Int := match idxOf l k with
  | some i => (i : Nat)
  | none => -1
theorem idxOf_first {l : List (List UInt8)} {k : List UInt8} {i : Nat} (h : ∀ j x, j < i → l[j]? = some x → x ≠ k) (hi : l[i]? = some k) : idxOf l k = some i := by
  unfold idxOf
  rw [List.findIdx?_eq_some_iff_getElem]
  obtain ⟨h1, h2⟩ := List.getElem?_eq_some_iff.1 hi
  exact ⟨h1, by simpa using h2, fun j hj => by simpa using h j _ hj (List.getElem?_eq_getElem (by omega))⟩
theorem idxOf_none {l : List (List UInt8)} {k : List UInt8} (h : ∀ j x, j < l.length → l[j]? = some x → x ≠ k) : idxOf l k = none := by
  unfold idxOf
  rw [List.findIdx?_eq_none_iff]
  intro x hx
  obtain ⟨j, hj⟩ := List.mem_iff_getElem?.1 hx
  simpa using h j x (List.getElem?_eq_some_iff.1 hj).1 hj
theorem keyI_some {l : List (List UInt8)} {k : List UInt8} {i : Nat} (h : idxOf l k = some i) : keyI l k = (i : Nat) := by unfold keyI; rw [h]
theorem keyI_none {l : List (List UInt8)} {k : List UInt8} (h : idxOf l k = none) : keyI l k = -1 := by unfold keyI; rw [h]
theorem ne_succ {l : List (List UInt8)} {k x : List UInt8} {i : Nat} (h : ∀ j x, j < i → l[j]? = some x → x ≠ k) (hx : l[i]? = some x) (hn : x ≠ k) : ∀ j x, j < i + 1 → l[j]? = some x → x ≠ k := fun j y hj hy => by
  by_cases e : j = i
  · subst e; rw [hx] at hy; rw [← Option.some.inj hy]; exact hn
  · exact h j y (by omega) hy

set_option maxRecDepth 100000 in
set_option maxHeartbeats 4000000 in
theorem keyAt_any (l : List (List UInt8)) (k : List UInt8) (a : Option Addr) (c : Nat) (R : Nat → Prop) (w : World) (hlen : l.length ≤ 1048576) (h : TextSlice R w a l) :
    Calls Tryz.prog 27 #[.slice a l.length c, .string ⟨k.toArray⟩] w fun e w' => e = .returned (.int .i64 (keyI l k)) ∧ Mod (fun _ => False) w w' := by
  refine calls_sx Tryz.func27 rfl rfl (fun a h1 h2 h3 => ((Fr.nil h1 h2).arg (h3 1 _ rfl)).arg (h3 0 _ rfl)) ?_
  repeat (first | refine SX.seq ?_ | refine SXl.nil ?_ | refine SX.region ?_ | refine SQ.thenNormal ?_ | refine SX.block ?_ | (refine l_move ?_; (refine SXl.v (OpW.move rfl) rfl ?_ ?_ ?_); rfl; rfl) | (refine l_assign ?_; (refine SXl.v (OpW.assign rfl) rfl ?_ ?_ ?_); rfl; rfl) | (refine l_len ?_; (refine SXl.v (OpW.len rfl) rfl ?_ ?_ ?_); rfl; rfl))
  refine SX.loopi (fun i : Nat => i ≤ l.length ∧ ∀ j x, j < i → l[j]? = some x → x ≠ k) (fun i => l.length - i) (fun _ => []) (fun _ => []) (fun _ => []) (fun i => [(1, .string ⟨k.toArray⟩), (7, .slice a l.length c), (8, .int .i64 l.length), (9, .int .i64 i)]) 0 ⟨Nat.zero_le _, fun i x h => absurd h (Nat.not_lt_zero _)⟩ ?_ (fun _ hl => hl) ?_
  · (repeat (first | exact subF_nil _ | (refine subF_cons rfl ?_) | (refine subF_consv rfl (by rfl) ?_)))
  · rintro i ⟨hk, hs⟩
    by_cases hlt : i < l.length
    · obtain ⟨b1, o1, x, rfl, _, _, hxk, hc1⟩ := TextSlice.get h hlt
      by_cases e : x = k
      · subst e
        repeat (first | refine SX.seq ?_ | refine SXl.nil ?_ | refine SX.region ?_ | refine SQ.thenNormal ?_ | refine SX.block ?_ | refine SX.skip ?_ | refine SX.condT rfl ?_ | (refine l_load ?_; (refine SXl.v (OpW.loadOld rfl (by assumption) (fun h => h)) rfl ?_ ?_ ?_); rfl; rfl) | (refine l_move ?_; (refine SXl.v (OpW.move rfl) rfl ?_ ?_ ?_); rfl; rfl) | (refine l_assign ?_; (refine SXl.v (OpW.assign rfl) rfl ?_ ?_ ?_); rfl; rfl) | (refine l_eql ?_; (refine SXl.v (OpW.eqlStrT rfl rfl (by first | assumption | with_reducible rfl | decide)) rfl ?_ ?_ ?_); rfl; rfl) | (refine l_lss ?_; (refine SXl.v (OpW.lssT rfl rfl (by omega)) rfl ?_ ?_ ?_); rfl; rfl) | (refine l_indexAddr ?_; (refine SXl.v (OpW.indexAddr1 (by omega) rfl rfl) rfl ?_ ?_ ?_); rfl; rfl) | refine SX.ret ?_ | refine SQ.thenRet ?_ | refine SQ.blockRet ?_)
        refine SQ.body1 rfl rfl (fun w' hl => ⟨by rw [keyI_some (idxOf_first hs hxk.out)], hl.mod⟩)
      · repeat (first | refine SX.seq ?_ | refine SXl.nil ?_ | refine SX.region ?_ | refine SQ.thenNormal ?_ | refine SX.block ?_ | refine SX.skip ?_ | refine SX.condT rfl ?_ | refine SX.condF rfl ?_ | (refine l_load ?_; (refine SXl.v (OpW.loadOld rfl (by assumption) (fun h => h)) rfl ?_ ?_ ?_); rfl; rfl) | (refine l_move ?_; (refine SXl.v (OpW.move rfl) rfl ?_ ?_ ?_); rfl; rfl) | (refine l_assign ?_; (refine SXl.v (OpW.assign rfl) rfl ?_ ?_ ?_); rfl; rfl) | (refine l_add ?_; (refine SXl.v (OpW.succ rfl rfl (by omega)) rfl ?_ ?_ ?_); rfl; rfl) | (refine l_eql ?_; (refine SXl.v (OpW.eqlStrF rfl rfl (by first | assumption | with_reducible rfl | decide)) rfl ?_ ?_ ?_); rfl; rfl) | (refine l_lss ?_; (refine SXl.v (OpW.lssT rfl rfl (by omega)) rfl ?_ ?_ ?_); rfl; rfl) | (refine l_indexAddr ?_; (refine SXl.v (OpW.indexAddr1 (by omega) rfl rfl) rfl ?_ ?_ ?_); rfl; rfl) | refine SQ.blockNormal ?_)
        refine SQ.roundi (i + 1) ⟨by omega, ne_succ hs hxk.out e⟩ (by omega) ?_ (fun _ hl => hl)
        (repeat (first | exact subF_nil _ | (refine subF_cons rfl ?_) | (refine subF_consv rfl (by rfl) ?_)))
    · repeat (first | refine SX.seq ?_ | refine SXl.nil ?_ | refine SX.region ?_ | refine SQ.thenNormal ?_ | refine SX.condF rfl ?_ | (refine l_assign ?_; (refine SXl.v (OpW.assign rfl) rfl ?_ ?_ ?_); rfl; rfl) | (refine l_lss ?_; (refine SXl.v (OpW.lssF rfl rfl (by omega)) rfl ?_ ?_ ?_); rfl; rfl) | refine SX.ret ?_ | refine SX.exit ?_ | refine SQ.thenExit ?_ | refine SQ.blockExit ?_)
      refine SQ.body1 rfl rfl (fun w' hl => ⟨by rw [keyI_none (idxOf_none fun j x hj hx => hs j x (by omega) hx)], hl.mod⟩)

/-- A pointer at a place of block b. -/
def ptrAt (b o : Nat) : Value := .pointer (some ⟨b, o, none⟩)
def intPtrs (b : Nat) : List Value := (ioffs.take 6).map (ptrAt b) ++ [.pointer none, .pointer none] ++ (ioffs.drop 8).map (ptrAt b)
def valPtrs (b : Nat) : List Value := voffs.map (ptrAt b)
theorem intPtrs_at (b : Nat) {i : Nat} (h : i < 22) (h6 : i ≠ 6) (h7 : i ≠ 7) : (intPtrs b)[i]? = some (.pointer (some ⟨b, ioffs.getD i 0, none⟩)) := by
  obtain (rfl|rfl|rfl|rfl|rfl|rfl|rfl|rfl|rfl|rfl|rfl|rfl|rfl|rfl|rfl|rfl|rfl|rfl|rfl|rfl|rfl|rfl) : i = 0 ∨ i = 1 ∨ i = 2 ∨ i = 3 ∨ i = 4 ∨ i = 5 ∨ i = 6 ∨ i = 7 ∨ i = 8 ∨ i = 9 ∨ i = 10 ∨ i = 11 ∨ i = 12 ∨ i = 13 ∨ i = 14 ∨ i = 15 ∨ i = 16 ∨ i = 17 ∨ i = 18 ∨ i = 19 ∨ i = 20 ∨ i = 21 := by omega
  all_goals first | contradiction | rfl
theorem valPtrs_at (b : Nat) {i : Nat} (h : i < 19) : (valPtrs b)[i]? = some (.pointer (some ⟨b, voffs.getD i 0, none⟩)) := by
  obtain (rfl|rfl|rfl|rfl|rfl|rfl|rfl|rfl|rfl|rfl|rfl|rfl|rfl|rfl|rfl|rfl|rfl|rfl|rfl) : i = 0 ∨ i = 1 ∨ i = 2 ∨ i = 3 ∨ i = 4 ∨ i = 5 ∨ i = 6 ∨ i = 7 ∨ i = 8 ∨ i = 9 ∨ i = 10 ∨ i = 11 ∨ i = 12 ∨ i = 13 ∨ i = 14 ∨ i = 15 ∨ i = 16 ∨ i = 17 ∨ i = 18 := by omega
  all_goals rfl
set_option maxRecDepth 100000 in
set_option maxHeartbeats 4000000 in
theorem ints_any (b : Nat) (w : World) : Calls Tryz.prog 28 #[.pointer (some ⟨b, 0, none⟩)] w (NewB Unit (fun _ g => .slice (some ⟨g, 0, none⟩) 22 22) (fun _ => intPtrs b) 59 w) := by
  refine calls_sx Tryz.func28 rfl rfl (fun a h1 h2 h3 => ((Fr.nil h1 h2).arg (h3 0 _ rfl))) ?_
  repeat (first | refine SX.seq ?_ | refine SXl.nil ?_ | refine SX.region ?_ | refine SQ.thenNormal ?_ | (refine l_assign ?_; (refine SXl.v (OpW.assign rfl) rfl ?_ ?_ ?_); rfl; rfl))
  refine SX.drawnTail 68 (by kernel_rfl) (by kernel_rfl) (by kernel_rfl) ?_
  repeat (first | refine SXr.nil ?_ | (refine r_fieldAddr ?_; (refine SXr.v (OpW.fieldAddr rfl) rfl ?_ ?_ ?_); rfl; rfl) | (refine r_move ?_; (refine SXr.v (OpW.move rfl) rfl ?_ ?_ ?_); rfl; rfl) | (refine r_nilCheck ?_; (refine SXr.v (OpW.nilCheck rfl) rfl ?_ ?_ ?_); rfl; rfl))
  refine SQ.tail ?_
  refine l_buildSlice ?_
  refine SXl.lit (cells := intPtrs b) (z := .pointer none) ?_ ?_ rfl (by decide) (by kernel_rfl) rfl (fun g => ?_)
  rfl; rfl
  repeat (first | refine SXl.nil ?_ | refine SQ.thenNormal ?_ | (refine l_assign ?_; (refine SXl.v (OpW.assign rfl) rfl ?_ ?_ ?_); rfl; rfl) | refine SX.ret ?_)
  refine SQ.body1 rfl rfl (fun w' hl => ⟨(), g, rfl, hl.blk0.1, hl.blk0.2, hl.mod⟩)
set_option maxRecDepth 100000 in
set_option maxHeartbeats 4000000 in
theorem values_any (b : Nat) (w : World) : Calls Tryz.prog 29 #[.pointer (some ⟨b, 0, none⟩)] w (NewB Unit (fun _ g => .slice (some ⟨g, 0, none⟩) 19 19) (fun _ => valPtrs b) 62 w) := by
  refine calls_sx Tryz.func29 rfl rfl (fun a h1 h2 h3 => ((Fr.nil h1 h2).arg (h3 0 _ rfl))) ?_
  repeat (first | refine SX.seq ?_ | refine SXl.nil ?_ | refine SX.region ?_ | refine SQ.thenNormal ?_ | (refine l_assign ?_; (refine SXl.v (OpW.assign rfl) rfl ?_ ?_ ?_); rfl; rfl))
  refine SX.drawnTail 69 (by kernel_rfl) (by kernel_rfl) (by kernel_rfl) ?_
  repeat (first | refine SXr.nil ?_ | (refine r_fieldAddr ?_; (refine SXr.v (OpW.fieldAddr rfl) rfl ?_ ?_ ?_); rfl; rfl) | (refine r_move ?_; (refine SXr.v (OpW.move rfl) rfl ?_ ?_ ?_); rfl; rfl) | (refine r_nilCheck ?_; (refine SXr.v (OpW.nilCheck rfl) rfl ?_ ?_ ?_); rfl; rfl))
  refine SQ.tail ?_
  refine l_buildSlice ?_
  refine SXl.lit (cells := valPtrs b) (z := .pointer none) ?_ ?_ rfl (by decide) (by kernel_rfl) rfl (fun g => ?_)
  rfl; rfl
  repeat (first | refine SXl.nil ?_ | refine SQ.thenNormal ?_ | (refine l_assign ?_; (refine SXl.v (OpW.assign rfl) rfl ?_ ?_ ?_); rfl; rfl) | refine SX.ret ?_)
  refine SQ.body1 rfl rfl (fun w' hl => ⟨(), g, rfl, hl.blk0.1, hl.blk0.2, hl.mod⟩)

end Go.Proofs.YthffgbhphjkdeaaGreatDoor
namespace Go.Proofs.YthffgbhphjkdeaaGreatDoor
open Go.RowKit


end Go.Proofs.YthffgbhphjkdeaaGreatDoor
namespace Go.Proofs.YthffgbhphjkdeaaGreatDoor
open Go.RowKit

end Go.Proofs.YthffgbhphjkdeaaGreatDoor
namespace Go.Proofs.YthffgbhphjkdeaaGreatDoor
open Go.RowKit

/-- The library's MaxLen holds a number. -/
def Num0 (w : World) : Prop := ∃ m, w.cell? ⟨2, 0, none⟩ = some (.int .i64 m)
theorem Num0.keep {w w' : World} (h : Num0 w) (hm : Mod (fun _ => False) w w') : Num0 w' := by
  obtain ⟨m, h⟩ := h
  exact ⟨m, hm.keep _ _ h⟩

theorem num0 {w : World} (h : w.ShapedOpen Tryz.prog) : Num0 w := Tryz.laysM146.s1_3 w h
/-- What a call gives that makes texts. -/
def NewTexts (w : World) (l : List (List UInt8)) (e : Ending) (w' : World) : Prop :=
  ∃ (a : Option Addr) (c : Nat), e = .returned (.slice a l.length c) ∧ w'.ownsRow w.heap.size 9 1 (.slice a l.length c) l.length (l.map tcell).flatten ∧ Mod (fun _ => False) w w'
theorem new_texts {w : World} {cs : List Value} {l : List (List UInt8)} {n : Nat} (h : cs = (l.map tcell).flatten) (hn : n = l.length) (hb : l.length ≤ 1000) : NewTexts w l (.returned (.slice (some ⟨w.heap.size, 0, none⟩) n n)) (w.alloc (.cells cs.toArray 9)) := by
  subst h hn
  have hfl := flat_length (cells := tcell) (sz := 1) (fun _ => rfl) l
  refine ⟨_, _, rfl, ⟨by rw [hfl], .inr ⟨w.heap.size, l.length, _, rfl, Nat.le_refl _, heap_alloc_new w _, Nat.le_refl _, by unfold maxLen; omega, by rw [List.size_toArray, hfl], ?_⟩⟩, (Mod.refl _ w).alloc _⟩
  exact List.take_of_length_le (by show (l.map tcell).flatten.length ≤ _; omega)
theorem NewTexts.text {w w' : World} {l : List (List UInt8)} {e : Ending} (h : NewTexts w l e w') : NewSlice 9 1 w l.length (l.map tcell).flatten e w' := by
  obtain ⟨a, c, h1, h2, h3⟩ := h
  exact ⟨a, c, h1, h2, h3⟩

set_option maxRecDepth 100000 in
theorem intKeys_any (w : World) (hz : Num0 w) : Calls Tryz.prog 24 #[] w (NewTexts w intTexts) := by
  obtain ⟨m, hm⟩ := hz
  go_enter Tryz.func24, Tryz.ntmps24
  go_wp2_with fail
  refine (Tryz.strings_Split _ _ m _ (by decide +kernel) hm (by decide +kernel)).mono ?_
  rintro e w' ⟨he, hw⟩
  have e1 : e = .returned (.slice (some ⟨w.heap.size, 0, none⟩) 22 22) := he.trans (by kernel_rfl)
  have e2 : w' = w.alloc (.cells (intTexts.map tcell).flatten.toArray 9) := hw.trans (congrArg (fun l : List Value => w.alloc (.cells l.toArray 9)) (by kernel_rfl))
  clear he hw
  subst e1 e2
  go_wp2
  go_ret
  exact new_texts rfl rfl (by decide)

set_option maxRecDepth 100000 in
theorem valueKeys_any (w : World) (hz : Num0 w) : Calls Tryz.prog 25 #[] w (NewTexts w valueTexts) := by
  obtain ⟨m, hm⟩ := hz
  go_enter Tryz.func25, Tryz.ntmps25
  go_wp2_with fail
  refine (Tryz.strings_Split _ _ m _ (by decide +kernel) hm (by decide +kernel)).mono ?_
  rintro e w' ⟨he, hw⟩
  have e1 : e = .returned (.slice (some ⟨w.heap.size, 0, none⟩) 19 19) := he.trans (by kernel_rfl)
  have e2 : w' = w.alloc (.cells (valueTexts.map tcell).flatten.toArray 9) := hw.trans (congrArg (fun l : List Value => w.alloc (.cells l.toArray 9)) (by kernel_rfl))
  clear he hw
  subst e1 e2
  go_wp2
  go_ret
  exact new_texts rfl rfl (by decide)



set_option maxRecDepth 100000 in
theorem keyNames_any (w : World) (hz : Num0 w) : Calls Tryz.prog 8 #[] w (NewTexts w keyTexts) := by
  obtain ⟨i0, hi, hz0, hz1, hz2⟩ := info_parts info_string
  have Hi := hid hi
  have Hz0 := hid hz0
  have Hz1 := hid hz1
  have Hz2 := hid hz2
  clear hi hz0 hz1 hz2
  go_enter Tryz.func8, Tryz.ntmps8
  go_wp2_with fail
  refine (intKeys_any _ hz).mono ?_
  rintro e w1 ⟨a1, c1, rfl, hO1, hm1⟩
  go_wp2_with fail
  refine (valueKeys_any _ (hz.keep hm1)).mono ?_
  rintro e w2 ⟨a2, c2, rfl, hO2, hm2⟩
  have hO3 := own_mod hO1 hm2 (fun _ _ f => f)
  have hS := own_slice (cells := tcell) hO2 (fun _ => rfl) (by decide)
  have hM := hm1.thenNone hm2
  have hroom : w.heap.size ≤ w2.heap.size := hM.size
  have hl : intTexts.length + valueTexts.length ≤ 1000 := by decide
  have HS := hid hS
  clear hS hO2
  go_wp2_with (first | (at_builtin; refine wpList_append_slice (cells := tcell) (B := w.heap.size) rfl _ _ ⟨Tryz.underlying36, Hi.out, Hz0.out, Hz1.out, Hz2.out, by decide⟩ rfl (fun _ => rfl) (fun x u hu => by simp [tcell] at hu; subst hu; rfl) rfl rfl hO3 hroom rfl rfl HS.out (by unfold maxLen; omega) (by omega) ?_))
  intro a3 c3 w3 hO hg
  have hM3 := hM.appendedAt hO3 (Nat.le_refl _) hg
  have e : keyTexts.length = intTexts.length + valueTexts.length := rfl
  go_wp2
  go_ret
  refine ⟨a3, c3, rfl, ?_, hM3⟩
  rw [e]
  unfold keyTexts
  rw [List.map_append, List.flatten_append]
  exact hO


end Go.Proofs.YthffgbhphjkdeaaGreatDoor
namespace Go.Proofs.YthffgbhphjkdeaaGreatDoor
open Go.RowKit

/-- Where a slice lies. -/
structure SlP where
  a : Option Addr
  c : Nat
  lo : Nat
def ownRes {α : Type} (cells : α → List Value) (e sz : Nat) (l : List α) (q : SlP) : Res where
  foot := fun k => (Value.slice q.a l.length q.c).ownBlock = some k
  says := fun w => w.ownsRow q.lo e sz (.slice q.a l.length q.c) l.length (l.map cells).flatten
  stable := fun _ _ _ h hm hs => ownsRow_keep h hm hs
theorem new_own {α : Type} {cells : α → List Value} {e sz : Nat} {l : List α} {w w' : World} {en : Ending} (h : NewSlice e sz w l.length (l.map cells).flatten en w') : NewR SlP (fun q => .slice q.a l.length q.c) (ownRes cells e sz l) w en w' := by
  obtain ⟨a, c, he, ho, hm⟩ := h
  exact ⟨⟨a, c, w.heap.size⟩, he, ⟨ho, fun k hk => ownBlock_lt ho hk⟩, hm⟩
/-- Memory of which nothing more is told. -/
def deadRes : Res := ⟨fun _ => False, fun _ => True, fun _ _ _ _ _ _ => trivial⟩

/-- One cell of memory that a fact speaks of. -/
theorem OpW.loadRes {P : Program} {n : Nat} {W : World} {R : Rg W} {L : List Blk} {O : List Own} {E : List Res} {f : List (Nat × Value)} {d : Option Tmp} {T : TypeId} {x : Operand} {ty : TypeId} {pos : String} {af : Array Edge} {gd : Option (Nat × Bool)} {F : Res} {p o : Nat} {v : Value} [TOne P T] (hF : F ∈ E) (hx : evO f x = some (.pointer (some ⟨p, o, none⟩))) (hv : ∀ w, F.says w → w.cell? ⟨p, o, none⟩ = some v) : OpW P n W R L O E f ⟨d, .load T x, ty, pos, af, gd⟩ v :=
  OpW.of (fun a w hf hl => by simp [execOp, hf.eval hx, run_load1 (hv w (hl.res F hF).1)])

end Go.Proofs.YthffgbhphjkdeaaGreatDoor
namespace Go.Proofs.YthffgbhphjkdeaaGreatDoor
open Go.RowKit

/-- The keys' texts, where a call has laid them. -/
structure IntKept (q : SlP) (w : World) : Prop where
  h : (ownRes tcell 9 1 intTexts q).says w
structure ValKept (q : SlP) (w : World) : Prop where
  h : (ownRes tcell 9 1 valueTexts q).says w
def intRes (q : SlP) : Res where
  foot := fun k => (Value.slice q.a 22 q.c).ownBlock = some k
  says := IntKept q
  stable := fun S w w' h hm hs => ⟨(ownRes tcell 9 1 intTexts q).stable S w w' h.h hm hs⟩
def valRes (q : SlP) : Res where
  foot := fun k => (Value.slice q.a 19 q.c).ownBlock = some k
  says := ValKept q
  stable := fun S w w' h hm hs => ⟨(ownRes tcell 9 1 valueTexts q).stable S w w' h.h hm hs⟩
theorem intKeys_new (w : World) (hz : Num0 w) : Calls Tryz.prog 24 #[] w (NewR SlP (fun q => .slice q.a 22 q.c) intRes w) :=
  (intKeys_any w hz).mono fun _ _ h => by
    obtain ⟨q, h1, ⟨h2, h3⟩, h4⟩ := new_own (cells := tcell) (sz := 1) (l := intTexts) h.text
    exact ⟨q, h1, ⟨⟨h2⟩, h3⟩, h4⟩
theorem valueKeys_new (w : World) (hz : Num0 w) : Calls Tryz.prog 25 #[] w (NewR SlP (fun q => .slice q.a 19 q.c) valRes w) :=
  (valueKeys_any w hz).mono fun _ _ h => by
    obtain ⟨q, h1, ⟨h2, h3⟩, h4⟩ := new_own (cells := tcell) (sz := 1) (l := valueTexts) h.text
    exact ⟨q, h1, ⟨⟨h2⟩, h3⟩, h4⟩
theorem keyAt_int (k : List UInt8) (q : SlP) (w : World) (h : IntKept q w) : Calls Tryz.prog 27 #[.slice q.a 22 q.c, .string ⟨k.toArray⟩] w fun e w' => e = .returned (.int .i64 (keyI intTexts k)) ∧ Mod (fun _ => False) w w' :=
  keyAt_any intTexts k q.a q.c _ w (by decide) (own_slice (cells := tcell) (sz := 1) (l := intTexts) h.h (fun _ => rfl) (by decide))
theorem keyAt_val (k : List UInt8) (q : SlP) (w : World) (h : ValKept q w) : Calls Tryz.prog 27 #[.slice q.a 19 q.c, .string ⟨k.toArray⟩] w fun e w' => e = .returned (.int .i64 (keyI valueTexts k)) ∧ Mod (fun _ => False) w w' :=
  keyAt_any valueTexts k q.a q.c _ w (by decide) (own_slice (cells := tcell) (sz := 1) (l := valueTexts) h.h (fun _ => rfl) (by decide))

set_option maxRecDepth 100000 in
set_option maxHeartbeats 4000000 in
theorem keyOf_any (s : Style) (k : List UInt8) (w : World) (hz : Num0 w) : Calls Tryz.prog 10 #[.agg s.cells.toArray, .string ⟨k.toArray⟩] w fun e w' => e = .returned (.tuple #[.agg (keyOf s k).1.cells.toArray, .bool (keyOf s k).2]) ∧ Mod (fun _ => False) w w' := by
  refine calls_sx Tryz.func10 rfl rfl (fun a h1 h2 h3 => ((Fr.nil h1 h2).arg (h3 1 _ rfl)).arg (h3 0 _ rfl)) ?_
  have hflag := fun b => flag_any b k
  by_cases k1 : k = [97, 112, 97, 114, 116]
  · subst k1
    have e3 : keyOf s [97, 112, 97, 114, 116] = (⟨1, bitOf s.apart⟩, true) := by kernel_rfl
    have e4 : ∀ b, flagAt b [97, 112, 97, 114, 116] = some ⟨b, 6, none⟩ := fun b => rfl
    simp only [e4] at hflag
    rw [e3]
    cases hb : s.apart
    · repeat (first | refine SX.seq ?_ | refine SXl.nil ?_ | refine SX.region ?_ | refine SQ.thenNormal ?_ | refine SX.skip ?_ | refine SX.condT rfl ?_ | refine SX.condF rfl ?_ | (refine l_call ?_; (refine SXl.v (OpW.call rfl (fun w hl => hflag _ _)) rfl ?_ ?_ ?_); rfl; rfl) | (refine l_load ?_; (refine SXl.v (OpW.load 1 rfl rfl rfl) rfl ?_ ?_ ?_); rfl; rfl) | (refine l_move ?_; (refine SXl.v (OpW.move rfl) rfl ?_ ?_ ?_); rfl; rfl) | (refine l_assign ?_; (refine SXl.v (OpW.assign rfl) rfl ?_ ?_ ?_); rfl; rfl) | (refine l_nilCheck ?_; (refine SXl.v (OpW.nilCheck rfl) rfl ?_ ?_ ?_); rfl; rfl) | (refine l_build ?_; (refine SXl.v (OpW.build rfl rfl) rfl ?_ ?_ ?_); rfl; rfl) | (refine l_neq ?_; (refine SXl.v (OpW.neqNil rfl rfl) rfl ?_ ?_ ?_); rfl; rfl) | (refine l_alloc ?_; refine SXl.alloc ?_ ?_ (fun g => ?_); rfl; rfl) | (refine l_box ?_; refine SXl.box ?_ ?_ rfl rfl (fun g => ?_); rfl; rfl) | (refine l_store ?_; first | (refine SXl.storeAll 0 ?_ rfl rfl rfl rfl rfl rfl rfl ?_; rfl; simp only [List.set_cons_zero, List.set_cons_succ]) | (refine SXl.storeAll 1 ?_ rfl rfl rfl rfl rfl rfl rfl ?_; rfl; simp only [List.set_cons_zero, List.set_cons_succ]) | (refine SXl.storeAll 2 ?_ rfl rfl rfl rfl rfl rfl rfl ?_; rfl; simp only [List.set_cons_zero, List.set_cons_succ]) | (refine SXl.storeRow 0 ?_ rfl rfl rfl rfl rfl rfl rfl ?_; rfl; simp only [over, List.set_cons_zero, List.set_cons_succ]) | (refine SXl.storeRow 1 ?_ rfl rfl rfl rfl rfl rfl rfl ?_; rfl; simp only [over, List.set_cons_zero, List.set_cons_succ]) | (refine SXl.storeRow 2 ?_ rfl rfl rfl rfl rfl rfl rfl ?_; rfl; simp only [over, List.set_cons_zero, List.set_cons_succ])) | (rw [hb]) | refine SX.ret ?_ | refine SQ.thenRet ?_)
      refine SQ.bodyCell2 0 rfl rfl rfl rfl rfl (fun w' hl => ⟨rfl, hl.mod⟩)
    · repeat (first | refine SX.seq ?_ | refine SXl.nil ?_ | refine SX.region ?_ | refine SQ.thenNormal ?_ | refine SX.condT rfl ?_ | (refine l_call ?_; (refine SXl.v (OpW.call rfl (fun w hl => hflag _ _)) rfl ?_ ?_ ?_); rfl; rfl) | (refine l_load ?_; (refine SXl.v (OpW.load 1 rfl rfl rfl) rfl ?_ ?_ ?_); rfl; rfl) | (refine l_move ?_; (refine SXl.v (OpW.move rfl) rfl ?_ ?_ ?_); rfl; rfl) | (refine l_assign ?_; (refine SXl.v (OpW.assign rfl) rfl ?_ ?_ ?_); rfl; rfl) | (refine l_nilCheck ?_; (refine SXl.v (OpW.nilCheck rfl) rfl ?_ ?_ ?_); rfl; rfl) | (refine l_build ?_; (refine SXl.v (OpW.build rfl rfl) rfl ?_ ?_ ?_); rfl; rfl) | (refine l_neq ?_; (refine SXl.v (OpW.neqNil rfl rfl) rfl ?_ ?_ ?_); rfl; rfl) | (refine l_alloc ?_; refine SXl.alloc ?_ ?_ (fun g => ?_); rfl; rfl) | (refine l_box ?_; refine SXl.box ?_ ?_ rfl rfl (fun g => ?_); rfl; rfl) | (refine l_store ?_; first | (refine SXl.storeAll 0 ?_ rfl rfl rfl rfl rfl rfl rfl ?_; rfl; simp only [List.set_cons_zero, List.set_cons_succ]) | (refine SXl.storeAll 1 ?_ rfl rfl rfl rfl rfl rfl rfl ?_; rfl; simp only [List.set_cons_zero, List.set_cons_succ]) | (refine SXl.storeAll 2 ?_ rfl rfl rfl rfl rfl rfl rfl ?_; rfl; simp only [List.set_cons_zero, List.set_cons_succ]) | (refine SXl.storeRow 0 ?_ rfl rfl rfl rfl rfl rfl rfl ?_; rfl; simp only [over, List.set_cons_zero, List.set_cons_succ]) | (refine SXl.storeRow 1 ?_ rfl rfl rfl rfl rfl rfl rfl ?_; rfl; simp only [over, List.set_cons_zero, List.set_cons_succ]) | (refine SXl.storeRow 2 ?_ rfl rfl rfl rfl rfl rfl rfl ?_; rfl; simp only [over, List.set_cons_zero, List.set_cons_succ])) | (rw [hb]) | refine SX.ret ?_ | refine SQ.thenRet ?_)
      refine SQ.bodyCell2 0 rfl rfl rfl rfl rfl (fun w' hl => ⟨rfl, hl.mod⟩)
  by_cases k2 : k = [104, 105, 100, 100, 101, 110]
  · subst k2
    have e3 : keyOf s [104, 105, 100, 100, 101, 110] = (⟨1, bitOf s.hidden⟩, true) := by kernel_rfl
    have e4 : ∀ b, flagAt b [104, 105, 100, 100, 101, 110] = some ⟨b, 7, none⟩ := fun b => rfl
    simp only [e4] at hflag
    rw [e3]
    cases hb : s.hidden
    · repeat (first | refine SX.seq ?_ | refine SXl.nil ?_ | refine SX.region ?_ | refine SQ.thenNormal ?_ | refine SX.skip ?_ | refine SX.condT rfl ?_ | refine SX.condF rfl ?_ | (refine l_call ?_; (refine SXl.v (OpW.call rfl (fun w hl => hflag _ _)) rfl ?_ ?_ ?_); rfl; rfl) | (refine l_load ?_; (refine SXl.v (OpW.load 1 rfl rfl rfl) rfl ?_ ?_ ?_); rfl; rfl) | (refine l_move ?_; (refine SXl.v (OpW.move rfl) rfl ?_ ?_ ?_); rfl; rfl) | (refine l_assign ?_; (refine SXl.v (OpW.assign rfl) rfl ?_ ?_ ?_); rfl; rfl) | (refine l_nilCheck ?_; (refine SXl.v (OpW.nilCheck rfl) rfl ?_ ?_ ?_); rfl; rfl) | (refine l_build ?_; (refine SXl.v (OpW.build rfl rfl) rfl ?_ ?_ ?_); rfl; rfl) | (refine l_neq ?_; (refine SXl.v (OpW.neqNil rfl rfl) rfl ?_ ?_ ?_); rfl; rfl) | (refine l_alloc ?_; refine SXl.alloc ?_ ?_ (fun g => ?_); rfl; rfl) | (refine l_box ?_; refine SXl.box ?_ ?_ rfl rfl (fun g => ?_); rfl; rfl) | (refine l_store ?_; first | (refine SXl.storeAll 0 ?_ rfl rfl rfl rfl rfl rfl rfl ?_; rfl; simp only [List.set_cons_zero, List.set_cons_succ]) | (refine SXl.storeAll 1 ?_ rfl rfl rfl rfl rfl rfl rfl ?_; rfl; simp only [List.set_cons_zero, List.set_cons_succ]) | (refine SXl.storeAll 2 ?_ rfl rfl rfl rfl rfl rfl rfl ?_; rfl; simp only [List.set_cons_zero, List.set_cons_succ]) | (refine SXl.storeRow 0 ?_ rfl rfl rfl rfl rfl rfl rfl ?_; rfl; simp only [over, List.set_cons_zero, List.set_cons_succ]) | (refine SXl.storeRow 1 ?_ rfl rfl rfl rfl rfl rfl rfl ?_; rfl; simp only [over, List.set_cons_zero, List.set_cons_succ]) | (refine SXl.storeRow 2 ?_ rfl rfl rfl rfl rfl rfl rfl ?_; rfl; simp only [over, List.set_cons_zero, List.set_cons_succ])) | (rw [hb]) | refine SX.ret ?_ | refine SQ.thenRet ?_)
      refine SQ.bodyCell2 0 rfl rfl rfl rfl rfl (fun w' hl => ⟨rfl, hl.mod⟩)
    · repeat (first | refine SX.seq ?_ | refine SXl.nil ?_ | refine SX.region ?_ | refine SQ.thenNormal ?_ | refine SX.condT rfl ?_ | (refine l_call ?_; (refine SXl.v (OpW.call rfl (fun w hl => hflag _ _)) rfl ?_ ?_ ?_); rfl; rfl) | (refine l_load ?_; (refine SXl.v (OpW.load 1 rfl rfl rfl) rfl ?_ ?_ ?_); rfl; rfl) | (refine l_move ?_; (refine SXl.v (OpW.move rfl) rfl ?_ ?_ ?_); rfl; rfl) | (refine l_assign ?_; (refine SXl.v (OpW.assign rfl) rfl ?_ ?_ ?_); rfl; rfl) | (refine l_nilCheck ?_; (refine SXl.v (OpW.nilCheck rfl) rfl ?_ ?_ ?_); rfl; rfl) | (refine l_build ?_; (refine SXl.v (OpW.build rfl rfl) rfl ?_ ?_ ?_); rfl; rfl) | (refine l_neq ?_; (refine SXl.v (OpW.neqNil rfl rfl) rfl ?_ ?_ ?_); rfl; rfl) | (refine l_alloc ?_; refine SXl.alloc ?_ ?_ (fun g => ?_); rfl; rfl) | (refine l_box ?_; refine SXl.box ?_ ?_ rfl rfl (fun g => ?_); rfl; rfl) | (refine l_store ?_; first | (refine SXl.storeAll 0 ?_ rfl rfl rfl rfl rfl rfl rfl ?_; rfl; simp only [List.set_cons_zero, List.set_cons_succ]) | (refine SXl.storeAll 1 ?_ rfl rfl rfl rfl rfl rfl rfl ?_; rfl; simp only [List.set_cons_zero, List.set_cons_succ]) | (refine SXl.storeAll 2 ?_ rfl rfl rfl rfl rfl rfl rfl ?_; rfl; simp only [List.set_cons_zero, List.set_cons_succ]) | (refine SXl.storeRow 0 ?_ rfl rfl rfl rfl rfl rfl rfl ?_; rfl; simp only [over, List.set_cons_zero, List.set_cons_succ]) | (refine SXl.storeRow 1 ?_ rfl rfl rfl rfl rfl rfl rfl ?_; rfl; simp only [over, List.set_cons_zero, List.set_cons_succ]) | (refine SXl.storeRow 2 ?_ rfl rfl rfl rfl rfl rfl rfl ?_; rfl; simp only [over, List.set_cons_zero, List.set_cons_succ])) | (rw [hb]) | refine SX.ret ?_ | refine SQ.thenRet ?_)
      refine SQ.bodyCell2 0 rfl rfl rfl rfl rfl (fun w' hl => ⟨rfl, hl.mod⟩)
  have e4 : ∀ b, flagAt b k = none := fun b => by unfold flagAt; rw [if_neg k1, if_neg k2]
  simp only [e4] at hflag
  have hka := keyAt_int k
  have hkb := keyAt_val k
  cases hi : idxOf intTexts k with
  | some i =>
    have hlt : i < 22 := idxOf_lt hi
    have hat := idxOf_at hi
    have h6 : i ≠ 6 := fun e => by subst e; exact k1 (Option.some.inj hat).symm
    have h7 : i ≠ 7 := fun e => by subst e; exact k2 (Option.some.inj hat).symm
    have e3 : keyOf s k = (⟨1, (styleInts s).getD i 0⟩, true) := by unfold keyOf; rw [hi]
    have hv := int_at s hlt h6 h7
    have hp : ∀ b, (intPtrs b)[0 + i]? = some (.pointer (some ⟨b, ioffs.getD i 0, none⟩)) := fun b => by rw [Nat.zero_add]; exact intPtrs_at b hlt h6 h7
    rw [keyI_some hi] at hka
    rw [e3]
    repeat (first | refine SX.seq ?_ | refine SXl.nil ?_ | refine SX.region ?_ | refine SQ.thenNormal ?_ | refine SX.skip ?_ | refine SX.condT rfl ?_ | refine SX.condF rfl ?_ | (refine l_call ?_; (first | refine SXl.v (OpW.call rfl (fun w hl => hflag _ _)) rfl ?_ ?_ ?_ | refine SXl.v (OpW.call rfl (fun w hl => hka qi w (hl.res (intRes qi) List.mem_cons_self).1)) rfl ?_ ?_ ?_); rfl; rfl) | (refine l_load ?_; (first | refine SXl.v (OpW.load 0 rfl rfl (hp _)) rfl ?_ ?_ ?_ | refine SXl.v (OpW.load 2 rfl rfl hv) rfl ?_ ?_ ?_); rfl; rfl) | (refine l_move ?_; (refine SXl.v (OpW.move rfl) rfl ?_ ?_ ?_); rfl; rfl) | (refine l_assign ?_; (refine SXl.v (OpW.assign rfl) rfl ?_ ?_ ?_); rfl; rfl) | (refine l_nilCheck ?_; (refine SXl.v (OpW.nilCheck rfl) rfl ?_ ?_ ?_); rfl; rfl) | (refine l_build ?_; (refine SXl.v (OpW.build rfl rfl) rfl ?_ ?_ ?_); rfl; rfl) | (refine l_geq ?_; (refine SXl.v (OpW.geqT rfl rfl (by omega)) rfl ?_ ?_ ?_); rfl; rfl) | (refine l_neq ?_; (refine SXl.v (OpW.neqNil rfl rfl) rfl ?_ ?_ ?_); rfl; rfl) | (refine l_indexAddr ?_; (refine SXl.v (OpW.indexAddr1 (by omega) rfl rfl) rfl ?_ ?_ ?_); rfl; rfl) | (refine l_alloc ?_; refine SXl.alloc ?_ ?_ (fun g => ?_); rfl; rfl) | (refine l_box ?_; refine SXl.box ?_ ?_ rfl rfl (fun g => ?_); rfl; rfl) | (refine l_store ?_; first | (refine SXl.storeAll 0 ?_ rfl rfl rfl rfl rfl rfl rfl ?_; rfl; simp only [List.set_cons_zero, List.set_cons_succ]) | (refine SXl.storeAll 1 ?_ rfl rfl rfl rfl rfl rfl rfl ?_; rfl; simp only [List.set_cons_zero, List.set_cons_succ]) | (refine SXl.storeAll 2 ?_ rfl rfl rfl rfl rfl rfl rfl ?_; rfl; simp only [List.set_cons_zero, List.set_cons_succ]) | (refine SXl.storeRow 0 ?_ rfl rfl rfl rfl rfl rfl rfl ?_; rfl; simp only [over, List.set_cons_zero, List.set_cons_succ]) | (refine SXl.storeRow 1 ?_ rfl rfl rfl rfl rfl rfl rfl ?_; rfl; simp only [over, List.set_cons_zero, List.set_cons_succ]) | (refine SXl.storeRow 2 ?_ rfl rfl rfl rfl rfl rfl rfl ?_; rfl; simp only [over, List.set_cons_zero, List.set_cons_succ])) | ((refine l_call ?_; refine SXl.calln1 ?_ ?_ rfl (fun w hl => intKeys_new _ (hz.keep hl.mod)) (fun qi => ?_); rfl; rfl)) | ((refine l_call ?_; refine SXl.callB ?_ ?_ rfl (fun w hl => ints_any _ _) (fun _ g => ?_); rfl; rfl)) | refine SX.ret ?_ | refine SQ.thenRet ?_)
    refine SQ.bodyCell2 1 rfl rfl rfl rfl rfl (fun w' hl => ⟨rfl, hl.mod⟩)
  | none =>
    rw [keyI_none hi] at hka
    cases hv : idxOf valueTexts k with
    | none =>
      have e3 : keyOf s k = (⟨0, 0⟩, false) := by unfold keyOf; rw [hi]; simp only; rw [hv]
      rw [keyI_none hv] at hkb
      rw [e3]
      repeat (first | refine SX.seq ?_ | refine SXl.nil ?_ | refine SX.region ?_ | refine SQ.thenNormal ?_ | refine SX.skip ?_ | refine SX.condF rfl ?_ | (refine l_call ?_; (first | refine SXl.v (OpW.call rfl (fun w hl => hflag _ _)) rfl ?_ ?_ ?_ | refine SXl.v (OpW.call rfl (fun w hl => hka qi w (hl.res (intRes qi) List.mem_cons_self).1)) rfl ?_ ?_ ?_); rfl; rfl) | (refine l_move ?_; (refine SXl.v (OpW.move rfl) rfl ?_ ?_ ?_); rfl; rfl) | (refine l_assign ?_; (refine SXl.v (OpW.assign rfl) rfl ?_ ?_ ?_); rfl; rfl) | (refine l_geq ?_; (refine SXl.v (OpW.geqF rfl rfl (by omega)) rfl ?_ ?_ ?_); rfl; rfl) | (refine l_neq ?_; (refine SXl.v (OpW.neqNil rfl rfl) rfl ?_ ?_ ?_); rfl; rfl) | (refine l_alloc ?_; refine SXl.alloc ?_ ?_ (fun g => ?_); rfl; rfl) | (refine l_box ?_; refine SXl.box ?_ ?_ rfl rfl (fun g => ?_); rfl; rfl) | ((refine l_call ?_; refine SXl.calln1 ?_ ?_ rfl (fun w hl => intKeys_new _ (hz.keep hl.mod)) (fun qi => ?_); rfl; rfl)))
      trace_state
      refine l_call ?_; refine SXl.calln1 ?_ ?_ rfl (fun w hl => valueKeys_new _ (hz.keep hl.mod)) (fun qv => ?_); rfl; rfl
      repeat (first | refine SX.seq ?_ | refine SXl.nil ?_ | refine SX.region ?_ | refine SQ.thenNormal ?_ | refine SX.skip ?_ | refine SX.condF rfl ?_ | (refine l_call ?_; (refine SXl.v (OpW.call rfl (fun w hl => hkb qv w (hl.res (valRes qv) List.mem_cons_self).1)) rfl ?_ ?_ ?_); rfl; rfl) | (refine l_move ?_; (refine SXl.v (OpW.move rfl) rfl ?_ ?_ ?_); rfl; rfl) | (refine l_assign ?_; (refine SXl.v (OpW.assign rfl) rfl ?_ ?_ ?_); rfl; rfl) | (refine l_build ?_; (refine SXl.v (OpW.build rfl rfl) rfl ?_ ?_ ?_); rfl; rfl) | (refine l_geq ?_; (refine SXl.v (OpW.geqF rfl rfl (by omega)) rfl ?_ ?_ ?_); rfl; rfl) | (refine l_store ?_; first | (refine SXl.storeAll 0 ?_ rfl rfl rfl rfl rfl rfl rfl ?_; rfl; simp only [List.set_cons_zero, List.set_cons_succ]) | (refine SXl.storeAll 1 ?_ rfl rfl rfl rfl rfl rfl rfl ?_; rfl; simp only [List.set_cons_zero, List.set_cons_succ]) | (refine SXl.storeAll 2 ?_ rfl rfl rfl rfl rfl rfl rfl ?_; rfl; simp only [List.set_cons_zero, List.set_cons_succ]) | (refine SXl.storeRow 0 ?_ rfl rfl rfl rfl rfl rfl rfl ?_; rfl; simp only [over, List.set_cons_zero, List.set_cons_succ]) | (refine SXl.storeRow 1 ?_ rfl rfl rfl rfl rfl rfl rfl ?_; rfl; simp only [over, List.set_cons_zero, List.set_cons_succ]) | (refine SXl.storeRow 2 ?_ rfl rfl rfl rfl rfl rfl rfl ?_; rfl; simp only [over, List.set_cons_zero, List.set_cons_succ])) | refine SX.ret ?_)
      refine SQ.bodyCell2 0 rfl rfl rfl rfl rfl (fun w' hl => ⟨rfl, hl.mod⟩)
    | some i =>
      have hlt : i < 19 := idxOf_lt hv
      obtain ⟨hr, hle⟩ := val_at s hlt
      have e3 : keyOf s k = ((styleVals s).getD i ⟨0, 0⟩, true) := by unfold keyOf; rw [hi]; simp only; rw [hv]
      have hp : ∀ b, (valPtrs b)[0 + i]? = some (.pointer (some ⟨b, voffs.getD i 0, none⟩)) := fun b => by rw [Nat.zero_add]; exact valPtrs_at b hlt
      rw [keyI_some hv] at hkb
      rw [e3]
      repeat (first | refine SX.seq ?_ | refine SXl.nil ?_ | refine SX.region ?_ | refine SQ.thenNormal ?_ | refine SX.skip ?_ | refine SX.condF rfl ?_ | (refine l_call ?_; (first | refine SXl.v (OpW.call rfl (fun w hl => hflag _ _)) rfl ?_ ?_ ?_ | refine SXl.v (OpW.call rfl (fun w hl => hka qi w (hl.res (intRes qi) List.mem_cons_self).1)) rfl ?_ ?_ ?_); rfl; rfl) | (refine l_move ?_; (refine SXl.v (OpW.move rfl) rfl ?_ ?_ ?_); rfl; rfl) | (refine l_assign ?_; (refine SXl.v (OpW.assign rfl) rfl ?_ ?_ ?_); rfl; rfl) | (refine l_geq ?_; (refine SXl.v (OpW.geqF rfl rfl (by omega)) rfl ?_ ?_ ?_); rfl; rfl) | (refine l_neq ?_; (refine SXl.v (OpW.neqNil rfl rfl) rfl ?_ ?_ ?_); rfl; rfl) | (refine l_alloc ?_; refine SXl.alloc ?_ ?_ (fun g => ?_); rfl; rfl) | (refine l_box ?_; refine SXl.box ?_ ?_ rfl rfl (fun g => ?_); rfl; rfl) | ((refine l_call ?_; refine SXl.calln1 ?_ ?_ rfl (fun w hl => intKeys_new _ (hz.keep hl.mod)) (fun qi => ?_); rfl; rfl)))
      refine l_call ?_; refine SXl.calln1 ?_ ?_ rfl (fun w hl => valueKeys_new _ (hz.keep hl.mod)) (fun qv => ?_); rfl; rfl
      repeat (first | refine SX.seq ?_ | refine SXl.nil ?_ | refine SX.region ?_ | refine SQ.thenNormal ?_ | refine SX.condT rfl ?_ | (refine l_call ?_; (refine SXl.v (OpW.call rfl (fun w hl => hkb qv w (hl.res (valRes qv) List.mem_cons_self).1)) rfl ?_ ?_ ?_); rfl; rfl) | (refine l_load ?_; (first | refine SXl.v (OpW.load 0 rfl rfl (hp _)) rfl ?_ ?_ ?_ | refine SXl.v (OpW.loadRow (cells := s.cells) 2 rfl rfl (Nat.ble_eq_true_of_le hle) hr) rfl ?_ ?_ ?_); rfl; rfl) | (refine l_move ?_; (refine SXl.v (OpW.move rfl) rfl ?_ ?_ ?_); rfl; rfl) | (refine l_assign ?_; (refine SXl.v (OpW.assign rfl) rfl ?_ ?_ ?_); rfl; rfl) | (refine l_nilCheck ?_; (refine SXl.v (OpW.nilCheck rfl) rfl ?_ ?_ ?_); rfl; rfl) | (refine l_geq ?_; (refine SXl.v (OpW.geqT rfl rfl (by omega)) rfl ?_ ?_ ?_); rfl; rfl) | (refine l_indexAddr ?_; (refine SXl.v (OpW.indexAddr1 (by omega) rfl rfl) rfl ?_ ?_ ?_); rfl; rfl) | (refine l_store ?_; first | (refine SXl.storeAll 0 ?_ rfl rfl rfl rfl rfl rfl rfl ?_; rfl; simp only [List.set_cons_zero, List.set_cons_succ]) | (refine SXl.storeAll 1 ?_ rfl rfl rfl rfl rfl rfl rfl ?_; rfl; simp only [List.set_cons_zero, List.set_cons_succ]) | (refine SXl.storeAll 2 ?_ rfl rfl rfl rfl rfl rfl rfl ?_; rfl; simp only [List.set_cons_zero, List.set_cons_succ]) | (refine SXl.storeRow 0 ?_ rfl rfl rfl rfl rfl rfl rfl ?_; rfl; simp only [over, List.set_cons_zero, List.set_cons_succ]) | (refine SXl.storeRow 1 ?_ rfl rfl rfl rfl rfl rfl rfl ?_; rfl; simp only [over, List.set_cons_zero, List.set_cons_succ]) | (refine SXl.storeRow 2 ?_ rfl rfl rfl rfl rfl rfl rfl ?_; rfl; simp only [over, List.set_cons_zero, List.set_cons_succ])) | ((refine l_call ?_; refine SXl.callB ?_ ?_ rfl (fun w hl => values_any _ _) (fun _ g => ?_); rfl; rfl)) | refine SX.ret ?_ | refine SQ.thenRet ?_)
      refine SQ.bodyCell2 1 rfl rfl rfl rfl rfl (fun w' hl => ⟨rfl, hl.mod⟩)

end Go.Proofs.YthffgbhphjkdeaaGreatDoor
namespace Go.Proofs.YthffgbhphjkdeaaGreatDoor
open Go.RowKit

/-- The cells cs read as a datum of type t. -/
def Rd (P : Program) (w : World) (t : TypeId) (cs : List Value) : Prop :=
  ∃ (H : Type) (enc : TypeId × Value → H) (fuel : Nat) (x : DataW H × List MemPlace), DataW.trod enc P w 0 (fun _ => true) true fuel t cs = some x

section
variable {P : Program} {w : World} {t e : TypeId} {cs : List Value}
theorem Rd.int {k : IntKind} (h : Rd P w t cs) (hu : P.underlying t = some (.int k)) : ∃ n, cs = [.int k n] ∧ (Lit.int k n).wf = true := by
  obtain ⟨H, enc, fuel, x, h⟩ := h
  obtain ⟨n, h1, _, h2⟩ := DataW.trod_int hu h
  exact ⟨n, h1, h2⟩
theorem Rd.bool (h : Rd P w t cs) (hu : P.underlying t = some .bool) : ∃ b, cs = [.bool b] := by
  obtain ⟨H, enc, fuel, x, h⟩ := h
  obtain ⟨n, h1, _⟩ := DataW.trod_bool hu h
  exact ⟨n, h1⟩
theorem Rd.string (h : Rd P w t cs) (hu : P.underlying t = some .string) : ∃ s : ByteArray, cs = [.string s] ∧ s.size ≤ maxLen := by
  obtain ⟨H, enc, fuel, x, h⟩ := h
  obtain ⟨n, h1, _, h2⟩ := DataW.trod_string hu h
  exact ⟨n, h1, h2⟩
theorem Rd.struct {fs : Array Field} (h : Rd P w t cs) (hu : P.underlying t = some (.struct fs)) :
    cs.length = P.cellsOf t ∧ ∀ (i : Nat) (f : Field), fs[i]? = some f → Rd P w f.type ((cs.drop f.offset).take (P.cellsOf f.type)) := by
  obtain ⟨H, enc, fuel, x, h⟩ := h
  obtain ⟨xs, n, _, _, hl, hxl, hf⟩ := DataW.trod_struct hu h
  refine ⟨hl, fun i f hi => ?_⟩
  have h1 := hf i f hi
  have hil : i < xs.length := by rw [hxl]; exact (Array.getElem?_eq_some_iff.1 hi).1
  rw [List.getElem?_eq_getElem hil] at h1
  exact ⟨H, enc, n, _, h1⟩
theorem Rd.slice (h : Rd P w t cs) (hu : P.underlying t = some (.slice e)) (hc : 0 < P.cellsOf e) :
    ∃ (a : Option Addr) (len cap : Nat), cs = [.slice a len cap] ∧ len ≤ cap ∧ cap ≤ maxLen ∧
      (len = 0 ∨ ∃ b o, a = some ⟨b, o, none⟩ ∧ b < w.heap.size ∧ ∀ i, i < len → ∃ cs', (cs'.length = P.cellsOf e ∧ ∀ (j : Nat) (v : Value), cs'[j]? = some v → w.cell? ⟨b, o + i * P.cellsOf e + j, none⟩ = some v) ∧ Rd P w e cs') := by
  obtain ⟨H, enc, fuel, x, h⟩ := h
  rcases DataW.trod_slice hu h with ⟨h1, _⟩ | ⟨a, len, cap, elems, rest, n, _, h1, _, _, hl, hm, hlen, hel, _⟩
  · exact ⟨_, _, _, h1, Nat.le_refl _, Nat.zero_le _, .inl rfl⟩
  · refine ⟨some a, len, cap, h1, hl, hm, ?_⟩
    by_cases h0 : len = 0
    · exact .inl h0
    · have rows : ∀ i, i < len → ∃ cs', (cs'.length = P.cellsOf e ∧ ∀ (j : Nat), j < P.cellsOf e → w.cell? ((a.add (i * P.cellsOf e)).add j) = cs'[j]?) ∧ Rd P w e cs' := by
        intro i hi
        have h2 := hel i hi
        rw [List.getElem?_eq_getElem (by omega)] at h2
        obtain ⟨cs', h3, h4⟩ := Option.bind_eq_some_iff.1 h2
        obtain ⟨_, h5, h6⟩ := World.cells?_some h3
        exact ⟨cs', ⟨h5, h6⟩, H, enc, n, _, h4⟩
      obtain ⟨b, o, s⟩ := a
      have hs : s = none := by
        obtain ⟨cs', ⟨h5, h6⟩, _⟩ := rows 0 (by omega)
        have h7 := h6 0 hc
        rw [List.getElem?_eq_getElem (by omega)] at h7
        simpa [Addr.add] using World.cell?_spot h7
      subst hs
      have ea : ∀ p q r : Nat, ((⟨p, q, none⟩ : Addr).add r) = ⟨p, q + r, none⟩ := by intro p q r; unfold Addr.add; split <;> simp_all
      have hb : b < w.heap.size := by
        obtain ⟨cs', ⟨h5, h6⟩, _⟩ := rows 0 (by omega)
        have h7 := h6 0 hc
        rw [List.getElem?_eq_getElem (by omega), ea, ea] at h7
        exact World.block_lt_of_cell? w ⟨b, _, none⟩ h7
      refine .inr ⟨b, o, rfl, hb, fun i hi => ?_⟩
      obtain ⟨cs', ⟨h5, h6⟩, h7⟩ := rows i hi
      refine ⟨cs', ⟨h5, fun j v hj => ?_⟩, h7⟩
      have h8 := h6 j (by have := (List.getElem?_eq_some_iff.1 hj).1; omega)
      rw [ea, ea] at h8
      rw [h8, hj]
end

theorem rd_list {α : Type} {rep : List Value → α → Prop} {Q : Nat → List Value → Prop} (n : Nat) (h : ∀ i, i < n → ∃ cs, Q i cs ∧ ∃ x, rep cs x) :
    ∃ (rows : List (List Value)) (l : List α), rows.length = n ∧ l.length = n ∧ (∀ (i : Nat) (r : List Value), rows[i]? = some r → Q i r) ∧ ∀ (i : Nat) (r : List Value) (x : α), rows[i]? = some r → l[i]? = some x → rep r x := by
  induction n with
  | zero => exact ⟨[], [], rfl, rfl, fun i r h => by simp at h, fun i r x h => by simp at h⟩
  | succ n ih =>
    obtain ⟨rows, l, h1, h2, h3, h4⟩ := ih fun i hi => h i (by omega)
    obtain ⟨cs, hQ, x, hr⟩ := h n (by omega)
    refine ⟨rows ++ [cs], l ++ [x], by simp [h1], by simp [h2], fun i r hi => ?_, fun i r y hi hl => ?_⟩
    · by_cases e : i < rows.length
      · rw [List.getElem?_append_left e] at hi
        exact h3 i r hi
      · rw [List.getElem?_append_right (by omega)] at hi
        have : i = n := by
          have := (List.getElem?_eq_some_iff.1 hi).1
          simp at this
          omega
        subst this
        rw [h1, Nat.sub_self] at hi
        simp at hi
        subst hi
        exact hQ
    · by_cases e : i < rows.length
      · rw [List.getElem?_append_left e] at hi
        rw [List.getElem?_append_left (by omega)] at hl
        exact h4 i r y hi hl
      · rw [List.getElem?_append_right (by omega)] at hi
        rw [List.getElem?_append_right (by omega)] at hl
        have : i = n := by
          have := (List.getElem?_eq_some_iff.1 hi).1
          simp at this
          omega
        subst this
        rw [h1, Nat.sub_self] at hi
        rw [h2, Nat.sub_self] at hl
        simp at hi hl
        subst hi; subst hl
        exact hr

/-- A slice argument reads as a list. -/
theorem Rd.list {P : Program} {w : World} {t e : TypeId} {cs : List Value} {α : Type} {rep : World → List Value → α → Prop} {sz : Nat} (h : Rd P w t cs) (hu : P.underlying t = some (.slice e)) (hsz : P.cellsOf e = sz) (hp : 0 < sz)
    (hr : ∀ cs', Rd P w e cs' → ∃ x, rep w cs' x) :
    ∃ (a : Option Addr) (l : List α) (cap : Nat), cs = [.slice a l.length cap] ∧ l.length ≤ cap ∧ cap ≤ maxLen ∧ SliceAt rep sz (fun k => k < w.heap.size) w a l := by
  obtain ⟨a, len, cap, hcs, hl, hm, hrest⟩ := h.slice hu (by omega)
  rw [hsz] at hrest
  rcases hrest with h0 | ⟨b, o, rfl, hb, hrows⟩
  · subst h0
    exact ⟨a, [], cap, hcs, hl, hm, SliceAt.nil⟩
  · obtain ⟨rows, l, h1, h2, h3, h4⟩ := rd_list (rep := rep w) (Q := fun i cs' => cs'.length = sz ∧ ∀ (j : Nat) (v : Value), cs'[j]? = some v → w.cell? ⟨b, o + i * sz + j, none⟩ = some v) len
      fun i hi => by
        obtain ⟨cs', hQ, hrd⟩ := hrows i hi
        exact ⟨cs', hQ, hr cs' hrd⟩
    subst h2
    exact ⟨_, l, cap, hcs, hl, hm, rows, .inr ⟨b, o, rfl, hb, hb, h3⟩, h1, h4⟩

/-- A reading with a property of each element: the reading, and the property of all. -/
theorem SliceAt.split {α : Type} {cells : α → List Value} {p : α → Prop} {sz : Nat} {R : Nat → Prop} {w : World} {a : Option Addr} {l : List α} (h : SliceAt (fun _ r x => r = cells x ∧ p x) sz R w a l) :
    SliceAt (Flat cells) sz R w a l ∧ ∀ x ∈ l, p x := by
  obtain ⟨rows, h1, h2, h3⟩ := h
  refine ⟨⟨rows, h1, h2, fun i r x hr hx => (h3 i r x hr hx).1⟩, fun x hx => ?_⟩
  obtain ⟨i, hi, rfl⟩ := List.mem_iff_getElem.1 hx
  have hr : rows[i]? = some (rows[i]'(by omega)) := List.getElem?_eq_getElem (by omega)
  exact (h3 i _ _ hr (List.getElem?_eq_getElem hi)).2

end Go.Proofs.YthffgbhphjkdeaaGreatDoor
namespace Go.Proofs.YthffgbhphjkdeaaGreatDoor
open Go.RowKit

end Go.Proofs.YthffgbhphjkdeaaGreatDoor
namespace Go.Proofs.YthffgbhphjkdeaaGreatDoor
open Go.RowKit

theorem bit_i64 (b : Bool) : I64 (bitOf b) := by cases b <;> (constructor <;> decide)
def Style.i64 (s : Style) : Prop := (∀ n ∈ styleInts s, I64 n) ∧ ∀ v ∈ styleVals s, I64 v.n
theorem keyOf_i64 {s : Style} (h : s.i64) (k : List UInt8) : I64 (keyOf s k).1.n := by
  have h0 : I64 0 := by constructor <;> decide
  unfold keyOf
  split
  · rename_i i hi
    show I64 ((styleInts s).getD i 0)
    rw [List.getD_eq_getElem?_getD]
    cases hx : (styleInts s)[i]? with
    | none => exact h0
    | some y => exact h.1 y (List.mem_of_getElem? hx)
  · split
    · rename_i i hi
      show I64 ((styleVals s).getD i ⟨0, 0⟩).n
      rw [List.getD_eq_getElem?_getD]
      cases hx : (styleVals s)[i]? with
      | none => exact h0
      | some y => exact h.2 y (List.mem_of_getElem? hx)
    · exact h0

end Go.Proofs.YthffgbhphjkdeaaGreatDoor
namespace Go.Proofs.YthffgbhphjkdeaaGreatDoor
open Go.RowKit
set_option linter.unusedVariables false
set_option linter.unusedSimpArgs false

theorem key_at {i : Nat} (h : i < 41) : ∃ k, keyTexts[i]? = some k ∧ k.length ≤ 20 := by
  have hl : i < keyTexts.length := h
  have hall : ∀ k ∈ keyTexts, k.length ≤ 20 := by decide
  exact ⟨_, List.getElem?_eq_getElem hl, hall _ (List.getElem_mem hl)⟩
/-- The keys' texts in block g. -/
structure KeysKept (g : Nat) (w : World) : Prop where
  h : ∀ j x, keyTexts[j]? = some x → w.cell? ⟨g, j, none⟩ = some (.string ⟨x.toArray⟩)
def keysRes (p : Nat × Nat) : Res where
  foot := fun k => k = p.1
  says := KeysKept p.1
  stable := fun S w w' h hm hs => ⟨fun j x hj => by
    have := h.h j x hj
    rw [hm.cell (World.block_lt_of_cell? w _ this) (hs p.1 rfl)]
    exact this⟩
theorem keys_of {w w' : World} {e : Ending} (h : NewTexts w keyTexts e w') : NewR (Nat × Nat) (fun p => .slice (some ⟨p.1, 0, none⟩) 41 p.2) keysRes w e w' := by
  obtain ⟨a, c, he, ho, hm⟩ := h
  rcases own_parts ho with h0 | ⟨b, rfl, h1, h2, h3, _⟩
  · cases h0
  · refine ⟨(b, c), he, ⟨⟨fun j x hj => ?_⟩, fun k hk => by subst hk; exact ⟨h1, h2⟩⟩, hm⟩
    refine h3 j _ ?_
    have hmem : (keyTexts.map tcell)[j]? = some (tcell x) := by rw [List.getElem?_map, hj]; rfl
    have := flatten_at (rows := keyTexts.map tcell) (sz := 1) (by intro r hr; obtain ⟨z, _, rfl⟩ := List.mem_map.1 hr; rfl) hmem (j := 0) rfl
    simpa using this
theorem keyNames_new (w : World) (hz : Num0 w) : Calls Tryz.prog 8 #[] w (NewR (Nat × Nat) (fun p => .slice (some ⟨p.1, 0, none⟩) 41 p.2) keysRes w) := (keyNames_any w hz).mono fun _ _ h => keys_of h
end Go.Proofs.YthffgbhphjkdeaaGreatDoor
namespace Go.Proofs.YthffgbhphjkdeaaGreatDoor
open Go.RowKit
set_option linter.unusedVariables false
set_option linter.unusedSimpArgs false

set_option maxRecDepth 100000 in
set_option maxHeartbeats 4000000 in
theorem l01Pick_d (B gc b cp : Nat) (w : World) (hc : Cur B 75 w gc) (l : List (List UInt8)) (hl0 : 0 < l.length) (hl1 : l.length ≤ 1000) (hcell : ∀ i x, l[i]? = some x → w.cell? ⟨b, 0 + i, none⟩ = some (.string ⟨x.toArray⟩)) (hne : b ≠ gc) :
    Calls Tryz.prog 35 #[.pointer (some ⟨gc, 0, none⟩), .slice (some ⟨b, 0, none⟩) l.length cp] w (DrewV 75 B gc w (fun x : List UInt8 => .string ⟨x.toArray⟩) (fun x => x ∈ l)) := by
  refine calls_draw (as_ := [.pointer (some ⟨gc, 0, none⟩), .slice (some ⟨b, 0, none⟩) l.length cp]) hc Tryz.func35 rfl rfl (fun a h1 h2 h3 => ((Fr.nil h1 h2).arg (h3 1 _ rfl)).arg (h3 0 _ rfl)) ?_
  repeat (first | refine SX.seq ?_ | refine SXl.nil ?_ | refine SX.region ?_ | refine SQ.thenNormal ?_ | (refine l_move ?_; (refine SXl.v (OpW.move rfl) rfl ?_ ?_ ?_); rfl; rfl) | (refine l_assign ?_; (refine SXl.v (OpW.assign rfl) rfl ?_ ?_ ?_); rfl; rfl) | (refine l_len ?_; (refine SXl.v (OpW.len rfl) rfl ?_ ?_ ?_); rfl; rfl))
  refine l_call ?_
  refine SXl.draw (ξ := Int) (v := fun x : Int => .int .i64 x) rfl rfl rfl (fun x => 0 ≤ x ∧ x < l.length) (fun w hl => below_d B gc w hl.inv l.length (by omega) (by omega)) (fun x hx => ?_)
  obtain ⟨i, rfl⟩ : ∃ i : Nat, x = (i : Int) := ⟨x.toNat, by omega⟩
  obtain ⟨y, hy⟩ : ∃ y, l[i]? = some y := ⟨_, List.getElem?_eq_getElem (by omega)⟩
  have hcy := hcell i y hy
  repeat (first | refine SXl.nil ?_ | refine SQ.thenNormal ?_ | (refine l_load ?_; (refine SXl.v (OpW.loadOld rfl hcy hne) rfl ?_ ?_ ?_); rfl; rfl) | (refine l_assign ?_; (refine SXl.v (OpW.assign rfl) rfl ?_ ?_ ?_); rfl; rfl) | (refine l_indexAddr ?_; (refine SXl.v (OpW.indexAddr1 (by omega) rfl rfl) rfl ?_ ?_ ?_); rfl; rfl) | refine SX.ret ?_)
  refine SQ.body1 rfl rfl (fun w' hl => ⟨y, rfl, List.mem_of_getElem? hy, hl.mod, hl.inv⟩)
/-- A new cursor over bytes that came in. -/
theorem l01New_loc {W : World} {L : List Blk} {O : List Own} {E : List Res} {w : World} {a : Option Addr} {len cap : Nat} (hlen : len ≤ 1048576) (hy : Bytes W.heap.size W a len) (hl : Loc W (Rg.none W) L O E w) : Calls Tryz.prog 16 #[.slice a len cap] w (NewCur W.heap.size 75 w) :=
  l01New_any W.heap.size w a len cap hl.mod.size hlen (hy.same fun k hk => hl.mod.block k hk (fun f => f))
section
variable (a : Option Addr) (len cap : Nat) (w : World) (hlen : len ≤ 1048576) (hy : Bytes w.heap.size w a len)
include hlen hy
set_option maxRecDepth 100000 in
set_option maxHeartbeats 4000000 in
theorem drawStyleLines_d : Calls Tryz.prog 5 #[.slice a len cap] w fun e w' => ∃ s : Style, e = .returned (.agg s.cells.toArray) ∧ AllOk s.cells ∧ Mod (fun _ => False) w w' := by
  refine calls_sx Tryz.func5 rfl rfl (fun a h1 h2 h3 => ((Fr.nil h1 h2).arg (h3 0 _ rfl))) ?_
  repeat (first | refine SX.seq ?_ | refine SXl.nil ?_ | refine SX.region ?_ | refine SQ.thenNormal ?_ | (refine l_move ?_; (refine SXl.v (OpW.move rfl) rfl ?_ ?_ ?_); rfl; rfl) | (refine l_alloc ?_; refine SXl.alloc ?_ ?_ (fun g => ?_); rfl; rfl))
  refine l_call ?_
  refine SXl.newCur rfl rfl rfl (fun w hl => l01New_loc hlen hy hl) (fun gc => ?_)
  skip
  refine l_call ?_
  refine SXl.drawC (ξ := Style) (v := fun v => .agg v.cells.toArray) 0 rfl rfl rfl rfl (fun v => AllOk v.cells) (fun w hl hc => l06Any_d _ _ w hc) (fun s hs => ?_)
  repeat (first | refine SXl.nil ?_ | refine SQ.thenNormal ?_ | (refine l_store ?_; first | (refine SXl.storeAll 0 ?_ rfl rfl rfl rfl rfl rfl rfl ?_; rfl; simp only [List.set_cons_zero, List.set_cons_succ]) | (refine SXl.storeAll 1 ?_ rfl rfl rfl rfl rfl rfl rfl ?_; rfl; simp only [List.set_cons_zero, List.set_cons_succ]) | (refine SXl.storeAll 2 ?_ rfl rfl rfl rfl rfl rfl rfl ?_; rfl; simp only [List.set_cons_zero, List.set_cons_succ]) | (refine SXl.storeRow 0 ?_ rfl rfl rfl rfl rfl rfl rfl ?_; rfl; simp only [over, List.set_cons_zero, List.set_cons_succ]) | (refine SXl.storeRow 1 ?_ rfl rfl rfl rfl rfl rfl rfl ?_; rfl; simp only [over, List.set_cons_zero, List.set_cons_succ]) | (refine SXl.storeRow 2 ?_ rfl rfl rfl rfl rfl rfl rfl ?_; rfl; simp only [over, List.set_cons_zero, List.set_cons_succ])) | refine SX.ret ?_)
  refine SQ.bodyCell 0 rfl rfl rfl rfl (fun w' hl => ⟨s, rfl, hs, hl.mod⟩)
end
end Go.Proofs.YthffgbhphjkdeaaGreatDoor
namespace Go.Proofs.YthffgbhphjkdeaaGreatDoor
open Go.RowKit
set_option linter.unusedVariables false
set_option linter.unusedSimpArgs false

def readTexts : List (List UInt8) := [[], [110, 111, 110, 101], [97, 117, 116, 111], [37], [45], [45, 48], [48, 49], [53, 37], [45, 53, 37], [49, 48, 48, 49, 37], [49, 48, 52, 56, 53, 55, 55], [45, 49, 48, 52, 56, 53, 55, 54], [53, 32], [63], [45, 45, 53], [45, 37]]
theorem val_i64 {v : Val} (h : AllOk v.cells) : I64 v.n := h (.int .i64 v.n) (by simp [Val.cells]) _ rfl
section
variable (a : Option Addr) (len cap : Nat) (w : World) (hlen : len ≤ 1048576) (hy : Bytes w.heap.size w a len)
include hlen hy
set_option maxRecDepth 100000 in
set_option maxHeartbeats 8000000 in
theorem drawReadValue_d : Calls Tryz.prog 13 #[.slice a len cap] w fun e w' => ∃ t : List UInt8, e = .returned (.string ⟨t.toArray⟩) ∧ t.length ≤ 24 ∧ Mod (fun _ => False) w w' := by
  refine calls_sx Tryz.func13 rfl rfl (fun a h1 h2 h3 => ((Fr.nil h1 h2).arg (h3 0 _ rfl))) ?_
  repeat (first | refine SX.seq ?_ | refine SXl.nil ?_ | refine SX.region ?_ | refine SQ.thenNormal ?_ | (refine l_move ?_; (refine SXl.v (OpW.move rfl) rfl ?_ ?_ ?_); rfl; rfl) | (refine l_assign ?_; (refine SXl.v (OpW.assign rfl) rfl ?_ ?_ ?_); rfl; rfl))
  refine l_call ?_
  refine SXl.newCur rfl rfl rfl (fun w hl => l01New_loc hlen hy hl) (fun gc => ?_)
  repeat (first | refine SX.seq ?_ | refine SXl.nil ?_ | refine SX.region ?_ | refine SQ.thenNormal ?_ | (refine l_move ?_; (refine SXl.v (OpW.move rfl) rfl ?_ ?_ ?_); rfl; rfl) | (refine l_assign ?_; (refine SXl.v (OpW.assign rfl) rfl ?_ ?_ ?_); rfl; rfl))
  refine l_call ?_
  refine SXl.drawC (ξ := Bool) (v := fun b => .bool b) 0 rfl rfl rfl rfl (fun _ => True) (fun w hl hc => once_d _ _ w hc 3 (by decide)) (fun b1 _ => ?_)
  cases b1
  · repeat (first | refine SX.seq ?_ | refine SXl.nil ?_ | refine SX.region ?_ | refine SQ.thenNormal ?_ | refine SX.skip ?_ | refine SX.condF rfl ?_ | (refine l_move ?_; (refine SXl.v (OpW.move rfl) rfl ?_ ?_ ?_); rfl; rfl))
    refine l_call ?_
    refine SXl.drawC (ξ := Val) (v := fun v => .agg v.cells.toArray) 0 rfl rfl rfl rfl (fun v => AllOk v.cells) (fun w hl hc => l04Any_d _ _ w hc) (fun v hv => ?_)
    repeat (first | refine SXl.nil ?_ | refine SQ.thenNormal ?_ | (refine l_call ?_; (refine SXl.v (OpW.call rfl (fun w hl => svalueText_any v (val_i64 hv) _)) rfl ?_ ?_ ?_); rfl; rfl) | (refine l_assign ?_; (refine SXl.v (OpW.assign rfl) rfl ?_ ?_ ?_); rfl; rfl) | refine SX.ret ?_)
    refine SQ.body1 rfl rfl (fun w' hl => ⟨valText v, rfl, valText_short v (val_i64 hv), hl.mod⟩)
  · repeat (first | refine SX.seq ?_ | refine SXl.nil ?_ | refine SX.region ?_ | refine SQ.thenNormal ?_ | refine SX.condT rfl ?_ | (refine l_move ?_; (refine SXl.v (OpW.move rfl) rfl ?_ ?_ ?_); rfl; rfl))
    refine l_buildSlice ?_
    refine SXl.lit (cells := readTexts.map fun x => Value.string ⟨x.toArray⟩) (z := .string ⟨#[]⟩) ?_ ?_ rfl (by decide) (by kernel_rfl) rfl (fun gl => ?_)
    rfl; rfl
    skip
    refine l_call ?_
    refine SXl.drawC (ξ := List UInt8) (v := fun x => .string ⟨x.toArray⟩) 0 rfl rfl rfl rfl (fun x => x ∈ readTexts) (fun w hl hc => l01Pick_d _ gc gl _ w hc readTexts (by decide) (by decide) (fun i x hi => by rw [Nat.zero_add]; exact blk_cell (hl.blk _ (.head _)).2 (by rw [List.getElem?_map, hi]; rfl)) (fun e => (hl.res _ (.head _)).2.2.1 _ (.head _) e)) (fun x hx => ?_)
    have hall : ∀ k ∈ readTexts, k.length ≤ 24 := by decide
    repeat (first | refine SXl.nil ?_ | refine SQ.thenNormal ?_ | (refine l_assign ?_; (refine SXl.v (OpW.assign rfl) rfl ?_ ?_ ?_); rfl; rfl) | refine SX.ret ?_ | refine SQ.thenRet ?_)
    refine SQ.body1 rfl rfl (fun w' hl => ⟨x, rfl, hall x hx, hl.mod⟩)
end
end Go.Proofs.YthffgbhphjkdeaaGreatDoor
namespace Go.Proofs.YthffgbhphjkdeaaGreatDoor
open Go.RowKit
set_option linter.unusedVariables false
set_option linter.unusedSimpArgs false

/-- What is read of the block: the old cells or the new. -/
def OE (c c' : List Value) (u : Value) : Prop := u = .agg c.toArray ∨ u = .agg c'.toArray
section
variable {P : Program} {n : Nat} {W : World} {R : Rg W} {L L' : List Blk} {O : List Own} {E : List Res} {U : List (Nat × ((Nat → Value) → World → Value → Prop))} {f : (Nat → Value) → List (Nat × Value)} {f0 : List (Nat × Value)} {Q : Exit → Go.Act → World → Prop} {ops : Array Oper} {rest : List Oper} {k g T : Nat} {c c' : List Value}
structure SXy (P : Program) (n : Nat) (W : World) (R : Rg W) (ops : Array Oper) (L : List Blk) (O : List Own) (E : List Res) (g T : Nat) (c c' : List Value) (k : Nat) (U : List (Nat × ((Nat → Value) → World → Value → Prop))) (f : (Nat → Value) → List (Nat × Value)) (l : List Oper) (Q : Exit → Go.Act → World → Prop) : Prop where
  run : ∀ F : (Nat → Value) → Go.Act, (∀ x, Fr n (f x) (F x)) → RS P ops (TP g T c c') (fun w => Loc W R L O E w ∧ Either g T c c' w) Q k l F U
theorem SX.drawnY {id : Nat} {l : List Oper} (i : Nat) (c' : List Value) (hi : L[i]? = some ⟨g, c, T⟩) (hL : L.eraseIdx i = L') (hm : P.follows .mixedOrders = true) (hc : regOk l.toArray = true) (h : Near W R L' O E g → SXy P n W R l.toArray L' O E g T c c' 0 [] (fun _ => f0) l Q) : SX P n W R L O E f0 (.region id l.toArray true) Q := ⟨fun a w hf hl => by
  subst hL
  exact wp_region_rs (fun w' => Loc W R (L.eraseIdx i) O E w' ∧ Either g T c c' w') (TP g T c c') hm hc ⟨(hl.erase).keep ((Mod.refl _ w).drew), .inl ((hl.keep ((Mod.refl _ w).drew)).blk _ (List.mem_iff_getElem?.2 ⟨i, hi⟩)).2⟩ ((h (hl.near hi)).run _ fun _ => hf)⟩
theorem SXy.v {o : Oper} {v : Value} {d : Nat} (hr : ∀ x, OpW P n W R L O E (f x) o v) (hdst : o.dst = some d) (hw : ∀ x, wantO ops (f x) o = some true) (hd : Nat.blt d n = true) (h : SXy P n W R ops L O E g T c c' (k + 1) U (fun x => (d, v) :: f x) rest Q) : SXy P n W R ops L O E g T c c' k U f (o :: rest) Q := ⟨fun F hF =>
  RS.val [] (fun _ => v) rfl (fun _ _ _ => rfl) (fun x => wanted_of (hF x) (hw x)) (fun x w hS _ => wp_never ((hr x).run _ w (hF x) hS.1) fun _ _ ⟨h1, h2⟩ => ⟨h1, ⟨hS.1.keep h2, hS.2.keep h2⟩, h2.mono fun _ _ f => f.elim⟩) (by rw [hdst]; exact h.run _ fun x => (hF x).put hd v)⟩
variable {d m T' : Nat} {xo yo : Operand} {ty : TypeId} {pos : String} {af : Array Edge} {gd : Option (Nat × Bool)} {v : Value} {fn : FuncId} {ars : List Operand} {aT : Array TypeId}
/-- The block is read whole. -/
theorem SXy.load [t : TRow P T' m] (hw : ∀ x, wantO ops (f x) ⟨some d, .load T' xo, ty, pos, af, gd⟩ = some true) (hd : Nat.blt d n = true) (hx : ∀ x, evO (f x) xo = some (.pointer (some ⟨g, 0, none⟩))) (h1 : c.length = m) (h2 : c'.length = m)
    (h : SXy P n W R ops L O E g T c c' (k + 1) ((k, fun _ _ u => OE c c' u) :: U) (fun x => (d, x k) :: f x) rest Q) : SXy P n W R ops L O E g T c c' k U f (⟨some d, .load T' xo, ty, pos, af, gd⟩ :: rest) Q := ⟨fun F hF =>
  RS.new [] (fun _ u => OE c c' u) id (fun _ _ _ => rfl) rfl (fun _ _ _ h _ => h) (fun x => wanted_of (hF x) (hw x)) (fun x w hS _ => by
    obtain ⟨⟨d', q1, q2⟩, q3⟩ := t.h
    have key : ∀ cs : List Value, cs.length = m → w.heap[g]? = some (.cells cs.toArray T (0, 0)) → (execOp (F x).eval ⟨some d, .load T' xo, ty, pos, af, gd⟩).run P w = .ok (.value (.agg cs.toArray)) w := fun cs hcs hb => by
      have e1 : hasRow w g 0 m = true := by simp [hasRow, hb, hcs]
      have e2 : rowOf w g 0 m = cs.toArray := by
        unfold rowOf; rw [hb]; simp [← hcs]
      have e := run_load_row q1 q2 q3 (w := w) (b := g) (o := 0) e1
      rw [e2] at e
      simp [execOp, (hF x).eval (hx x), e]
    have hS' := hS
    rcases hS.2 with hb | hb
    · unfold Oper.wp
      rw [key c h1 hb, Oper.upon_value]
      exact ⟨_, rfl, .inl rfl, hS', Mod.refl _ _⟩
    · unfold Oper.wp
      rw [key c' h2 hb, Oper.upon_value]
      exact ⟨_, rfl, .inr rfl, hS', Mod.refl _ _⟩) (h.run _ fun x => (hF x).put hd _)⟩
/-- A pure call whose arguments hang on what operation ka gave; what it gives does not. -/
theorem SXy.call {args : (Nat → Value) → List Value} [TFun P fn] (ka : Nat) (hus : ([ka].all fun i => (reach ops ops.size k).contains i) = true) (hw : ∀ x, wantO ops (f x) ⟨some d, .call ⟨.value (.func fn), ars.toArray, aT⟩, ty, pos, af, gd⟩ = some true) (hd : Nat.blt d n = true) (ha : ∀ x, evL (f x) ars = some (args x))
    (hc : ∀ x w, Loc W R L O E w → (∀ u ∈ U, u.1 = ka → u.2 x w (x u.1)) → Calls P fn (args x).toArray w fun e w' => e = .returned v ∧ Mod (fun _ => False) w w')
    (h : SXy P n W R ops L O E g T c c' (k + 1) U (fun x => (d, v) :: f x) rest Q) : SXy P n W R ops L O E g T c c' k U f (⟨some d, .call ⟨.value (.func fn), ars.toArray, aT⟩, ty, pos, af, gd⟩ :: rest) Q := ⟨fun F hF =>
  RS.val [ka] (fun _ => v) hus (fun _ _ _ => rfl) (fun x => wanted_of (hF x) (hw x)) (fun x w hS hK => by
    unfold Oper.wp
    rw [run_callop (hF x) (ha x) w _ _, Oper.upon_enter]
    refine (hc x w hS.1 (fun u hu e => hK u hu (by rw [e]; exact List.mem_cons_self))).mono ?_
    rintro e w' ⟨rfl, h2⟩
    exact ⟨rfl, ⟨hS.1.keep h2, hS.2.keep h2⟩, h2.mono fun _ _ f => f.elim⟩) (h.run _ fun x => (hF x).put hd v)⟩
/-- The write, of the whole block. -/
theorem SXy.storeRow {r : List Value} [t : TRow P T' m] (hf : Near W R L O E g) (hw : ∀ x, wantO ops (f x) ⟨none, .store T' xo yo, ty, pos, af, gd⟩ = some true) (hx : ∀ x, evO (f x) xo = some (.pointer (some ⟨g, 0, none⟩))) (hy : ∀ x, evO (f x) yo = some (.agg r.toArray)) (hlen : c.length = m) (hm : r.length = m) (hv : r.all (·.oneCell') = true) (hc : r = c')
    (h : SXy P n W R ops L O E g T c c' (k + 1) ((k, PV g T c') :: U) f rest Q) : SXy P n W R ops L O E g T c c' k U f (⟨none, .store T' xo yo, ty, pos, af, gd⟩ :: rest) Q := ⟨fun F hF =>
  RS.newx [] (PV g T c') id (fun _ _ _ _ => rfl) rfl ⟨fun _ _ _ _ h hm => h.keep hm, fun _ _ _ _ _ h => h⟩ (fun x => wanted_of (hF x) (hw x)) (fun x w hS _ => by
    subst hc
    obtain ⟨_, h3⟩ := t.h
    have key : ∀ cs : List Value, cs.length = m → w.heap[g]? = some (.cells cs.toArray T (0, 0)) → (execOp (F x).eval ⟨none, .store T' xo yo, ty, pos, af, gd⟩).run P w = .ok .skip (w.setCells g 0 r) ∧ (w.setCells g 0 r).heap[g]? = some (.cells r.toArray T (0, 0)) := fun cs hcs hb => by
      have e := run_store_row (P := P) (ty := T') h3 (w := w) (b := g) (o := 0) (S := r.toArray) (by simp [hasRow, hb, hcs]) (by simp [openRow, hb]) (by simpa using hm) (by simpa using hv)
      refine ⟨by simp [execOp, (hF x).eval (hx x), (hF x).eval (hy x), e], ?_⟩
      rw [setCells_heap g r 0 w _ _ _ hb, spl_over]
      have := over_all r cs [] (by omega)
      simp only [List.nil_append, List.length_nil] at this
      rw [this]
    have hmm := mod_setCells g r 0 w
    have fin : (execOp (F x).eval ⟨none, .store T' xo yo, ty, pos, af, gd⟩).run P w = .ok .skip (w.setCells g 0 r) ∧ (w.setCells g 0 r).heap[g]? = some (.cells r.toArray T (0, 0)) ∧ TP g T c r w (w.setCells g 0 r) := by
      rcases hS.2 with hb | hb
      · obtain ⟨k1, k2⟩ := key c hlen hb
        exact ⟨k1, k2, hmm.mono fun k _ e => by subst e; exact ⟨rfl, hb, k2⟩⟩
      · obtain ⟨k1, k2⟩ := key r hm hb
        exact ⟨k1, k2, hmm.os, hmm.tape, hmm.output, hmm.size, fun k hk hn => by
          by_cases e : k = g
          · subst e; rw [k2, hb]
          · exact hmm.block k hk e⟩
    obtain ⟨k1, k2, k3⟩ := fin
    unfold Oper.wp
    rw [k1, Oper.upon_skip]
    exact ⟨undef, rfl, k2, ⟨Loc.keepP hf hS.1 (fun k hk => hk) hmm, .inr k2⟩, k3⟩) (h.run _ hF)⟩
theorem SXy.nil (ks : Nat) (hf : Near W R L O E g) (hS : (ks, PV g T c') ∈ U) (h : ∀ x, SQ n W R (⟨g, c', T⟩ :: L) O E (f x) .normal Q) : SXy P n W R ops L O E g T c c' k U f [] Q := ⟨fun F hF => RS.done fun x w hSw hU =>
  (h x).run _ w (hF x) (Loc.addP hf hSw.1 (hU _ hS))⟩
end
end Go.Proofs.YthffgbhphjkdeaaGreatDoor
namespace Go.Proofs.YthffgbhphjkdeaaGreatDoor
open Go.RowKit
set_option linter.unusedVariables false
set_option linter.unusedSimpArgs false

def styleOk (x : Style) : Bool := (inB x.dir 1 4 && inB x.wrap 1 3 && inB x.justify 1 6 && inB x.items 1 5 && inB x.self 0 5 && inB x.content 1 6) && (inB x.order (-1000) 1000 && inB x.grow 0 1000 && inB x.shrink 0 1000 && inB x.ratio 0 6400) && (sizeOk x.basis && sizeOk x.width && sizeOk x.height && sizeOk x.minWidth && sizeOk x.minHeight && sizeOk x.maxWidth && sizeOk x.maxHeight) && (sidesOk x.margin && sidesOk x.inset && edgesOk x.pad && edgesOk x.border && inB x.rowGap 0 1048576 && inB x.colGap 0 1048576)
set_option maxRecDepth 100000 in
set_option maxHeartbeats 8000000 in
theorem sstyleOk_any (x : Style) (w : World) : Calls Tryz.prog 6 #[.agg #[.int .i64 x.dir, .int .i64 x.wrap, .int .i64 x.justify, .int .i64 x.items, .int .i64 x.self, .int .i64 x.content, .bool x.apart, .bool x.hidden, .int .i64 x.order, .int .i64 x.grow, .int .i64 x.shrink, .int .i64 x.basis.kind, .int .i64 x.basis.n, .int .i64 x.width.kind, .int .i64 x.width.n, .int .i64 x.height.kind, .int .i64 x.height.n, .int .i64 x.minWidth.kind, .int .i64 x.minWidth.n, .int .i64 x.minHeight.kind, .int .i64 x.minHeight.n, .int .i64 x.maxWidth.kind, .int .i64 x.maxWidth.n, .int .i64 x.maxHeight.kind, .int .i64 x.maxHeight.n, .int .i64 x.ratio, .int .i64 x.margin.left.kind, .int .i64 x.margin.left.n, .int .i64 x.margin.top.kind, .int .i64 x.margin.top.n, .int .i64 x.margin.right.kind, .int .i64 x.margin.right.n, .int .i64 x.margin.bottom.kind, .int .i64 x.margin.bottom.n, .int .i64 x.margin.start.kind, .int .i64 x.margin.start.n, .int .i64 x.margin.stop.kind, .int .i64 x.margin.stop.n, .int .i64 x.inset.left.kind, .int .i64 x.inset.left.n, .int .i64 x.inset.top.kind, .int .i64 x.inset.top.n, .int .i64 x.inset.right.kind, .int .i64 x.inset.right.n, .int .i64 x.inset.bottom.kind, .int .i64 x.inset.bottom.n, .int .i64 x.inset.start.kind, .int .i64 x.inset.start.n, .int .i64 x.inset.stop.kind, .int .i64 x.inset.stop.n, .int .i64 x.pad.left, .int .i64 x.pad.top, .int .i64 x.pad.right, .int .i64 x.pad.bottom, .int .i64 x.border.left, .int .i64 x.border.top, .int .i64 x.border.right, .int .i64 x.border.bottom, .int .i64 x.rowGap, .int .i64 x.colGap]] w fun e w' => e = .returned (.bool (styleOk x)) ∧ Mod (fun _ => False) w w' := by
  refine calls_sx Tryz.func6 rfl rfl (fun a h1 h2 h3 => ((Fr.nil h1 h2).arg (h3 0 _ rfl))) ?_
  cases q0 : inB x.dir 1 4
  · have hv : styleOk x = false := by simp [styleOk, q0]
    repeat (first | refine SX.seq ?_ | refine SXl.nil ?_ | refine SX.region ?_ | refine SQ.thenNormal ?_ | refine SX.condT rfl ?_ | (refine SXl.no rfl rfl rfl ?_) | (refine l_call ?_; (refine SXl.v (OpW.calls rfl (fun w _ => l01In_any _ _ _ _)) rfl ?_ ?_ ?_); rfl; rfl) | (refine l_load ?_; (refine SXl.v (OpW.load 0 rfl rfl rfl) rfl ?_ ?_ ?_); rfl; rfl) | (refine l_fieldAddr ?_; (refine SXl.v (OpW.fieldAddr rfl) rfl ?_ ?_ ?_); rfl; rfl) | (refine l_move ?_; (refine SXl.v (OpW.move rfl) rfl ?_ ?_ ?_); rfl; rfl) | (refine l_assign ?_; (refine SXl.v (OpW.assign rfl) rfl ?_ ?_ ?_); rfl; rfl) | (refine l_not ?_; (refine SXl.v (OpW.not rfl) rfl ?_ ?_ ?_); rfl; rfl) | (refine l_pick ?_; (refine SXl.v (OpW.pick rfl rfl rfl) rfl ?_ ?_ ?_); rfl; rfl) | (refine l_box ?_; refine SXl.box ?_ ?_ rfl rfl (fun g => ?_); rfl; rfl) | (rw [q0]) | refine SX.ret ?_ | refine SQ.thenRet ?_)
    refine SQ.body1 rfl rfl (fun w' hl => ⟨ret_bool hv.symm, hl.mod⟩)
  cases q1 : inB x.wrap 1 3
  · have hv : styleOk x = false := by simp [styleOk, q1]
    repeat (first | refine SX.seq ?_ | refine SXl.nil ?_ | refine SX.region ?_ | refine SQ.thenNormal ?_ | refine SX.condT rfl ?_ | (refine SXl.no rfl rfl rfl ?_) | (refine l_call ?_; (refine SXl.v (OpW.calls rfl (fun w _ => l01In_any _ _ _ _)) rfl ?_ ?_ ?_); rfl; rfl) | (refine l_load ?_; (refine SXl.v (OpW.load 0 rfl rfl rfl) rfl ?_ ?_ ?_); rfl; rfl) | (refine l_fieldAddr ?_; (refine SXl.v (OpW.fieldAddr rfl) rfl ?_ ?_ ?_); rfl; rfl) | (refine l_move ?_; (refine SXl.v (OpW.move rfl) rfl ?_ ?_ ?_); rfl; rfl) | (refine l_assign ?_; (refine SXl.v (OpW.assign rfl) rfl ?_ ?_ ?_); rfl; rfl) | (refine l_not ?_; (refine SXl.v (OpW.not rfl) rfl ?_ ?_ ?_); rfl; rfl) | (refine l_pick ?_; (refine SXl.v (OpW.pick rfl rfl rfl) rfl ?_ ?_ ?_); rfl; rfl) | (refine l_box ?_; refine SXl.box ?_ ?_ rfl rfl (fun g => ?_); rfl; rfl) | ((first | rw [q0] | rw [q1])) | refine SX.ret ?_ | refine SQ.thenRet ?_)
    refine SQ.body1 rfl rfl (fun w' hl => ⟨ret_bool hv.symm, hl.mod⟩)
  cases q2 : inB x.justify 1 6
  · have hv : styleOk x = false := by simp [styleOk, q2]
    repeat (first | refine SX.seq ?_ | refine SXl.nil ?_ | refine SX.region ?_ | refine SQ.thenNormal ?_ | refine SX.condT rfl ?_ | (refine SXl.no rfl rfl rfl ?_) | (refine l_call ?_; (refine SXl.v (OpW.calls rfl (fun w _ => l01In_any _ _ _ _)) rfl ?_ ?_ ?_); rfl; rfl) | (refine l_load ?_; (refine SXl.v (OpW.load 0 rfl rfl rfl) rfl ?_ ?_ ?_); rfl; rfl) | (refine l_fieldAddr ?_; (refine SXl.v (OpW.fieldAddr rfl) rfl ?_ ?_ ?_); rfl; rfl) | (refine l_move ?_; (refine SXl.v (OpW.move rfl) rfl ?_ ?_ ?_); rfl; rfl) | (refine l_assign ?_; (refine SXl.v (OpW.assign rfl) rfl ?_ ?_ ?_); rfl; rfl) | (refine l_not ?_; (refine SXl.v (OpW.not rfl) rfl ?_ ?_ ?_); rfl; rfl) | (refine l_pick ?_; (refine SXl.v (OpW.pick rfl rfl rfl) rfl ?_ ?_ ?_); rfl; rfl) | (refine l_box ?_; refine SXl.box ?_ ?_ rfl rfl (fun g => ?_); rfl; rfl) | ((first | rw [q0] | rw [q1] | rw [q2])) | refine SX.ret ?_ | refine SQ.thenRet ?_)
    refine SQ.body1 rfl rfl (fun w' hl => ⟨ret_bool hv.symm, hl.mod⟩)
  cases q3 : inB x.items 1 5
  · have hv : styleOk x = false := by simp [styleOk, q3]
    repeat (first | refine SX.seq ?_ | refine SXl.nil ?_ | refine SX.region ?_ | refine SQ.thenNormal ?_ | refine SX.condT rfl ?_ | (refine SXl.no rfl rfl rfl ?_) | (refine l_call ?_; (refine SXl.v (OpW.calls rfl (fun w _ => l01In_any _ _ _ _)) rfl ?_ ?_ ?_); rfl; rfl) | (refine l_load ?_; (refine SXl.v (OpW.load 0 rfl rfl rfl) rfl ?_ ?_ ?_); rfl; rfl) | (refine l_fieldAddr ?_; (refine SXl.v (OpW.fieldAddr rfl) rfl ?_ ?_ ?_); rfl; rfl) | (refine l_move ?_; (refine SXl.v (OpW.move rfl) rfl ?_ ?_ ?_); rfl; rfl) | (refine l_assign ?_; (refine SXl.v (OpW.assign rfl) rfl ?_ ?_ ?_); rfl; rfl) | (refine l_not ?_; (refine SXl.v (OpW.not rfl) rfl ?_ ?_ ?_); rfl; rfl) | (refine l_pick ?_; (refine SXl.v (OpW.pick rfl rfl rfl) rfl ?_ ?_ ?_); rfl; rfl) | (refine l_box ?_; refine SXl.box ?_ ?_ rfl rfl (fun g => ?_); rfl; rfl) | ((first | rw [q0] | rw [q1] | rw [q2] | rw [q3])) | refine SX.ret ?_ | refine SQ.thenRet ?_)
    refine SQ.body1 rfl rfl (fun w' hl => ⟨ret_bool hv.symm, hl.mod⟩)
  cases q4 : inB x.self 0 5
  · have hv : styleOk x = false := by simp [styleOk, q4]
    repeat (first | refine SX.seq ?_ | refine SXl.nil ?_ | refine SX.region ?_ | refine SQ.thenNormal ?_ | refine SX.condT rfl ?_ | (refine SXl.no rfl rfl rfl ?_) | (refine l_call ?_; (refine SXl.v (OpW.calls rfl (fun w _ => l01In_any _ _ _ _)) rfl ?_ ?_ ?_); rfl; rfl) | (refine l_load ?_; (refine SXl.v (OpW.load 0 rfl rfl rfl) rfl ?_ ?_ ?_); rfl; rfl) | (refine l_fieldAddr ?_; (refine SXl.v (OpW.fieldAddr rfl) rfl ?_ ?_ ?_); rfl; rfl) | (refine l_move ?_; (refine SXl.v (OpW.move rfl) rfl ?_ ?_ ?_); rfl; rfl) | (refine l_assign ?_; (refine SXl.v (OpW.assign rfl) rfl ?_ ?_ ?_); rfl; rfl) | (refine l_not ?_; (refine SXl.v (OpW.not rfl) rfl ?_ ?_ ?_); rfl; rfl) | (refine l_pick ?_; (refine SXl.v (OpW.pick rfl rfl rfl) rfl ?_ ?_ ?_); rfl; rfl) | (refine l_box ?_; refine SXl.box ?_ ?_ rfl rfl (fun g => ?_); rfl; rfl) | ((first | rw [q0] | rw [q1] | rw [q2] | rw [q3] | rw [q4])) | refine SX.ret ?_ | refine SQ.thenRet ?_)
    refine SQ.body1 rfl rfl (fun w' hl => ⟨ret_bool hv.symm, hl.mod⟩)
  cases q5 : inB x.content 1 6
  · have hv : styleOk x = false := by simp [styleOk, q5]
    repeat (first | refine SX.seq ?_ | refine SXl.nil ?_ | refine SX.region ?_ | refine SQ.thenNormal ?_ | refine SX.condT rfl ?_ | (refine l_call ?_; (refine SXl.v (OpW.calls rfl (fun w _ => l01In_any _ _ _ _)) rfl ?_ ?_ ?_); rfl; rfl) | (refine l_load ?_; (refine SXl.v (OpW.load 0 rfl rfl rfl) rfl ?_ ?_ ?_); rfl; rfl) | (refine l_fieldAddr ?_; (refine SXl.v (OpW.fieldAddr rfl) rfl ?_ ?_ ?_); rfl; rfl) | (refine l_move ?_; (refine SXl.v (OpW.move rfl) rfl ?_ ?_ ?_); rfl; rfl) | (refine l_assign ?_; (refine SXl.v (OpW.assign rfl) rfl ?_ ?_ ?_); rfl; rfl) | (refine l_not ?_; (refine SXl.v (OpW.not rfl) rfl ?_ ?_ ?_); rfl; rfl) | (refine l_pick ?_; (refine SXl.v (OpW.pick rfl rfl rfl) rfl ?_ ?_ ?_); rfl; rfl) | (refine l_box ?_; refine SXl.box ?_ ?_ rfl rfl (fun g => ?_); rfl; rfl) | ((first | rw [q0] | rw [q1] | rw [q2] | rw [q3] | rw [q4] | rw [q5])) | refine SX.ret ?_ | refine SQ.thenRet ?_)
    refine SQ.body1 rfl rfl (fun w' hl => ⟨ret_bool hv.symm, hl.mod⟩)
  cases q6 : inB x.order (-1000) 1000
  · have hv : styleOk x = false := by simp [styleOk, q6]
    repeat (first | refine SX.seq ?_ | refine SXl.nil ?_ | refine SX.region ?_ | refine SQ.thenNormal ?_ | refine SX.skip ?_ | refine SX.condT rfl ?_ | refine SX.condF rfl ?_ | (refine SXl.no rfl rfl rfl ?_) | (refine l_call ?_; (refine SXl.v (OpW.calls rfl (fun w _ => l01In_any _ _ _ _)) rfl ?_ ?_ ?_); rfl; rfl) | (refine l_load ?_; (refine SXl.v (OpW.load 0 rfl rfl rfl) rfl ?_ ?_ ?_); rfl; rfl) | (refine l_fieldAddr ?_; (refine SXl.v (OpW.fieldAddr rfl) rfl ?_ ?_ ?_); rfl; rfl) | (refine l_move ?_; (refine SXl.v (OpW.move rfl) rfl ?_ ?_ ?_); rfl; rfl) | (refine l_assign ?_; (refine SXl.v (OpW.assign rfl) rfl ?_ ?_ ?_); rfl; rfl) | (refine l_not ?_; (refine SXl.v (OpW.not rfl) rfl ?_ ?_ ?_); rfl; rfl) | (refine l_pick ?_; (refine SXl.v (OpW.pick rfl rfl rfl) rfl ?_ ?_ ?_); rfl; rfl) | (refine l_box ?_; refine SXl.box ?_ ?_ rfl rfl (fun g => ?_); rfl; rfl) | ((first | rw [q0] | rw [q1] | rw [q2] | rw [q3] | rw [q4] | rw [q5] | rw [q6])) | refine SX.ret ?_ | refine SQ.thenRet ?_)
    refine SQ.body1 rfl rfl (fun w' hl => ⟨ret_bool hv.symm, hl.mod⟩)
  cases q7 : inB x.grow 0 1000
  · have hv : styleOk x = false := by simp [styleOk, q7]
    repeat (first | refine SX.seq ?_ | refine SXl.nil ?_ | refine SX.region ?_ | refine SQ.thenNormal ?_ | refine SX.skip ?_ | refine SX.condT rfl ?_ | refine SX.condF rfl ?_ | (refine SXl.no rfl rfl rfl ?_) | (refine l_call ?_; (refine SXl.v (OpW.calls rfl (fun w _ => l01In_any _ _ _ _)) rfl ?_ ?_ ?_); rfl; rfl) | (refine l_load ?_; (refine SXl.v (OpW.load 0 rfl rfl rfl) rfl ?_ ?_ ?_); rfl; rfl) | (refine l_fieldAddr ?_; (refine SXl.v (OpW.fieldAddr rfl) rfl ?_ ?_ ?_); rfl; rfl) | (refine l_move ?_; (refine SXl.v (OpW.move rfl) rfl ?_ ?_ ?_); rfl; rfl) | (refine l_assign ?_; (refine SXl.v (OpW.assign rfl) rfl ?_ ?_ ?_); rfl; rfl) | (refine l_not ?_; (refine SXl.v (OpW.not rfl) rfl ?_ ?_ ?_); rfl; rfl) | (refine l_pick ?_; (refine SXl.v (OpW.pick rfl rfl rfl) rfl ?_ ?_ ?_); rfl; rfl) | (refine l_box ?_; refine SXl.box ?_ ?_ rfl rfl (fun g => ?_); rfl; rfl) | ((first | rw [q0] | rw [q1] | rw [q2] | rw [q3] | rw [q4] | rw [q5] | rw [q6] | rw [q7])) | refine SX.ret ?_ | refine SQ.thenRet ?_)
    refine SQ.body1 rfl rfl (fun w' hl => ⟨ret_bool hv.symm, hl.mod⟩)
  cases q8 : inB x.shrink 0 1000
  · have hv : styleOk x = false := by simp [styleOk, q8]
    repeat (first | refine SX.seq ?_ | refine SXl.nil ?_ | refine SX.region ?_ | refine SQ.thenNormal ?_ | refine SX.skip ?_ | refine SX.condT rfl ?_ | refine SX.condF rfl ?_ | (refine SXl.no rfl rfl rfl ?_) | (refine l_call ?_; (refine SXl.v (OpW.calls rfl (fun w _ => l01In_any _ _ _ _)) rfl ?_ ?_ ?_); rfl; rfl) | (refine l_load ?_; (refine SXl.v (OpW.load 0 rfl rfl rfl) rfl ?_ ?_ ?_); rfl; rfl) | (refine l_fieldAddr ?_; (refine SXl.v (OpW.fieldAddr rfl) rfl ?_ ?_ ?_); rfl; rfl) | (refine l_move ?_; (refine SXl.v (OpW.move rfl) rfl ?_ ?_ ?_); rfl; rfl) | (refine l_assign ?_; (refine SXl.v (OpW.assign rfl) rfl ?_ ?_ ?_); rfl; rfl) | (refine l_not ?_; (refine SXl.v (OpW.not rfl) rfl ?_ ?_ ?_); rfl; rfl) | (refine l_pick ?_; (refine SXl.v (OpW.pick rfl rfl rfl) rfl ?_ ?_ ?_); rfl; rfl) | (refine l_box ?_; refine SXl.box ?_ ?_ rfl rfl (fun g => ?_); rfl; rfl) | ((first | rw [q0] | rw [q1] | rw [q2] | rw [q3] | rw [q4] | rw [q5] | rw [q6] | rw [q7] | rw [q8])) | refine SX.ret ?_ | refine SQ.thenRet ?_)
    refine SQ.body1 rfl rfl (fun w' hl => ⟨ret_bool hv.symm, hl.mod⟩)
  cases q9 : inB x.ratio 0 6400
  · have hv : styleOk x = false := by simp [styleOk, q9]
    repeat (first | refine SX.seq ?_ | refine SXl.nil ?_ | refine SX.region ?_ | refine SQ.thenNormal ?_ | refine SX.skip ?_ | refine SX.condT rfl ?_ | refine SX.condF rfl ?_ | (refine l_call ?_; (refine SXl.v (OpW.calls rfl (fun w _ => l01In_any _ _ _ _)) rfl ?_ ?_ ?_); rfl; rfl) | (refine l_load ?_; (refine SXl.v (OpW.load 0 rfl rfl rfl) rfl ?_ ?_ ?_); rfl; rfl) | (refine l_fieldAddr ?_; (refine SXl.v (OpW.fieldAddr rfl) rfl ?_ ?_ ?_); rfl; rfl) | (refine l_move ?_; (refine SXl.v (OpW.move rfl) rfl ?_ ?_ ?_); rfl; rfl) | (refine l_assign ?_; (refine SXl.v (OpW.assign rfl) rfl ?_ ?_ ?_); rfl; rfl) | (refine l_not ?_; (refine SXl.v (OpW.not rfl) rfl ?_ ?_ ?_); rfl; rfl) | (refine l_pick ?_; (refine SXl.v (OpW.pick rfl rfl rfl) rfl ?_ ?_ ?_); rfl; rfl) | (refine l_box ?_; refine SXl.box ?_ ?_ rfl rfl (fun g => ?_); rfl; rfl) | ((first | rw [q0] | rw [q1] | rw [q2] | rw [q3] | rw [q4] | rw [q5] | rw [q6] | rw [q7] | rw [q8] | rw [q9])) | refine SX.ret ?_ | refine SQ.thenRet ?_)
    refine SQ.body1 rfl rfl (fun w' hl => ⟨ret_bool hv.symm, hl.mod⟩)
  cases q10 : sizeOk x.basis
  · have hv : styleOk x = false := by simp [styleOk, q10]
    repeat (first | refine SX.seq ?_ | refine SXl.nil ?_ | refine SX.region ?_ | refine SQ.thenNormal ?_ | refine SX.skip ?_ | refine SX.condT rfl ?_ | refine SX.condF rfl ?_ | (refine SXl.no rfl rfl rfl ?_) | (refine l_call ?_; (first | refine SXl.v (OpW.calls rfl (fun w _ => l01In_any _ _ _ _)) rfl ?_ ?_ ?_ | refine SXl.v (OpW.call rfl (fun w hl => ssizeOk_any _ _)) rfl ?_ ?_ ?_); rfl; rfl) | (refine l_load ?_; (first | refine SXl.v (OpW.load 0 rfl rfl rfl) rfl ?_ ?_ ?_ | refine SXl.v (OpW.loadRow 0 rfl rfl rfl rfl) rfl ?_ ?_ ?_); rfl; rfl) | (refine l_fieldAddr ?_; (refine SXl.v (OpW.fieldAddr rfl) rfl ?_ ?_ ?_); rfl; rfl) | (refine l_move ?_; (refine SXl.v (OpW.move rfl) rfl ?_ ?_ ?_); rfl; rfl) | (refine l_assign ?_; (refine SXl.v (OpW.assign rfl) rfl ?_ ?_ ?_); rfl; rfl) | (refine l_not ?_; (refine SXl.v (OpW.not rfl) rfl ?_ ?_ ?_); rfl; rfl) | (refine l_pick ?_; (refine SXl.v (OpW.pick rfl rfl rfl) rfl ?_ ?_ ?_); rfl; rfl) | (refine l_box ?_; refine SXl.box ?_ ?_ rfl rfl (fun g => ?_); rfl; rfl) | ((first | rw [q0] | rw [q1] | rw [q2] | rw [q3] | rw [q4] | rw [q5] | rw [q6] | rw [q7] | rw [q8] | rw [q9] | rw [q10])) | refine SX.ret ?_ | refine SQ.thenRet ?_)
    refine SQ.body1 rfl rfl (fun w' hl => ⟨ret_bool hv.symm, hl.mod⟩)
  cases q11 : sizeOk x.width
  · have hv : styleOk x = false := by simp [styleOk, q11]
    repeat (first | refine SX.seq ?_ | refine SXl.nil ?_ | refine SX.region ?_ | refine SQ.thenNormal ?_ | refine SX.skip ?_ | refine SX.condT rfl ?_ | refine SX.condF rfl ?_ | (refine SXl.no rfl rfl rfl ?_) | (refine l_call ?_; (first | refine SXl.v (OpW.calls rfl (fun w _ => l01In_any _ _ _ _)) rfl ?_ ?_ ?_ | refine SXl.v (OpW.call rfl (fun w hl => ssizeOk_any _ _)) rfl ?_ ?_ ?_); rfl; rfl) | (refine l_load ?_; (first | refine SXl.v (OpW.load 0 rfl rfl rfl) rfl ?_ ?_ ?_ | refine SXl.v (OpW.loadRow 0 rfl rfl rfl rfl) rfl ?_ ?_ ?_); rfl; rfl) | (refine l_fieldAddr ?_; (refine SXl.v (OpW.fieldAddr rfl) rfl ?_ ?_ ?_); rfl; rfl) | (refine l_move ?_; (refine SXl.v (OpW.move rfl) rfl ?_ ?_ ?_); rfl; rfl) | (refine l_assign ?_; (refine SXl.v (OpW.assign rfl) rfl ?_ ?_ ?_); rfl; rfl) | (refine l_not ?_; (refine SXl.v (OpW.not rfl) rfl ?_ ?_ ?_); rfl; rfl) | (refine l_pick ?_; (refine SXl.v (OpW.pick rfl rfl rfl) rfl ?_ ?_ ?_); rfl; rfl) | (refine l_box ?_; refine SXl.box ?_ ?_ rfl rfl (fun g => ?_); rfl; rfl) | ((first | rw [q0] | rw [q1] | rw [q2] | rw [q3] | rw [q4] | rw [q5] | rw [q6] | rw [q7] | rw [q8] | rw [q9] | rw [q10] | rw [q11])) | refine SX.ret ?_ | refine SQ.thenRet ?_)
    refine SQ.body1 rfl rfl (fun w' hl => ⟨ret_bool hv.symm, hl.mod⟩)
  cases q12 : sizeOk x.height
  · have hv : styleOk x = false := by simp [styleOk, q12]
    repeat (first | refine SX.seq ?_ | refine SXl.nil ?_ | refine SX.region ?_ | refine SQ.thenNormal ?_ | refine SX.skip ?_ | refine SX.condT rfl ?_ | refine SX.condF rfl ?_ | (refine SXl.no rfl rfl rfl ?_) | (refine l_call ?_; (first | refine SXl.v (OpW.calls rfl (fun w _ => l01In_any _ _ _ _)) rfl ?_ ?_ ?_ | refine SXl.v (OpW.call rfl (fun w hl => ssizeOk_any _ _)) rfl ?_ ?_ ?_); rfl; rfl) | (refine l_load ?_; (first | refine SXl.v (OpW.load 0 rfl rfl rfl) rfl ?_ ?_ ?_ | refine SXl.v (OpW.loadRow 0 rfl rfl rfl rfl) rfl ?_ ?_ ?_); rfl; rfl) | (refine l_fieldAddr ?_; (refine SXl.v (OpW.fieldAddr rfl) rfl ?_ ?_ ?_); rfl; rfl) | (refine l_move ?_; (refine SXl.v (OpW.move rfl) rfl ?_ ?_ ?_); rfl; rfl) | (refine l_assign ?_; (refine SXl.v (OpW.assign rfl) rfl ?_ ?_ ?_); rfl; rfl) | (refine l_not ?_; (refine SXl.v (OpW.not rfl) rfl ?_ ?_ ?_); rfl; rfl) | (refine l_pick ?_; (refine SXl.v (OpW.pick rfl rfl rfl) rfl ?_ ?_ ?_); rfl; rfl) | (refine l_box ?_; refine SXl.box ?_ ?_ rfl rfl (fun g => ?_); rfl; rfl) | ((first | rw [q0] | rw [q1] | rw [q2] | rw [q3] | rw [q4] | rw [q5] | rw [q6] | rw [q7] | rw [q8] | rw [q9] | rw [q10] | rw [q11] | rw [q12])) | refine SX.ret ?_ | refine SQ.thenRet ?_)
    refine SQ.body1 rfl rfl (fun w' hl => ⟨ret_bool hv.symm, hl.mod⟩)
  cases q13 : sizeOk x.minWidth
  · have hv : styleOk x = false := by simp [styleOk, q13]
    repeat (first | refine SX.seq ?_ | refine SXl.nil ?_ | refine SX.region ?_ | refine SQ.thenNormal ?_ | refine SX.skip ?_ | refine SX.condT rfl ?_ | refine SX.condF rfl ?_ | (refine SXl.no rfl rfl rfl ?_) | (refine l_call ?_; (first | refine SXl.v (OpW.calls rfl (fun w _ => l01In_any _ _ _ _)) rfl ?_ ?_ ?_ | refine SXl.v (OpW.call rfl (fun w hl => ssizeOk_any _ _)) rfl ?_ ?_ ?_); rfl; rfl) | (refine l_load ?_; (first | refine SXl.v (OpW.load 0 rfl rfl rfl) rfl ?_ ?_ ?_ | refine SXl.v (OpW.loadRow 0 rfl rfl rfl rfl) rfl ?_ ?_ ?_); rfl; rfl) | (refine l_fieldAddr ?_; (refine SXl.v (OpW.fieldAddr rfl) rfl ?_ ?_ ?_); rfl; rfl) | (refine l_move ?_; (refine SXl.v (OpW.move rfl) rfl ?_ ?_ ?_); rfl; rfl) | (refine l_assign ?_; (refine SXl.v (OpW.assign rfl) rfl ?_ ?_ ?_); rfl; rfl) | (refine l_not ?_; (refine SXl.v (OpW.not rfl) rfl ?_ ?_ ?_); rfl; rfl) | (refine l_pick ?_; (refine SXl.v (OpW.pick rfl rfl rfl) rfl ?_ ?_ ?_); rfl; rfl) | (refine l_box ?_; refine SXl.box ?_ ?_ rfl rfl (fun g => ?_); rfl; rfl) | ((first | rw [q0] | rw [q1] | rw [q2] | rw [q3] | rw [q4] | rw [q5] | rw [q6] | rw [q7] | rw [q8] | rw [q9] | rw [q10] | rw [q11] | rw [q12] | rw [q13])) | refine SX.ret ?_ | refine SQ.thenRet ?_)
    refine SQ.body1 rfl rfl (fun w' hl => ⟨ret_bool hv.symm, hl.mod⟩)
  cases q14 : sizeOk x.minHeight
  · have hv : styleOk x = false := by simp [styleOk, q14]
    repeat (first | refine SX.seq ?_ | refine SXl.nil ?_ | refine SX.region ?_ | refine SQ.thenNormal ?_ | refine SX.skip ?_ | refine SX.condT rfl ?_ | refine SX.condF rfl ?_ | (refine SXl.no rfl rfl rfl ?_) | (refine l_call ?_; (first | refine SXl.v (OpW.calls rfl (fun w _ => l01In_any _ _ _ _)) rfl ?_ ?_ ?_ | refine SXl.v (OpW.call rfl (fun w hl => ssizeOk_any _ _)) rfl ?_ ?_ ?_); rfl; rfl) | (refine l_load ?_; (first | refine SXl.v (OpW.load 0 rfl rfl rfl) rfl ?_ ?_ ?_ | refine SXl.v (OpW.loadRow 0 rfl rfl rfl rfl) rfl ?_ ?_ ?_); rfl; rfl) | (refine l_fieldAddr ?_; (refine SXl.v (OpW.fieldAddr rfl) rfl ?_ ?_ ?_); rfl; rfl) | (refine l_move ?_; (refine SXl.v (OpW.move rfl) rfl ?_ ?_ ?_); rfl; rfl) | (refine l_assign ?_; (refine SXl.v (OpW.assign rfl) rfl ?_ ?_ ?_); rfl; rfl) | (refine l_not ?_; (refine SXl.v (OpW.not rfl) rfl ?_ ?_ ?_); rfl; rfl) | (refine l_pick ?_; (refine SXl.v (OpW.pick rfl rfl rfl) rfl ?_ ?_ ?_); rfl; rfl) | (refine l_box ?_; refine SXl.box ?_ ?_ rfl rfl (fun g => ?_); rfl; rfl) | ((first | rw [q0] | rw [q1] | rw [q2] | rw [q3] | rw [q4] | rw [q5] | rw [q6] | rw [q7] | rw [q8] | rw [q9] | rw [q10] | rw [q11] | rw [q12] | rw [q13] | rw [q14])) | refine SX.ret ?_ | refine SQ.thenRet ?_)
    refine SQ.body1 rfl rfl (fun w' hl => ⟨ret_bool hv.symm, hl.mod⟩)
  cases q15 : sizeOk x.maxWidth
  · have hv : styleOk x = false := by simp [styleOk, q15]
    repeat (first | refine SX.seq ?_ | refine SXl.nil ?_ | refine SX.region ?_ | refine SQ.thenNormal ?_ | refine SX.skip ?_ | refine SX.condT rfl ?_ | refine SX.condF rfl ?_ | (refine SXl.no rfl rfl rfl ?_) | (refine l_call ?_; (first | refine SXl.v (OpW.calls rfl (fun w _ => l01In_any _ _ _ _)) rfl ?_ ?_ ?_ | refine SXl.v (OpW.call rfl (fun w hl => ssizeOk_any _ _)) rfl ?_ ?_ ?_); rfl; rfl) | (refine l_load ?_; (first | refine SXl.v (OpW.load 0 rfl rfl rfl) rfl ?_ ?_ ?_ | refine SXl.v (OpW.loadRow 0 rfl rfl rfl rfl) rfl ?_ ?_ ?_); rfl; rfl) | (refine l_fieldAddr ?_; (refine SXl.v (OpW.fieldAddr rfl) rfl ?_ ?_ ?_); rfl; rfl) | (refine l_move ?_; (refine SXl.v (OpW.move rfl) rfl ?_ ?_ ?_); rfl; rfl) | (refine l_assign ?_; (refine SXl.v (OpW.assign rfl) rfl ?_ ?_ ?_); rfl; rfl) | (refine l_not ?_; (refine SXl.v (OpW.not rfl) rfl ?_ ?_ ?_); rfl; rfl) | (refine l_pick ?_; (refine SXl.v (OpW.pick rfl rfl rfl) rfl ?_ ?_ ?_); rfl; rfl) | (refine l_box ?_; refine SXl.box ?_ ?_ rfl rfl (fun g => ?_); rfl; rfl) | ((first | rw [q0] | rw [q1] | rw [q2] | rw [q3] | rw [q4] | rw [q5] | rw [q6] | rw [q7] | rw [q8] | rw [q9] | rw [q10] | rw [q11] | rw [q12] | rw [q13] | rw [q14] | rw [q15])) | refine SX.ret ?_ | refine SQ.thenRet ?_)
    refine SQ.body1 rfl rfl (fun w' hl => ⟨ret_bool hv.symm, hl.mod⟩)
  cases q16 : sizeOk x.maxHeight
  · have hv : styleOk x = false := by simp [styleOk, q16]
    repeat (first | refine SX.seq ?_ | refine SXl.nil ?_ | refine SX.region ?_ | refine SQ.thenNormal ?_ | refine SX.skip ?_ | refine SX.condT rfl ?_ | refine SX.condF rfl ?_ | (refine l_call ?_; (first | refine SXl.v (OpW.calls rfl (fun w _ => l01In_any _ _ _ _)) rfl ?_ ?_ ?_ | refine SXl.v (OpW.call rfl (fun w hl => ssizeOk_any _ _)) rfl ?_ ?_ ?_); rfl; rfl) | (refine l_load ?_; (first | refine SXl.v (OpW.load 0 rfl rfl rfl) rfl ?_ ?_ ?_ | refine SXl.v (OpW.loadRow 0 rfl rfl rfl rfl) rfl ?_ ?_ ?_); rfl; rfl) | (refine l_fieldAddr ?_; (refine SXl.v (OpW.fieldAddr rfl) rfl ?_ ?_ ?_); rfl; rfl) | (refine l_move ?_; (refine SXl.v (OpW.move rfl) rfl ?_ ?_ ?_); rfl; rfl) | (refine l_assign ?_; (refine SXl.v (OpW.assign rfl) rfl ?_ ?_ ?_); rfl; rfl) | (refine l_not ?_; (refine SXl.v (OpW.not rfl) rfl ?_ ?_ ?_); rfl; rfl) | (refine l_pick ?_; (refine SXl.v (OpW.pick rfl rfl rfl) rfl ?_ ?_ ?_); rfl; rfl) | (refine l_box ?_; refine SXl.box ?_ ?_ rfl rfl (fun g => ?_); rfl; rfl) | ((first | rw [q0] | rw [q1] | rw [q2] | rw [q3] | rw [q4] | rw [q5] | rw [q6] | rw [q7] | rw [q8] | rw [q9] | rw [q10] | rw [q11] | rw [q12] | rw [q13] | rw [q14] | rw [q15] | rw [q16])) | refine SX.ret ?_ | refine SQ.thenRet ?_)
    refine SQ.body1 rfl rfl (fun w' hl => ⟨ret_bool hv.symm, hl.mod⟩)
  cases q17 : sidesOk x.margin
  · have hv : styleOk x = false := by simp [styleOk, q17]
    repeat (first | refine SX.seq ?_ | refine SXl.nil ?_ | refine SX.region ?_ | refine SQ.thenNormal ?_ | refine SX.skip ?_ | refine SX.condF rfl ?_ | (refine SXl.no rfl rfl rfl ?_) | (refine l_call ?_; (first | refine SXl.v (OpW.calls rfl (fun w _ => l01In_any _ _ _ _)) rfl ?_ ?_ ?_ | refine SXl.v (OpW.call rfl (fun w hl => ssizeOk_any _ _)) rfl ?_ ?_ ?_ | refine SXl.v (OpW.call rfl (fun w hl => ssidesOk_any _ _)) rfl ?_ ?_ ?_); rfl; rfl) | (refine l_load ?_; (first | refine SXl.v (OpW.load 0 rfl rfl rfl) rfl ?_ ?_ ?_ | refine SXl.v (OpW.loadRow 0 rfl rfl rfl rfl) rfl ?_ ?_ ?_); rfl; rfl) | (refine l_fieldAddr ?_; (refine SXl.v (OpW.fieldAddr rfl) rfl ?_ ?_ ?_); rfl; rfl) | (refine l_move ?_; (refine SXl.v (OpW.move rfl) rfl ?_ ?_ ?_); rfl; rfl) | (refine l_assign ?_; (refine SXl.v (OpW.assign rfl) rfl ?_ ?_ ?_); rfl; rfl) | (refine l_not ?_; (refine SXl.v (OpW.not rfl) rfl ?_ ?_ ?_); rfl; rfl) | (refine l_pick ?_; (refine SXl.v (OpW.pick rfl rfl rfl) rfl ?_ ?_ ?_); rfl; rfl) | (refine l_box ?_; refine SXl.box ?_ ?_ rfl rfl (fun g => ?_); rfl; rfl) | ((first | rw [q0] | rw [q1] | rw [q2] | rw [q3] | rw [q4] | rw [q5] | rw [q6] | rw [q7] | rw [q8] | rw [q9] | rw [q10] | rw [q11] | rw [q12] | rw [q13] | rw [q14] | rw [q15] | rw [q16] | rw [q17])) | refine SX.ret ?_)
    refine SQ.body1 rfl rfl (fun w' hl => ⟨ret_bool hv.symm, hl.mod⟩)
  cases q18 : sidesOk x.inset
  · have hv : styleOk x = false := by simp [styleOk, q18]
    repeat (first | refine SX.seq ?_ | refine SXl.nil ?_ | refine SX.region ?_ | refine SQ.thenNormal ?_ | refine SX.skip ?_ | refine SX.condF rfl ?_ | (refine SXl.no rfl rfl rfl ?_) | (refine l_call ?_; (first | refine SXl.v (OpW.calls rfl (fun w _ => l01In_any _ _ _ _)) rfl ?_ ?_ ?_ | refine SXl.v (OpW.call rfl (fun w hl => ssizeOk_any _ _)) rfl ?_ ?_ ?_ | refine SXl.v (OpW.call rfl (fun w hl => ssidesOk_any _ _)) rfl ?_ ?_ ?_); rfl; rfl) | (refine l_load ?_; (first | refine SXl.v (OpW.load 0 rfl rfl rfl) rfl ?_ ?_ ?_ | refine SXl.v (OpW.loadRow 0 rfl rfl rfl rfl) rfl ?_ ?_ ?_); rfl; rfl) | (refine l_fieldAddr ?_; (refine SXl.v (OpW.fieldAddr rfl) rfl ?_ ?_ ?_); rfl; rfl) | (refine l_move ?_; (refine SXl.v (OpW.move rfl) rfl ?_ ?_ ?_); rfl; rfl) | (refine l_assign ?_; (refine SXl.v (OpW.assign rfl) rfl ?_ ?_ ?_); rfl; rfl) | (refine l_not ?_; (refine SXl.v (OpW.not rfl) rfl ?_ ?_ ?_); rfl; rfl) | (refine l_pick ?_; (refine SXl.v (OpW.pick rfl rfl rfl) rfl ?_ ?_ ?_); rfl; rfl) | (refine l_box ?_; refine SXl.box ?_ ?_ rfl rfl (fun g => ?_); rfl; rfl) | ((first | rw [q0] | rw [q1] | rw [q2] | rw [q3] | rw [q4] | rw [q5] | rw [q6] | rw [q7] | rw [q8] | rw [q9] | rw [q10] | rw [q11] | rw [q12] | rw [q13] | rw [q14] | rw [q15] | rw [q16] | rw [q17] | rw [q18])) | refine SX.ret ?_)
    refine SQ.body1 rfl rfl (fun w' hl => ⟨ret_bool hv.symm, hl.mod⟩)
  cases q19 : edgesOk x.pad
  · have hv : styleOk x = false := by simp [styleOk, q19]
    repeat (first | refine SX.seq ?_ | refine SXl.nil ?_ | refine SX.region ?_ | refine SQ.thenNormal ?_ | refine SX.skip ?_ | refine SX.condF rfl ?_ | (refine SXl.no rfl rfl rfl ?_) | (refine l_call ?_; (first | refine SXl.v (OpW.calls rfl (fun w _ => l01In_any _ _ _ _)) rfl ?_ ?_ ?_ | refine SXl.v (OpW.call rfl (fun w hl => ssizeOk_any _ _)) rfl ?_ ?_ ?_ | refine SXl.v (OpW.call rfl (fun w hl => ssidesOk_any _ _)) rfl ?_ ?_ ?_ | refine SXl.v (OpW.call rfl (fun w hl => sedgesOk_any _ _)) rfl ?_ ?_ ?_); rfl; rfl) | (refine l_load ?_; (first | refine SXl.v (OpW.load 0 rfl rfl rfl) rfl ?_ ?_ ?_ | refine SXl.v (OpW.loadRow 0 rfl rfl rfl rfl) rfl ?_ ?_ ?_); rfl; rfl) | (refine l_fieldAddr ?_; (refine SXl.v (OpW.fieldAddr rfl) rfl ?_ ?_ ?_); rfl; rfl) | (refine l_move ?_; (refine SXl.v (OpW.move rfl) rfl ?_ ?_ ?_); rfl; rfl) | (refine l_assign ?_; (refine SXl.v (OpW.assign rfl) rfl ?_ ?_ ?_); rfl; rfl) | (refine l_not ?_; (refine SXl.v (OpW.not rfl) rfl ?_ ?_ ?_); rfl; rfl) | (refine l_pick ?_; (refine SXl.v (OpW.pick rfl rfl rfl) rfl ?_ ?_ ?_); rfl; rfl) | (refine l_box ?_; refine SXl.box ?_ ?_ rfl rfl (fun g => ?_); rfl; rfl) | ((first | rw [q0] | rw [q1] | rw [q2] | rw [q3] | rw [q4] | rw [q5] | rw [q6] | rw [q7] | rw [q8] | rw [q9] | rw [q10] | rw [q11] | rw [q12] | rw [q13] | rw [q14] | rw [q15] | rw [q16] | rw [q17] | rw [q18] | rw [q19])) | refine SX.ret ?_)
    refine SQ.body1 rfl rfl (fun w' hl => ⟨ret_bool hv.symm, hl.mod⟩)
  cases q20 : edgesOk x.border
  · have hv : styleOk x = false := by simp [styleOk, q20]
    repeat (first | refine SX.seq ?_ | refine SXl.nil ?_ | refine SX.region ?_ | refine SQ.thenNormal ?_ | refine SX.skip ?_ | refine SX.condF rfl ?_ | (refine SXl.no rfl rfl rfl ?_) | (refine l_call ?_; (first | refine SXl.v (OpW.calls rfl (fun w _ => l01In_any _ _ _ _)) rfl ?_ ?_ ?_ | refine SXl.v (OpW.call rfl (fun w hl => ssizeOk_any _ _)) rfl ?_ ?_ ?_ | refine SXl.v (OpW.call rfl (fun w hl => ssidesOk_any _ _)) rfl ?_ ?_ ?_ | refine SXl.v (OpW.call rfl (fun w hl => sedgesOk_any _ _)) rfl ?_ ?_ ?_); rfl; rfl) | (refine l_load ?_; (first | refine SXl.v (OpW.load 0 rfl rfl rfl) rfl ?_ ?_ ?_ | refine SXl.v (OpW.loadRow 0 rfl rfl rfl rfl) rfl ?_ ?_ ?_); rfl; rfl) | (refine l_fieldAddr ?_; (refine SXl.v (OpW.fieldAddr rfl) rfl ?_ ?_ ?_); rfl; rfl) | (refine l_move ?_; (refine SXl.v (OpW.move rfl) rfl ?_ ?_ ?_); rfl; rfl) | (refine l_assign ?_; (refine SXl.v (OpW.assign rfl) rfl ?_ ?_ ?_); rfl; rfl) | (refine l_not ?_; (refine SXl.v (OpW.not rfl) rfl ?_ ?_ ?_); rfl; rfl) | (refine l_pick ?_; (refine SXl.v (OpW.pick rfl rfl rfl) rfl ?_ ?_ ?_); rfl; rfl) | (refine l_box ?_; refine SXl.box ?_ ?_ rfl rfl (fun g => ?_); rfl; rfl) | ((first | rw [q0] | rw [q1] | rw [q2] | rw [q3] | rw [q4] | rw [q5] | rw [q6] | rw [q7] | rw [q8] | rw [q9] | rw [q10] | rw [q11] | rw [q12] | rw [q13] | rw [q14] | rw [q15] | rw [q16] | rw [q17] | rw [q18] | rw [q19] | rw [q20])) | refine SX.ret ?_)
    refine SQ.body1 rfl rfl (fun w' hl => ⟨ret_bool hv.symm, hl.mod⟩)
  cases q21 : inB x.rowGap 0 1048576
  · have hv : styleOk x = false := by simp [styleOk, q21]
    repeat (first | refine SX.seq ?_ | refine SXl.nil ?_ | refine SX.region ?_ | refine SQ.thenNormal ?_ | refine SX.skip ?_ | refine SX.condF rfl ?_ | (refine SXl.no rfl rfl rfl ?_) | (refine l_call ?_; (first | refine SXl.v (OpW.calls rfl (fun w _ => l01In_any _ _ _ _)) rfl ?_ ?_ ?_ | refine SXl.v (OpW.call rfl (fun w hl => ssizeOk_any _ _)) rfl ?_ ?_ ?_ | refine SXl.v (OpW.call rfl (fun w hl => ssidesOk_any _ _)) rfl ?_ ?_ ?_ | refine SXl.v (OpW.call rfl (fun w hl => sedgesOk_any _ _)) rfl ?_ ?_ ?_); rfl; rfl) | (refine l_load ?_; (first | refine SXl.v (OpW.load 0 rfl rfl rfl) rfl ?_ ?_ ?_ | refine SXl.v (OpW.loadRow 0 rfl rfl rfl rfl) rfl ?_ ?_ ?_); rfl; rfl) | (refine l_fieldAddr ?_; (refine SXl.v (OpW.fieldAddr rfl) rfl ?_ ?_ ?_); rfl; rfl) | (refine l_move ?_; (refine SXl.v (OpW.move rfl) rfl ?_ ?_ ?_); rfl; rfl) | (refine l_assign ?_; (refine SXl.v (OpW.assign rfl) rfl ?_ ?_ ?_); rfl; rfl) | (refine l_not ?_; (refine SXl.v (OpW.not rfl) rfl ?_ ?_ ?_); rfl; rfl) | (refine l_pick ?_; (refine SXl.v (OpW.pick rfl rfl rfl) rfl ?_ ?_ ?_); rfl; rfl) | (refine l_box ?_; refine SXl.box ?_ ?_ rfl rfl (fun g => ?_); rfl; rfl) | ((first | rw [q0] | rw [q1] | rw [q2] | rw [q3] | rw [q4] | rw [q5] | rw [q6] | rw [q7] | rw [q8] | rw [q9] | rw [q10] | rw [q11] | rw [q12] | rw [q13] | rw [q14] | rw [q15] | rw [q16] | rw [q17] | rw [q18] | rw [q19] | rw [q20] | rw [q21])) | refine SX.ret ?_)
    refine SQ.body1 rfl rfl (fun w' hl => ⟨ret_bool hv.symm, hl.mod⟩)
  cases q22 : inB x.colGap 0 1048576
  · have hv : styleOk x = false := by simp [styleOk, q22]
    repeat (first | refine SX.seq ?_ | refine SXl.nil ?_ | refine SX.region ?_ | refine SQ.thenNormal ?_ | refine SX.skip ?_ | refine SX.condF rfl ?_ | (refine l_call ?_; (first | refine SXl.v (OpW.calls rfl (fun w _ => l01In_any _ _ _ _)) rfl ?_ ?_ ?_ | refine SXl.v (OpW.call rfl (fun w hl => ssizeOk_any _ _)) rfl ?_ ?_ ?_ | refine SXl.v (OpW.call rfl (fun w hl => ssidesOk_any _ _)) rfl ?_ ?_ ?_ | refine SXl.v (OpW.call rfl (fun w hl => sedgesOk_any _ _)) rfl ?_ ?_ ?_); rfl; rfl) | (refine l_load ?_; (first | refine SXl.v (OpW.load 0 rfl rfl rfl) rfl ?_ ?_ ?_ | refine SXl.v (OpW.loadRow 0 rfl rfl rfl rfl) rfl ?_ ?_ ?_); rfl; rfl) | (refine l_fieldAddr ?_; (refine SXl.v (OpW.fieldAddr rfl) rfl ?_ ?_ ?_); rfl; rfl) | (refine l_move ?_; (refine SXl.v (OpW.move rfl) rfl ?_ ?_ ?_); rfl; rfl) | (refine l_assign ?_; (refine SXl.v (OpW.assign rfl) rfl ?_ ?_ ?_); rfl; rfl) | (refine l_not ?_; (refine SXl.v (OpW.not rfl) rfl ?_ ?_ ?_); rfl; rfl) | (refine l_pick ?_; (refine SXl.v (OpW.pick rfl rfl rfl) rfl ?_ ?_ ?_); rfl; rfl) | (refine l_box ?_; refine SXl.box ?_ ?_ rfl rfl (fun g => ?_); rfl; rfl) | ((first | rw [q0] | rw [q1] | rw [q2] | rw [q3] | rw [q4] | rw [q5] | rw [q6] | rw [q7] | rw [q8] | rw [q9] | rw [q10] | rw [q11] | rw [q12] | rw [q13] | rw [q14] | rw [q15] | rw [q16] | rw [q17] | rw [q18] | rw [q19] | rw [q20] | rw [q21] | rw [q22])) | refine SX.ret ?_)
    refine SQ.body1 rfl rfl (fun w' hl => ⟨ret_bool hv.symm, hl.mod⟩)
  have hv : styleOk x = true := by simp [styleOk, q0, q1, q2, q3, q4, q5, q6, q7, q8, q9, q10, q11, q12, q13, q14, q15, q16, q17, q18, q19, q20, q21, q22]
  repeat (first | refine SX.seq ?_ | refine SXl.nil ?_ | refine SX.region ?_ | refine SQ.thenNormal ?_ | refine SX.skip ?_ | refine SX.condF rfl ?_ | (refine l_call ?_; (first | refine SXl.v (OpW.calls rfl (fun w _ => l01In_any _ _ _ _)) rfl ?_ ?_ ?_ | refine SXl.v (OpW.call rfl (fun w hl => ssizeOk_any _ _)) rfl ?_ ?_ ?_ | refine SXl.v (OpW.call rfl (fun w hl => ssidesOk_any _ _)) rfl ?_ ?_ ?_ | refine SXl.v (OpW.call rfl (fun w hl => sedgesOk_any _ _)) rfl ?_ ?_ ?_); rfl; rfl) | (refine l_load ?_; (first | refine SXl.v (OpW.load 0 rfl rfl rfl) rfl ?_ ?_ ?_ | refine SXl.v (OpW.loadRow 0 rfl rfl rfl rfl) rfl ?_ ?_ ?_); rfl; rfl) | (refine l_fieldAddr ?_; (refine SXl.v (OpW.fieldAddr rfl) rfl ?_ ?_ ?_); rfl; rfl) | (refine l_move ?_; (refine SXl.v (OpW.move rfl) rfl ?_ ?_ ?_); rfl; rfl) | (refine l_assign ?_; (refine SXl.v (OpW.assign rfl) rfl ?_ ?_ ?_); rfl; rfl) | (refine l_not ?_; (refine SXl.v (OpW.not rfl) rfl ?_ ?_ ?_); rfl; rfl) | (refine l_pick ?_; (refine SXl.v (OpW.pick rfl rfl rfl) rfl ?_ ?_ ?_); rfl; rfl) | (refine l_box ?_; refine SXl.box ?_ ?_ rfl rfl (fun g => ?_); rfl; rfl) | ((first | rw [q0] | rw [q1] | rw [q2] | rw [q3] | rw [q4] | rw [q5] | rw [q6] | rw [q7] | rw [q8] | rw [q9] | rw [q10] | rw [q11] | rw [q12] | rw [q13] | rw [q14] | rw [q15] | rw [q16] | rw [q17] | rw [q18] | rw [q19] | rw [q20] | rw [q21] | rw [q22])) | refine SX.ret ?_)
  refine SQ.body1 rfl rfl (fun w' hl => ⟨ret_bool hv.symm, hl.mod⟩)

end Go.Proofs.YthffgbhphjkdeaaGreatDoor
namespace Go.Proofs.YthffgbhphjkdeaaGreatDoor
open Go.RowKit
set_option linter.unusedVariables false
set_option linter.unusedSimpArgs false

def vals7 (x : Style) : List Val := [x.basis, x.width, x.height, x.minWidth, x.minHeight, x.maxWidth, x.maxHeight]
theorem vals7_at (x : Style) {k : Nat} (h : k < 7) : ∃ v, (vals7 x)[k]? = some v ∧ (([.int .i64 x.basis.kind, .int .i64 x.basis.n, .int .i64 x.width.kind, .int .i64 x.width.n, .int .i64 x.height.kind, .int .i64 x.height.n, .int .i64 x.minWidth.kind, .int .i64 x.minWidth.n, .int .i64 x.minHeight.kind, .int .i64 x.minHeight.n, .int .i64 x.maxWidth.kind, .int .i64 x.maxWidth.n, .int .i64 x.maxHeight.kind, .int .i64 x.maxHeight.n] : List Value).drop (0 + k * 2)).take 2 = [.int .i64 v.kind, .int .i64 v.n] := by
  obtain (rfl|rfl|rfl|rfl|rfl|rfl|rfl) : k = 0 ∨ k = 1 ∨ k = 2 ∨ k = 3 ∨ k = 4 ∨ k = 5 ∨ k = 6 := by omega
  all_goals exact ⟨_, rfl, rfl⟩
theorem styleOk_size {x : Style} {v : Val} {k : Nat} (h : (vals7 x)[k]? = some v) (hb : sizeOk v = false) : styleOk x = false := by
  have hm := List.mem_of_getElem? h
  simp only [vals7, List.mem_cons, List.not_mem_nil, or_false] at hm
  rcases hm with rfl|rfl|rfl|rfl|rfl|rfl|rfl <;> simp [styleOk, hb]
theorem vto_succ {l : List Val} {k : Nat} {v : Val} (hs : ∀ i x, i < k → l[i]? = some x → sizeOk x = true) (hx : l[k]? = some v) (h : sizeOk v = true) : ∀ i x, i < k + 1 → l[i]? = some x → sizeOk x = true := fun j y hj hy => by
  by_cases e : j = k
  · subst e; rw [hx] at hy; rw [← Option.some.inj hy]; exact h
  · exact hs j y (by omega) hy
theorem vals7_all {x : Style} (hs : ∀ i v, i < 7 → (vals7 x)[i]? = some v → sizeOk v = true) : sizeOk x.basis = true ∧ sizeOk x.width = true ∧ sizeOk x.height = true ∧ sizeOk x.minWidth = true ∧ sizeOk x.minHeight = true ∧ sizeOk x.maxWidth = true ∧ sizeOk x.maxHeight = true :=
  ⟨hs 0 _ (by omega) rfl, hs 1 _ (by omega) rfl, hs 2 _ (by omega) rfl, hs 3 _ (by omega) rfl, hs 4 _ (by omega) rfl, hs 5 _ (by omega) rfl, hs 6 _ (by omega) rfl⟩
set_option maxRecDepth 100000 in
set_option maxHeartbeats 8000000 in
theorem styleOk_any (x : Style) (w : World) : Calls Tryz.prog 33 #[.agg #[.int .i64 x.dir, .int .i64 x.wrap, .int .i64 x.justify, .int .i64 x.items, .int .i64 x.self, .int .i64 x.content, .bool x.apart, .bool x.hidden, .int .i64 x.order, .int .i64 x.grow, .int .i64 x.shrink, .int .i64 x.basis.kind, .int .i64 x.basis.n, .int .i64 x.width.kind, .int .i64 x.width.n, .int .i64 x.height.kind, .int .i64 x.height.n, .int .i64 x.minWidth.kind, .int .i64 x.minWidth.n, .int .i64 x.minHeight.kind, .int .i64 x.minHeight.n, .int .i64 x.maxWidth.kind, .int .i64 x.maxWidth.n, .int .i64 x.maxHeight.kind, .int .i64 x.maxHeight.n, .int .i64 x.ratio, .int .i64 x.margin.left.kind, .int .i64 x.margin.left.n, .int .i64 x.margin.top.kind, .int .i64 x.margin.top.n, .int .i64 x.margin.right.kind, .int .i64 x.margin.right.n, .int .i64 x.margin.bottom.kind, .int .i64 x.margin.bottom.n, .int .i64 x.margin.start.kind, .int .i64 x.margin.start.n, .int .i64 x.margin.stop.kind, .int .i64 x.margin.stop.n, .int .i64 x.inset.left.kind, .int .i64 x.inset.left.n, .int .i64 x.inset.top.kind, .int .i64 x.inset.top.n, .int .i64 x.inset.right.kind, .int .i64 x.inset.right.n, .int .i64 x.inset.bottom.kind, .int .i64 x.inset.bottom.n, .int .i64 x.inset.start.kind, .int .i64 x.inset.start.n, .int .i64 x.inset.stop.kind, .int .i64 x.inset.stop.n, .int .i64 x.pad.left, .int .i64 x.pad.top, .int .i64 x.pad.right, .int .i64 x.pad.bottom, .int .i64 x.border.left, .int .i64 x.border.top, .int .i64 x.border.right, .int .i64 x.border.bottom, .int .i64 x.rowGap, .int .i64 x.colGap]] w fun e w' => e = .returned (.bool (styleOk x)) ∧ Mod (fun _ => False) w w' := by
  refine calls_sx Tryz.func33 rfl rfl (fun a h1 h2 h3 => ((Fr.nil h1 h2).arg (h3 0 _ rfl))) ?_
  cases q0 : inB x.dir 1 4
  · have hv : styleOk x = false := by simp [styleOk, q0]
    repeat (first | refine SX.seq ?_ | refine SXl.nil ?_ | refine SX.region ?_ | refine SQ.thenNormal ?_ | refine SX.condT rfl ?_ | (refine SXl.no rfl rfl rfl ?_) | (refine l_call ?_; (refine SXl.v (OpW.calls rfl (fun w _ => in_any _ _ _ _)) rfl ?_ ?_ ?_); rfl; rfl) | (refine l_load ?_; (refine SXl.v (OpW.load 0 rfl rfl rfl) rfl ?_ ?_ ?_); rfl; rfl) | (refine l_fieldAddr ?_; (refine SXl.v (OpW.fieldAddr rfl) rfl ?_ ?_ ?_); rfl; rfl) | (refine l_move ?_; (refine SXl.v (OpW.move rfl) rfl ?_ ?_ ?_); rfl; rfl) | (refine l_assign ?_; (refine SXl.v (OpW.assign rfl) rfl ?_ ?_ ?_); rfl; rfl) | (refine l_not ?_; (refine SXl.v (OpW.not rfl) rfl ?_ ?_ ?_); rfl; rfl) | (refine l_pick ?_; (refine SXl.v (OpW.pick rfl rfl rfl) rfl ?_ ?_ ?_); rfl; rfl) | (refine l_box ?_; refine SXl.box ?_ ?_ rfl rfl (fun g => ?_); rfl; rfl) | ((rw [q0])) | refine SX.ret ?_ | refine SQ.thenRet ?_)
    refine SQ.body1 rfl rfl (fun w' hl => ⟨ret_bool hv.symm, hl.mod⟩)
  cases q1 : inB x.wrap 1 3
  · have hv : styleOk x = false := by simp [styleOk, q1]
    repeat (first | refine SX.seq ?_ | refine SXl.nil ?_ | refine SX.region ?_ | refine SQ.thenNormal ?_ | refine SX.condT rfl ?_ | (refine SXl.no rfl rfl rfl ?_) | (refine l_call ?_; (refine SXl.v (OpW.calls rfl (fun w _ => in_any _ _ _ _)) rfl ?_ ?_ ?_); rfl; rfl) | (refine l_load ?_; (refine SXl.v (OpW.load 0 rfl rfl rfl) rfl ?_ ?_ ?_); rfl; rfl) | (refine l_fieldAddr ?_; (refine SXl.v (OpW.fieldAddr rfl) rfl ?_ ?_ ?_); rfl; rfl) | (refine l_move ?_; (refine SXl.v (OpW.move rfl) rfl ?_ ?_ ?_); rfl; rfl) | (refine l_assign ?_; (refine SXl.v (OpW.assign rfl) rfl ?_ ?_ ?_); rfl; rfl) | (refine l_not ?_; (refine SXl.v (OpW.not rfl) rfl ?_ ?_ ?_); rfl; rfl) | (refine l_pick ?_; (refine SXl.v (OpW.pick rfl rfl rfl) rfl ?_ ?_ ?_); rfl; rfl) | (refine l_box ?_; refine SXl.box ?_ ?_ rfl rfl (fun g => ?_); rfl; rfl) | ((first | rw [q0] | rw [q1])) | refine SX.ret ?_ | refine SQ.thenRet ?_)
    refine SQ.body1 rfl rfl (fun w' hl => ⟨ret_bool hv.symm, hl.mod⟩)
  cases q2 : inB x.justify 1 6
  · have hv : styleOk x = false := by simp [styleOk, q2]
    repeat (first | refine SX.seq ?_ | refine SXl.nil ?_ | refine SX.region ?_ | refine SQ.thenNormal ?_ | refine SX.condT rfl ?_ | (refine SXl.no rfl rfl rfl ?_) | (refine l_call ?_; (refine SXl.v (OpW.calls rfl (fun w _ => in_any _ _ _ _)) rfl ?_ ?_ ?_); rfl; rfl) | (refine l_load ?_; (refine SXl.v (OpW.load 0 rfl rfl rfl) rfl ?_ ?_ ?_); rfl; rfl) | (refine l_fieldAddr ?_; (refine SXl.v (OpW.fieldAddr rfl) rfl ?_ ?_ ?_); rfl; rfl) | (refine l_move ?_; (refine SXl.v (OpW.move rfl) rfl ?_ ?_ ?_); rfl; rfl) | (refine l_assign ?_; (refine SXl.v (OpW.assign rfl) rfl ?_ ?_ ?_); rfl; rfl) | (refine l_not ?_; (refine SXl.v (OpW.not rfl) rfl ?_ ?_ ?_); rfl; rfl) | (refine l_pick ?_; (refine SXl.v (OpW.pick rfl rfl rfl) rfl ?_ ?_ ?_); rfl; rfl) | (refine l_box ?_; refine SXl.box ?_ ?_ rfl rfl (fun g => ?_); rfl; rfl) | ((first | rw [q0] | rw [q1] | rw [q2])) | refine SX.ret ?_ | refine SQ.thenRet ?_)
    refine SQ.body1 rfl rfl (fun w' hl => ⟨ret_bool hv.symm, hl.mod⟩)
  cases q3 : inB x.self 0 5
  · have hv : styleOk x = false := by simp [styleOk, q3]
    repeat (first | refine SX.seq ?_ | refine SXl.nil ?_ | refine SX.region ?_ | refine SQ.thenNormal ?_ | refine SX.condT rfl ?_ | (refine SXl.no rfl rfl rfl ?_) | (refine l_call ?_; (refine SXl.v (OpW.calls rfl (fun w _ => in_any _ _ _ _)) rfl ?_ ?_ ?_); rfl; rfl) | (refine l_load ?_; (refine SXl.v (OpW.load 0 rfl rfl rfl) rfl ?_ ?_ ?_); rfl; rfl) | (refine l_fieldAddr ?_; (refine SXl.v (OpW.fieldAddr rfl) rfl ?_ ?_ ?_); rfl; rfl) | (refine l_move ?_; (refine SXl.v (OpW.move rfl) rfl ?_ ?_ ?_); rfl; rfl) | (refine l_assign ?_; (refine SXl.v (OpW.assign rfl) rfl ?_ ?_ ?_); rfl; rfl) | (refine l_not ?_; (refine SXl.v (OpW.not rfl) rfl ?_ ?_ ?_); rfl; rfl) | (refine l_pick ?_; (refine SXl.v (OpW.pick rfl rfl rfl) rfl ?_ ?_ ?_); rfl; rfl) | (refine l_box ?_; refine SXl.box ?_ ?_ rfl rfl (fun g => ?_); rfl; rfl) | ((first | rw [q0] | rw [q1] | rw [q2] | rw [q3])) | refine SX.ret ?_ | refine SQ.thenRet ?_)
    refine SQ.body1 rfl rfl (fun w' hl => ⟨ret_bool hv.symm, hl.mod⟩)
  cases q4 : inB x.content 1 6
  · have hv : styleOk x = false := by simp [styleOk, q4]
    repeat (first | refine SX.seq ?_ | refine SXl.nil ?_ | refine SX.region ?_ | refine SQ.thenNormal ?_ | refine SX.condT rfl ?_ | (refine SXl.no rfl rfl rfl ?_) | (refine l_call ?_; (refine SXl.v (OpW.calls rfl (fun w _ => in_any _ _ _ _)) rfl ?_ ?_ ?_); rfl; rfl) | (refine l_load ?_; (refine SXl.v (OpW.load 0 rfl rfl rfl) rfl ?_ ?_ ?_); rfl; rfl) | (refine l_fieldAddr ?_; (refine SXl.v (OpW.fieldAddr rfl) rfl ?_ ?_ ?_); rfl; rfl) | (refine l_move ?_; (refine SXl.v (OpW.move rfl) rfl ?_ ?_ ?_); rfl; rfl) | (refine l_assign ?_; (refine SXl.v (OpW.assign rfl) rfl ?_ ?_ ?_); rfl; rfl) | (refine l_not ?_; (refine SXl.v (OpW.not rfl) rfl ?_ ?_ ?_); rfl; rfl) | (refine l_pick ?_; (refine SXl.v (OpW.pick rfl rfl rfl) rfl ?_ ?_ ?_); rfl; rfl) | (refine l_box ?_; refine SXl.box ?_ ?_ rfl rfl (fun g => ?_); rfl; rfl) | ((first | rw [q0] | rw [q1] | rw [q2] | rw [q3] | rw [q4])) | refine SX.ret ?_ | refine SQ.thenRet ?_)
    refine SQ.body1 rfl rfl (fun w' hl => ⟨ret_bool hv.symm, hl.mod⟩)
  cases q5 : inB x.items 1 5
  · have hv : styleOk x = false := by simp [styleOk, q5]
    repeat (first | refine SX.seq ?_ | refine SXl.nil ?_ | refine SX.region ?_ | refine SQ.thenNormal ?_ | refine SX.condT rfl ?_ | (refine l_call ?_; (refine SXl.v (OpW.calls rfl (fun w _ => in_any _ _ _ _)) rfl ?_ ?_ ?_); rfl; rfl) | (refine l_load ?_; (refine SXl.v (OpW.load 0 rfl rfl rfl) rfl ?_ ?_ ?_); rfl; rfl) | (refine l_fieldAddr ?_; (refine SXl.v (OpW.fieldAddr rfl) rfl ?_ ?_ ?_); rfl; rfl) | (refine l_move ?_; (refine SXl.v (OpW.move rfl) rfl ?_ ?_ ?_); rfl; rfl) | (refine l_assign ?_; (refine SXl.v (OpW.assign rfl) rfl ?_ ?_ ?_); rfl; rfl) | (refine l_not ?_; (refine SXl.v (OpW.not rfl) rfl ?_ ?_ ?_); rfl; rfl) | (refine l_pick ?_; (refine SXl.v (OpW.pick rfl rfl rfl) rfl ?_ ?_ ?_); rfl; rfl) | (refine l_box ?_; refine SXl.box ?_ ?_ rfl rfl (fun g => ?_); rfl; rfl) | ((first | rw [q0] | rw [q1] | rw [q2] | rw [q3] | rw [q4] | rw [q5])) | refine SX.ret ?_ | refine SQ.thenRet ?_)
    refine SQ.body1 rfl rfl (fun w' hl => ⟨ret_bool hv.symm, hl.mod⟩)
  cases q6 : inB x.order (-1000) 1000
  · have hv : styleOk x = false := by simp [styleOk, q6]
    repeat (first | refine SX.seq ?_ | refine SXl.nil ?_ | refine SX.region ?_ | refine SQ.thenNormal ?_ | refine SX.skip ?_ | refine SX.condT rfl ?_ | refine SX.condF rfl ?_ | (refine SXl.no rfl rfl rfl ?_) | (refine l_call ?_; (refine SXl.v (OpW.calls rfl (fun w _ => in_any _ _ _ _)) rfl ?_ ?_ ?_); rfl; rfl) | (refine l_load ?_; (refine SXl.v (OpW.load 0 rfl rfl rfl) rfl ?_ ?_ ?_); rfl; rfl) | (refine l_fieldAddr ?_; (refine SXl.v (OpW.fieldAddr rfl) rfl ?_ ?_ ?_); rfl; rfl) | (refine l_move ?_; (refine SXl.v (OpW.move rfl) rfl ?_ ?_ ?_); rfl; rfl) | (refine l_assign ?_; (refine SXl.v (OpW.assign rfl) rfl ?_ ?_ ?_); rfl; rfl) | (refine l_not ?_; (refine SXl.v (OpW.not rfl) rfl ?_ ?_ ?_); rfl; rfl) | (refine l_pick ?_; (refine SXl.v (OpW.pick rfl rfl rfl) rfl ?_ ?_ ?_); rfl; rfl) | (refine l_box ?_; refine SXl.box ?_ ?_ rfl rfl (fun g => ?_); rfl; rfl) | ((first | rw [q0] | rw [q1] | rw [q2] | rw [q3] | rw [q4] | rw [q5] | rw [q6])) | refine SX.ret ?_ | refine SQ.thenRet ?_)
    refine SQ.body1 rfl rfl (fun w' hl => ⟨ret_bool hv.symm, hl.mod⟩)
  cases q7 : inB x.grow 0 1000
  · have hv : styleOk x = false := by simp [styleOk, q7]
    repeat (first | refine SX.seq ?_ | refine SXl.nil ?_ | refine SX.region ?_ | refine SQ.thenNormal ?_ | refine SX.skip ?_ | refine SX.condT rfl ?_ | refine SX.condF rfl ?_ | (refine SXl.no rfl rfl rfl ?_) | (refine l_call ?_; (refine SXl.v (OpW.calls rfl (fun w _ => in_any _ _ _ _)) rfl ?_ ?_ ?_); rfl; rfl) | (refine l_load ?_; (refine SXl.v (OpW.load 0 rfl rfl rfl) rfl ?_ ?_ ?_); rfl; rfl) | (refine l_fieldAddr ?_; (refine SXl.v (OpW.fieldAddr rfl) rfl ?_ ?_ ?_); rfl; rfl) | (refine l_move ?_; (refine SXl.v (OpW.move rfl) rfl ?_ ?_ ?_); rfl; rfl) | (refine l_assign ?_; (refine SXl.v (OpW.assign rfl) rfl ?_ ?_ ?_); rfl; rfl) | (refine l_not ?_; (refine SXl.v (OpW.not rfl) rfl ?_ ?_ ?_); rfl; rfl) | (refine l_pick ?_; (refine SXl.v (OpW.pick rfl rfl rfl) rfl ?_ ?_ ?_); rfl; rfl) | (refine l_box ?_; refine SXl.box ?_ ?_ rfl rfl (fun g => ?_); rfl; rfl) | ((first | rw [q0] | rw [q1] | rw [q2] | rw [q3] | rw [q4] | rw [q5] | rw [q6] | rw [q7])) | refine SX.ret ?_ | refine SQ.thenRet ?_)
    refine SQ.body1 rfl rfl (fun w' hl => ⟨ret_bool hv.symm, hl.mod⟩)
  cases q8 : inB x.shrink 0 1000
  · have hv : styleOk x = false := by simp [styleOk, q8]
    repeat (first | refine SX.seq ?_ | refine SXl.nil ?_ | refine SX.region ?_ | refine SQ.thenNormal ?_ | refine SX.skip ?_ | refine SX.condT rfl ?_ | refine SX.condF rfl ?_ | (refine SXl.no rfl rfl rfl ?_) | (refine l_call ?_; (refine SXl.v (OpW.calls rfl (fun w _ => in_any _ _ _ _)) rfl ?_ ?_ ?_); rfl; rfl) | (refine l_load ?_; (refine SXl.v (OpW.load 0 rfl rfl rfl) rfl ?_ ?_ ?_); rfl; rfl) | (refine l_fieldAddr ?_; (refine SXl.v (OpW.fieldAddr rfl) rfl ?_ ?_ ?_); rfl; rfl) | (refine l_move ?_; (refine SXl.v (OpW.move rfl) rfl ?_ ?_ ?_); rfl; rfl) | (refine l_assign ?_; (refine SXl.v (OpW.assign rfl) rfl ?_ ?_ ?_); rfl; rfl) | (refine l_not ?_; (refine SXl.v (OpW.not rfl) rfl ?_ ?_ ?_); rfl; rfl) | (refine l_pick ?_; (refine SXl.v (OpW.pick rfl rfl rfl) rfl ?_ ?_ ?_); rfl; rfl) | (refine l_box ?_; refine SXl.box ?_ ?_ rfl rfl (fun g => ?_); rfl; rfl) | ((first | rw [q0] | rw [q1] | rw [q2] | rw [q3] | rw [q4] | rw [q5] | rw [q6] | rw [q7] | rw [q8])) | refine SX.ret ?_ | refine SQ.thenRet ?_)
    refine SQ.body1 rfl rfl (fun w' hl => ⟨ret_bool hv.symm, hl.mod⟩)
  cases q9 : inB x.ratio 0 6400
  · have hv : styleOk x = false := by simp [styleOk, q9]
    repeat (first | refine SX.seq ?_ | refine SXl.nil ?_ | refine SX.region ?_ | refine SQ.thenNormal ?_ | refine SX.skip ?_ | refine SX.condT rfl ?_ | refine SX.condF rfl ?_ | (refine SXl.no rfl rfl rfl ?_) | (refine l_call ?_; (refine SXl.v (OpW.calls rfl (fun w _ => in_any _ _ _ _)) rfl ?_ ?_ ?_); rfl; rfl) | (refine l_load ?_; (refine SXl.v (OpW.load 0 rfl rfl rfl) rfl ?_ ?_ ?_); rfl; rfl) | (refine l_fieldAddr ?_; (refine SXl.v (OpW.fieldAddr rfl) rfl ?_ ?_ ?_); rfl; rfl) | (refine l_move ?_; (refine SXl.v (OpW.move rfl) rfl ?_ ?_ ?_); rfl; rfl) | (refine l_assign ?_; (refine SXl.v (OpW.assign rfl) rfl ?_ ?_ ?_); rfl; rfl) | (refine l_not ?_; (refine SXl.v (OpW.not rfl) rfl ?_ ?_ ?_); rfl; rfl) | (refine l_pick ?_; (refine SXl.v (OpW.pick rfl rfl rfl) rfl ?_ ?_ ?_); rfl; rfl) | (refine l_box ?_; refine SXl.box ?_ ?_ rfl rfl (fun g => ?_); rfl; rfl) | ((first | rw [q0] | rw [q1] | rw [q2] | rw [q3] | rw [q4] | rw [q5] | rw [q6] | rw [q7] | rw [q8] | rw [q9])) | refine SX.ret ?_ | refine SQ.thenRet ?_)
    refine SQ.body1 rfl rfl (fun w' hl => ⟨ret_bool hv.symm, hl.mod⟩)
  cases q10 : inB x.rowGap 0 1048576
  · have hv : styleOk x = false := by simp [styleOk, q10]
    repeat (first | refine SX.seq ?_ | refine SXl.nil ?_ | refine SX.region ?_ | refine SQ.thenNormal ?_ | refine SX.skip ?_ | refine SX.condT rfl ?_ | refine SX.condF rfl ?_ | (refine SXl.no rfl rfl rfl ?_) | (refine l_call ?_; (refine SXl.v (OpW.calls rfl (fun w _ => in_any _ _ _ _)) rfl ?_ ?_ ?_); rfl; rfl) | (refine l_load ?_; (refine SXl.v (OpW.load 0 rfl rfl rfl) rfl ?_ ?_ ?_); rfl; rfl) | (refine l_fieldAddr ?_; (refine SXl.v (OpW.fieldAddr rfl) rfl ?_ ?_ ?_); rfl; rfl) | (refine l_move ?_; (refine SXl.v (OpW.move rfl) rfl ?_ ?_ ?_); rfl; rfl) | (refine l_assign ?_; (refine SXl.v (OpW.assign rfl) rfl ?_ ?_ ?_); rfl; rfl) | (refine l_not ?_; (refine SXl.v (OpW.not rfl) rfl ?_ ?_ ?_); rfl; rfl) | (refine l_pick ?_; (refine SXl.v (OpW.pick rfl rfl rfl) rfl ?_ ?_ ?_); rfl; rfl) | (refine l_box ?_; refine SXl.box ?_ ?_ rfl rfl (fun g => ?_); rfl; rfl) | ((first | rw [q0] | rw [q1] | rw [q2] | rw [q3] | rw [q4] | rw [q5] | rw [q6] | rw [q7] | rw [q8] | rw [q9] | rw [q10])) | refine SX.ret ?_ | refine SQ.thenRet ?_)
    refine SQ.body1 rfl rfl (fun w' hl => ⟨ret_bool hv.symm, hl.mod⟩)
  cases q11 : inB x.colGap 0 1048576
  · have hv : styleOk x = false := by simp [styleOk, q11]
    repeat (first | refine SX.seq ?_ | refine SXl.nil ?_ | refine SX.region ?_ | refine SQ.thenNormal ?_ | refine SX.skip ?_ | refine SX.condT rfl ?_ | refine SX.condF rfl ?_ | (refine l_call ?_; (refine SXl.v (OpW.calls rfl (fun w _ => in_any _ _ _ _)) rfl ?_ ?_ ?_); rfl; rfl) | (refine l_load ?_; (refine SXl.v (OpW.load 0 rfl rfl rfl) rfl ?_ ?_ ?_); rfl; rfl) | (refine l_fieldAddr ?_; (refine SXl.v (OpW.fieldAddr rfl) rfl ?_ ?_ ?_); rfl; rfl) | (refine l_move ?_; (refine SXl.v (OpW.move rfl) rfl ?_ ?_ ?_); rfl; rfl) | (refine l_assign ?_; (refine SXl.v (OpW.assign rfl) rfl ?_ ?_ ?_); rfl; rfl) | (refine l_not ?_; (refine SXl.v (OpW.not rfl) rfl ?_ ?_ ?_); rfl; rfl) | (refine l_pick ?_; (refine SXl.v (OpW.pick rfl rfl rfl) rfl ?_ ?_ ?_); rfl; rfl) | (refine l_box ?_; refine SXl.box ?_ ?_ rfl rfl (fun g => ?_); rfl; rfl) | ((first | rw [q0] | rw [q1] | rw [q2] | rw [q3] | rw [q4] | rw [q5] | rw [q6] | rw [q7] | rw [q8] | rw [q9] | rw [q10] | rw [q11])) | refine SX.ret ?_ | refine SQ.thenRet ?_)
    refine SQ.body1 rfl rfl (fun w' hl => ⟨ret_bool hv.symm, hl.mod⟩)
  repeat (first | refine SX.seq ?_ | refine SXl.nil ?_ | refine SX.region ?_ | refine SQ.thenNormal ?_ | refine SX.skip ?_ | refine SX.condF rfl ?_ | (refine l_call ?_; (refine SXl.v (OpW.calls rfl (fun w _ => in_any _ _ _ _)) rfl ?_ ?_ ?_); rfl; rfl) | (refine l_load ?_; (first | refine SXl.v (OpW.load 0 rfl rfl rfl) rfl ?_ ?_ ?_ | refine SXl.v (OpW.loadRow 0 rfl rfl rfl rfl) rfl ?_ ?_ ?_); rfl; rfl) | (refine l_fieldAddr ?_; (refine SXl.v (OpW.fieldAddr rfl) rfl ?_ ?_ ?_); rfl; rfl) | (refine l_move ?_; (refine SXl.v (OpW.move rfl) rfl ?_ ?_ ?_); rfl; rfl) | (refine l_assign ?_; (refine SXl.v (OpW.assign rfl) rfl ?_ ?_ ?_); rfl; rfl) | (refine l_not ?_; (refine SXl.v (OpW.not rfl) rfl ?_ ?_ ?_); rfl; rfl) | (refine l_pick ?_; (refine SXl.v (OpW.pick rfl rfl rfl) rfl ?_ ?_ ?_); rfl; rfl) | (refine l_box ?_; refine SXl.box ?_ ?_ rfl rfl (fun g => ?_); rfl; rfl) | ((first | rw [q0] | rw [q1] | rw [q2] | rw [q3] | rw [q4] | rw [q5] | rw [q6] | rw [q7] | rw [q8] | rw [q9] | rw [q10] | rw [q11])))
  refine l_buildSlice ?_
  refine SXl.litRow (cells := [.int .i64 x.basis.kind, .int .i64 x.basis.n, .int .i64 x.width.kind, .int .i64 x.width.n, .int .i64 x.height.kind, .int .i64 x.height.n, .int .i64 x.minWidth.kind, .int .i64 x.minWidth.n, .int .i64 x.minHeight.kind, .int .i64 x.minHeight.n, .int .i64 x.maxWidth.kind, .int .i64 x.maxWidth.n, .int .i64 x.maxHeight.kind, .int .i64 x.maxHeight.n]) ?_ ?_ rfl (by decide) (by decide) ?_ (fun g5 => ?_)
  rfl
  rfl
  kernel_rfl
  repeat (first | refine SXl.nil ?_ | refine SQ.thenNormal ?_ | refine SX.block ?_ | (refine l_move ?_; (refine SXl.v (OpW.move rfl) rfl ?_ ?_ ?_); rfl; rfl) | (refine l_len ?_; (refine SXl.v (OpW.len rfl) rfl ?_ ?_ ?_); rfl; rfl))
  refine SX.loopi (fun k : Nat => k ≤ 7 ∧ ∀ i v, i < k → (vals7 x)[i]? = some v → sizeOk v = true) (fun k => 7 - k) (fun _ => [⟨g5, [.int .i64 x.basis.kind, .int .i64 x.basis.n, .int .i64 x.width.kind, .int .i64 x.width.n, .int .i64 x.height.kind, .int .i64 x.height.n, .int .i64 x.minWidth.kind, .int .i64 x.minWidth.n, .int .i64 x.minHeight.kind, .int .i64 x.minHeight.n, .int .i64 x.maxWidth.kind, .int .i64 x.maxWidth.n, .int .i64 x.maxHeight.kind, .int .i64 x.maxHeight.n], 25⟩, ⟨g, x.cells, 31⟩]) (fun _ => []) (fun _ => []) (fun k => [(1, .pointer (some ⟨g, 0, none⟩)), (87, .slice (some ⟨g5, 0, none⟩) 7 7), (88, .int .i64 7), (89, .int .i64 k)]) 0 ⟨Nat.zero_le _, fun i x h => absurd h (Nat.not_lt_zero _)⟩ ?_ (fun _ hl => hl) ?_
  · (repeat (first | exact subF_nil _ | (refine subF_cons rfl ?_) | (refine subF_consv rfl (by rfl) ?_)))
  rintro k ⟨hk, hs⟩
  by_cases hlt : k < 7
  · obtain ⟨v, hv7, hrow⟩ := vals7_at x hlt
    have hle : 0 + k * 2 + 2 ≤ 14 := by omega
    cases hb : sizeOk v
    · have hv := styleOk_size hv7 hb
      repeat (first | refine SX.seq ?_ | refine SXl.nil ?_ | refine SX.region ?_ | refine SQ.thenNormal ?_ | refine SX.block ?_ | refine SX.skip ?_ | refine SX.condT rfl ?_ | (refine l_load ?_; (first | refine SXl.v (OpW.loadRow (cells := [.int .i64 x.basis.kind, .int .i64 x.basis.n, .int .i64 x.width.kind, .int .i64 x.width.n, .int .i64 x.height.kind, .int .i64 x.height.n, .int .i64 x.minWidth.kind, .int .i64 x.minWidth.n, .int .i64 x.minHeight.kind, .int .i64 x.minHeight.n, .int .i64 x.maxWidth.kind, .int .i64 x.maxWidth.n, .int .i64 x.maxHeight.kind, .int .i64 x.maxHeight.n]) 0 rfl rfl (Nat.ble_eq_true_of_le hle) hrow) rfl ?_ ?_ ?_ | refine SXl.v (OpW.loadAll 0 rfl rfl rfl) rfl ?_ ?_ ?_); rfl; rfl) | (refine l_call ?_; (refine SXl.v (OpW.call rfl (fun w hl => sizeOk_any _ _)) rfl ?_ ?_ ?_); rfl; rfl) | (refine l_assign ?_; (refine SXl.v (OpW.assign rfl) rfl ?_ ?_ ?_); rfl; rfl) | (refine l_lss ?_; (refine SXl.v (OpW.lssT rfl rfl (by omega)) rfl ?_ ?_ ?_); rfl; rfl) | (refine l_not ?_; (refine SXl.v (OpW.not rfl) rfl ?_ ?_ ?_); rfl; rfl) | (refine l_indexAddr ?_; (refine SXl.v (OpW.indexAddr (by omega) rfl rfl) rfl ?_ ?_ ?_); rfl; rfl) | (refine l_alloc ?_; refine SXl.alloc ?_ ?_ (fun g => ?_); rfl; rfl) | (refine l_store ?_; first | (refine SXl.storeAll 0 ?_ rfl rfl rfl rfl rfl rfl rfl ?_; rfl; simp only [List.set_cons_zero, List.set_cons_succ]) | (refine SXl.storeAll 1 ?_ rfl rfl rfl rfl rfl rfl rfl ?_; rfl; simp only [List.set_cons_zero, List.set_cons_succ]) | (refine SXl.storeAll 2 ?_ rfl rfl rfl rfl rfl rfl rfl ?_; rfl; simp only [List.set_cons_zero, List.set_cons_succ]) | (refine SXl.storeRow 0 ?_ rfl rfl rfl rfl rfl rfl rfl ?_; rfl; simp only [over, List.set_cons_zero, List.set_cons_succ]) | (refine SXl.storeRow 1 ?_ rfl rfl rfl rfl rfl rfl rfl ?_; rfl; simp only [over, List.set_cons_zero, List.set_cons_succ]) | (refine SXl.storeRow 2 ?_ rfl rfl rfl rfl rfl rfl rfl ?_; rfl; simp only [over, List.set_cons_zero, List.set_cons_succ])) | (rw [hb]) | refine SX.ret ?_ | refine SQ.thenRet ?_ | refine SQ.blockRet ?_)
      refine SQ.body1 rfl rfl (fun w' hl => ⟨ret_bool hv.symm, hl.mod⟩)
    · repeat (first | refine SX.seq ?_ | refine SXl.nil ?_ | refine SX.region ?_ | refine SQ.thenNormal ?_ | refine SX.block ?_ | refine SX.skip ?_ | refine SX.condT rfl ?_ | refine SX.condF rfl ?_ | (refine l_load ?_; (first | refine SXl.v (OpW.loadRow (cells := [.int .i64 x.basis.kind, .int .i64 x.basis.n, .int .i64 x.width.kind, .int .i64 x.width.n, .int .i64 x.height.kind, .int .i64 x.height.n, .int .i64 x.minWidth.kind, .int .i64 x.minWidth.n, .int .i64 x.minHeight.kind, .int .i64 x.minHeight.n, .int .i64 x.maxWidth.kind, .int .i64 x.maxWidth.n, .int .i64 x.maxHeight.kind, .int .i64 x.maxHeight.n]) 0 rfl rfl (Nat.ble_eq_true_of_le hle) hrow) rfl ?_ ?_ ?_ | refine SXl.v (OpW.loadAll 0 rfl rfl rfl) rfl ?_ ?_ ?_); rfl; rfl) | (refine l_call ?_; (refine SXl.v (OpW.call rfl (fun w hl => sizeOk_any _ _)) rfl ?_ ?_ ?_); rfl; rfl) | (refine l_move ?_; (refine SXl.v (OpW.move rfl) rfl ?_ ?_ ?_); rfl; rfl) | (refine l_add ?_; (refine SXl.v (OpW.succ rfl rfl (by omega)) rfl ?_ ?_ ?_); rfl; rfl) | (refine l_lss ?_; (refine SXl.v (OpW.lssT rfl rfl (by omega)) rfl ?_ ?_ ?_); rfl; rfl) | (refine l_not ?_; (refine SXl.v (OpW.not rfl) rfl ?_ ?_ ?_); rfl; rfl) | (refine l_indexAddr ?_; (refine SXl.v (OpW.indexAddr (by omega) rfl rfl) rfl ?_ ?_ ?_); rfl; rfl) | (refine l_alloc ?_; refine SXl.alloc ?_ ?_ (fun g => ?_); rfl; rfl) | (refine l_store ?_; first | (refine SXl.storeAll 0 ?_ rfl rfl rfl rfl rfl rfl rfl ?_; rfl; simp only [List.set_cons_zero, List.set_cons_succ]) | (refine SXl.storeAll 1 ?_ rfl rfl rfl rfl rfl rfl rfl ?_; rfl; simp only [List.set_cons_zero, List.set_cons_succ]) | (refine SXl.storeAll 2 ?_ rfl rfl rfl rfl rfl rfl rfl ?_; rfl; simp only [List.set_cons_zero, List.set_cons_succ]) | (refine SXl.storeRow 0 ?_ rfl rfl rfl rfl rfl rfl rfl ?_; rfl; simp only [over, List.set_cons_zero, List.set_cons_succ]) | (refine SXl.storeRow 1 ?_ rfl rfl rfl rfl rfl rfl rfl ?_; rfl; simp only [over, List.set_cons_zero, List.set_cons_succ]) | (refine SXl.storeRow 2 ?_ rfl rfl rfl rfl rfl rfl rfl ?_; rfl; simp only [over, List.set_cons_zero, List.set_cons_succ])) | (rw [hb]) | refine SQ.blockNormal ?_)
      refine SQ.roundi (k + 1) ⟨by omega, vto_succ hs hv7 hb⟩ (by omega) ?_ (fun _ hl => hl.drop1)
      (repeat (first | exact subF_nil _ | (refine subF_cons rfl ?_) | (refine subF_consv rfl (by rfl) ?_)))
  have hk7 : k = 7 := by omega
  subst hk7
  have hall := vals7_all hs
  cases p0 : sidesOk x.margin
  · have hv : styleOk x = false := by simp [styleOk, p0]
    repeat (first | refine SX.seq ?_ | refine SXl.nil ?_ | refine SX.region ?_ | refine SQ.thenNormal ?_ | refine SX.condF rfl ?_ | (refine SXl.no rfl rfl rfl ?_) | (refine l_call ?_; (refine SXl.v (OpW.call rfl (fun w hl => sidesOk_any _ _)) rfl ?_ ?_ ?_); rfl; rfl) | (refine l_load ?_; (refine SXl.v (OpW.loadRow 1 rfl rfl rfl rfl) rfl ?_ ?_ ?_); rfl; rfl) | (refine l_fieldAddr ?_; (refine SXl.v (OpW.fieldAddr rfl) rfl ?_ ?_ ?_); rfl; rfl) | (refine l_move ?_; (refine SXl.v (OpW.move rfl) rfl ?_ ?_ ?_); rfl; rfl) | (refine l_assign ?_; (refine SXl.v (OpW.assign rfl) rfl ?_ ?_ ?_); rfl; rfl) | (refine l_lss ?_; (refine SXl.v (OpW.lssF rfl rfl (by omega)) rfl ?_ ?_ ?_); rfl; rfl) | (refine l_pick ?_; (refine SXl.v (OpW.pick rfl rfl rfl) rfl ?_ ?_ ?_); rfl; rfl) | ((rw [p0])) | refine SX.ret ?_ | refine SX.exit ?_ | refine SQ.thenExit ?_ | refine SQ.blockExit ?_)
    refine SQ.body1 rfl rfl (fun w' hl => ⟨ret_bool hv.symm, hl.mod⟩)
  cases p1 : sidesOk x.inset
  · have hv : styleOk x = false := by simp [styleOk, p1]
    repeat (first | refine SX.seq ?_ | refine SXl.nil ?_ | refine SX.region ?_ | refine SQ.thenNormal ?_ | refine SX.condF rfl ?_ | (refine SXl.no rfl rfl rfl ?_) | (refine l_call ?_; (refine SXl.v (OpW.call rfl (fun w hl => sidesOk_any _ _)) rfl ?_ ?_ ?_); rfl; rfl) | (refine l_load ?_; (refine SXl.v (OpW.loadRow 1 rfl rfl rfl rfl) rfl ?_ ?_ ?_); rfl; rfl) | (refine l_fieldAddr ?_; (refine SXl.v (OpW.fieldAddr rfl) rfl ?_ ?_ ?_); rfl; rfl) | (refine l_move ?_; (refine SXl.v (OpW.move rfl) rfl ?_ ?_ ?_); rfl; rfl) | (refine l_assign ?_; (refine SXl.v (OpW.assign rfl) rfl ?_ ?_ ?_); rfl; rfl) | (refine l_lss ?_; (refine SXl.v (OpW.lssF rfl rfl (by omega)) rfl ?_ ?_ ?_); rfl; rfl) | (refine l_pick ?_; (refine SXl.v (OpW.pick rfl rfl rfl) rfl ?_ ?_ ?_); rfl; rfl) | ((first | rw [p0] | rw [p1])) | refine SX.ret ?_ | refine SX.exit ?_ | refine SQ.thenExit ?_ | refine SQ.blockExit ?_)
    refine SQ.body1 rfl rfl (fun w' hl => ⟨ret_bool hv.symm, hl.mod⟩)
  cases p2 : edgesOk x.pad
  · have hv : styleOk x = false := by simp [styleOk, p2]
    repeat (first | refine SX.seq ?_ | refine SXl.nil ?_ | refine SX.region ?_ | refine SQ.thenNormal ?_ | refine SX.condF rfl ?_ | (refine SXl.no rfl rfl rfl ?_) | (refine l_call ?_; (first | refine SXl.v (OpW.call rfl (fun w hl => sidesOk_any _ _)) rfl ?_ ?_ ?_ | refine SXl.v (OpW.call rfl (fun w hl => edgesOk_any _ _)) rfl ?_ ?_ ?_); rfl; rfl) | (refine l_load ?_; (refine SXl.v (OpW.loadRow 1 rfl rfl rfl rfl) rfl ?_ ?_ ?_); rfl; rfl) | (refine l_fieldAddr ?_; (refine SXl.v (OpW.fieldAddr rfl) rfl ?_ ?_ ?_); rfl; rfl) | (refine l_move ?_; (refine SXl.v (OpW.move rfl) rfl ?_ ?_ ?_); rfl; rfl) | (refine l_assign ?_; (refine SXl.v (OpW.assign rfl) rfl ?_ ?_ ?_); rfl; rfl) | (refine l_lss ?_; (refine SXl.v (OpW.lssF rfl rfl (by omega)) rfl ?_ ?_ ?_); rfl; rfl) | (refine l_pick ?_; (refine SXl.v (OpW.pick rfl rfl rfl) rfl ?_ ?_ ?_); rfl; rfl) | ((first | rw [p0] | rw [p1] | rw [p2])) | refine SX.ret ?_ | refine SX.exit ?_ | refine SQ.thenExit ?_ | refine SQ.blockExit ?_)
    refine SQ.body1 rfl rfl (fun w' hl => ⟨ret_bool hv.symm, hl.mod⟩)
  cases p3 : edgesOk x.border
  · have hv : styleOk x = false := by simp [styleOk, p3]
    repeat (first | refine SX.seq ?_ | refine SXl.nil ?_ | refine SX.region ?_ | refine SQ.thenNormal ?_ | refine SX.condF rfl ?_ | (refine l_call ?_; (first | refine SXl.v (OpW.call rfl (fun w hl => sidesOk_any _ _)) rfl ?_ ?_ ?_ | refine SXl.v (OpW.call rfl (fun w hl => edgesOk_any _ _)) rfl ?_ ?_ ?_); rfl; rfl) | (refine l_load ?_; (refine SXl.v (OpW.loadRow 1 rfl rfl rfl rfl) rfl ?_ ?_ ?_); rfl; rfl) | (refine l_fieldAddr ?_; (refine SXl.v (OpW.fieldAddr rfl) rfl ?_ ?_ ?_); rfl; rfl) | (refine l_move ?_; (refine SXl.v (OpW.move rfl) rfl ?_ ?_ ?_); rfl; rfl) | (refine l_assign ?_; (refine SXl.v (OpW.assign rfl) rfl ?_ ?_ ?_); rfl; rfl) | (refine l_lss ?_; (refine SXl.v (OpW.lssF rfl rfl (by omega)) rfl ?_ ?_ ?_); rfl; rfl) | (refine l_pick ?_; (refine SXl.v (OpW.pick rfl rfl rfl) rfl ?_ ?_ ?_); rfl; rfl) | ((first | rw [p0] | rw [p1] | rw [p2] | rw [p3])) | refine SX.ret ?_ | refine SX.exit ?_ | refine SQ.thenExit ?_ | refine SQ.blockExit ?_)
    refine SQ.body1 rfl rfl (fun w' hl => ⟨ret_bool hv.symm, hl.mod⟩)
  have hv : styleOk x = true := by simp [styleOk, hall, q0, q1, q2, q3, q4, q5, q6, q7, q8, q9, q10, q11, p0, p1, p2, p3]
  repeat (first | refine SX.seq ?_ | refine SXl.nil ?_ | refine SX.region ?_ | refine SQ.thenNormal ?_ | refine SX.condF rfl ?_ | (refine l_call ?_; (first | refine SXl.v (OpW.call rfl (fun w hl => sidesOk_any _ _)) rfl ?_ ?_ ?_ | refine SXl.v (OpW.call rfl (fun w hl => edgesOk_any _ _)) rfl ?_ ?_ ?_); rfl; rfl) | (refine l_load ?_; (refine SXl.v (OpW.loadRow 1 rfl rfl rfl rfl) rfl ?_ ?_ ?_); rfl; rfl) | (refine l_fieldAddr ?_; (refine SXl.v (OpW.fieldAddr rfl) rfl ?_ ?_ ?_); rfl; rfl) | (refine l_move ?_; (refine SXl.v (OpW.move rfl) rfl ?_ ?_ ?_); rfl; rfl) | (refine l_assign ?_; (refine SXl.v (OpW.assign rfl) rfl ?_ ?_ ?_); rfl; rfl) | (refine l_lss ?_; (refine SXl.v (OpW.lssF rfl rfl (by omega)) rfl ?_ ?_ ?_); rfl; rfl) | (refine l_pick ?_; (refine SXl.v (OpW.pick rfl rfl rfl) rfl ?_ ?_ ?_); rfl; rfl) | ((first | rw [p0] | rw [p1] | rw [p2] | rw [p3])) | refine SX.ret ?_ | refine SX.exit ?_ | refine SQ.thenExit ?_ | refine SQ.blockExit ?_)
  refine SQ.body1 rfl rfl (fun w' hl => ⟨ret_bool hv.symm, hl.mod⟩)

end Go.Proofs.YthffgbhphjkdeaaGreatDoor
namespace Go.Proofs.YthffgbhphjkdeaaGreatDoor
open Go.RowKit

/-- The style with the property number i set. -/
def putInt (s : Style) (i : Nat) (n : Int) : Style := if i = 6 then { s with apart := decide (n = 1) } else if i = 7 then { s with hidden := decide (n = 1) } else setInt s i n
def okS (s o : Style) : Style × Bool := if styleOk o then (o, true) else (s, false)
def setKey (s : Style) (k : List UInt8) (v : Val) : Style × Bool :=
  if valOk v then
    match idxOf intTexts k with
    | some i => if decide (v.kind = 1) && (!(decide (i = 6) || decide (i = 7)) || inB v.n 0 1) then okS s (putInt s i v.n) else (s, false)
    | none => match idxOf valueTexts k with
      | some i => okS s (setVal s i v)
      | none => (s, false)
  else (s, false)
theorem apart_idx : idxOf intTexts [97, 112, 97, 114, 116] = some 6 := by kernel_rfl
theorem hidden_idx : idxOf intTexts [104, 105, 100, 100, 101, 110] = some 7 := by kernel_rfl
theorem int_no_val {k : List UInt8} {i : Nat} (h : idxOf intTexts k = some i) : idxOf valueTexts k = none := by
  have hall : ∀ x ∈ intTexts, idxOf valueTexts x = none := by decide +kernel
  exact hall k (List.mem_of_getElem? (idxOf_at h))
section
variable {s : Style} {k : List UInt8} {v : Val} {i : Nat}
theorem setKey_bad (h : valOk v = false) : setKey s k v = (s, false) := by unfold setKey; rw [h]; rfl
theorem setKey_none (h : valOk v = true) (hi : idxOf intTexts k = none) (hv : idxOf valueTexts k = none) : setKey s k v = (s, false) := by unfold setKey; rw [h, if_pos rfl, hi]; simp only; rw [hv]
theorem setKey_val (h : valOk v = true) (hi : idxOf intTexts k = none) (hv : idxOf valueTexts k = some i) : setKey s k v = okS s (setVal s i v) := by unfold setKey; rw [h, if_pos rfl, hi]; simp only; rw [hv]
theorem setKey_kind (h : valOk v = true) (hi : idxOf intTexts k = some i) (hk : ¬ v.kind = 1) : setKey s k v = (s, false) := by unfold setKey; rw [h, if_pos rfl, hi]; simp [hk]
theorem setKey_bit (h : valOk v = true) (hi : idxOf intTexts k = some i) (hi6 : i = 6 ∨ i = 7) (hb : inB v.n 0 1 = false) : setKey s k v = (s, false) := by unfold setKey; rw [h, if_pos rfl, hi]; rcases hi6 with rfl | rfl <;> simp [hb]
theorem setKey_bits (h : valOk v = true) (hi : idxOf intTexts k = some i) (hk : v.kind = 1) (hi6 : i = 6 ∨ i = 7) (hb : inB v.n 0 1 = true) : setKey s k v = okS s (putInt s i v.n) := by unfold setKey; rw [h, if_pos rfl, hi]; rcases hi6 with rfl | rfl <;> simp [hb, hk]
theorem setKey_int (h : valOk v = true) (hi : idxOf intTexts k = some i) (hk : v.kind = 1) (h6 : i ≠ 6) (h7 : i ≠ 7) : setKey s k v = okS s (setInt s i v.n) := by
  unfold setKey
  rw [h, if_pos rfl, hi]
  simp [hk, h6, h7, putInt]
theorem okS_yes {s o : Style} (h : styleOk o = true) : okS s o = (o, true) := by unfold okS; rw [h]; rfl
theorem okS_no {s o : Style} (h : styleOk o = false) : okS s o = (s, false) := by unfold okS; rw [h]; rfl
end
/-- The cells of the newest block, told otherwise. -/
theorem SXl.cells0 {P : Program} {n : Nat} {W : World} {R : Rg W} {L : List Blk} {O : List Own} {E : List Res} {f : List (Nat × Value)} {Q : Exit → Go.Act → World → Prop} {ops : Array Oper} {rest : List Oper} {g T : Nat} {c c' : List Value} (h : c = c') (hh : SXl P n W R ops (⟨g, c', T⟩ :: L) O E f rest Q) : SXl P n W R ops (⟨g, c, T⟩ :: L) O E f rest Q := by subst h; exact hh
end Go.Proofs.YthffgbhphjkdeaaGreatDoor
namespace Go.Proofs.YthffgbhphjkdeaaGreatDoor
open Go.RowKit

set_option maxRecDepth 100000 in
theorem i64_of_all {s : Style} (h : AllOk s.cells) : s.i64 := by
  refine ⟨fun n hn => ?_, fun v hv => ?_⟩
  · simp only [styleInts, List.mem_cons, List.not_mem_nil, or_false] at hn
    rcases hn with rfl | rfl | rfl | rfl | rfl | rfl | rfl | rfl | rfl | rfl | rfl | rfl | rfl | rfl | rfl | rfl | rfl | rfl | rfl | rfl | rfl | rfl <;> first | exact bit_i64 _ | exact h _ (by simp [Style.cells, Sides.cells, Val.cells, Edges.cells]) _ rfl
  · simp only [styleVals, List.mem_cons, List.not_mem_nil, or_false] at hv
    rcases hv with rfl | rfl | rfl | rfl | rfl | rfl | rfl | rfl | rfl | rfl | rfl | rfl | rfl | rfl | rfl | rfl | rfl | rfl | rfl <;> exact h _ (by simp [Style.cells, Sides.cells, Val.cells, Edges.cells]) _ rfl
end Go.Proofs.YthffgbhphjkdeaaGreatDoor
namespace Go.Proofs.YthffgbhphjkdeaaGreatDoor
open Go.RowKit

/-- The style o with the key k taken from x. -/
def putKey (x o : Style) (k : List UInt8) : Style := match idxOf intTexts k with
  | some i => putInt o i ((styleInts x).getD i 0)
  | none => match idxOf valueTexts k with
    | some i => setVal o i ((styleVals x).getD i ⟨0, 0⟩)
    | none => o
theorem inB_iff {n a b : Int} : inB n a b = true ↔ a ≤ n ∧ n ≤ b := by simp [inB]
theorem valOk_int {n : Int} (h0 : -1048576 ≤ n) (h1 : n ≤ 1048576) : valOk ⟨1, n⟩ = true := by
  simp [valOk, inB, h0, h1]
set_option maxRecDepth 100000 in
theorem putInt_ok {x o : Style} {i : Nat} (hi : i < 22) (hx : styleOk x = true) (ho : styleOk o = true) : styleOk (putInt o i ((styleInts x).getD i 0)) = true ∧ valOk ⟨1, (styleInts x).getD i 0⟩ = true ∧ ((i = 6 ∨ i = 7) → inB ((styleInts x).getD i 0) 0 1 = true) := by
  have hb6 : valOk ⟨1, bitOf x.apart⟩ = true ∧ inB (bitOf x.apart) 0 1 = true := by cases x.apart <;> decide
  have hb7 : valOk ⟨1, bitOf x.hidden⟩ = true ∧ inB (bitOf x.hidden) 0 1 = true := by cases x.hidden <;> decide
  simp only [styleOk, edgesOk, Bool.and_eq_true] at hx ho
  match i, hi with
  | 0, _ | 1, _ | 2, _ | 3, _ | 4, _ | 5, _ | 8, _ | 9, _ | 10, _ | 11, _ | 12, _ | 13, _ | 14, _ | 15, _ | 16, _ | 17, _ | 18, _ | 19, _ | 20, _ | 21, _ =>
    refine ⟨?_, ?_, fun h => by omega⟩
    · simp only [putInt, setInt, styleOk, edgesOk, Bool.and_eq_true, styleInts]
      simp [ho, hx]
    · refine valOk_int ?_ ?_ <;> (simp only [inB_iff] at hx; simp only [styleInts, List.getD_cons_zero, List.getD_cons_succ]; omega)
  | 6, _ => exact ⟨by simp only [putInt, styleOk, edgesOk, Bool.and_eq_true]; simp [ho], hb6.1, fun _ => hb6.2⟩
  | 7, _ => exact ⟨by simp only [putInt, styleOk, edgesOk, Bool.and_eq_true]; simp [ho], hb7.1, fun _ => hb7.2⟩
  | k + 22, h => omega
set_option maxRecDepth 100000 in
theorem setVal_ok {x o : Style} {i : Nat} (hi : i < 19) (hx : styleOk x = true) (ho : styleOk o = true) : styleOk (setVal o i ((styleVals x).getD i ⟨0, 0⟩)) = true ∧ valOk ((styleVals x).getD i ⟨0, 0⟩) = true := by
  simp only [styleOk, sizeOk, sidesOk, Bool.and_eq_true] at hx ho
  match i, hi with
  | 0, _ | 1, _ | 2, _ | 3, _ | 4, _ | 5, _ | 6, _ | 7, _ | 8, _ | 9, _ | 10, _ | 11, _ | 12, _ | 13, _ | 14, _ | 15, _ | 16, _ | 17, _ | 18, _ =>
    refine ⟨?_, ?_⟩
    · simp only [setVal, styleOk, sizeOk, sidesOk, Bool.and_eq_true, styleVals, List.getD_cons_zero, List.getD_cons_succ]
      simp [ho, hx]
    · simp only [styleVals, List.getD_cons_zero, List.getD_cons_succ]
      simp [hx]
  | k + 19, h => omega
theorem putKey_ok {x o : Style} {k : List UInt8} (hk : (keyOf x k).2 = true) (hx : styleOk x = true) (ho : styleOk o = true) : setKey o k (keyOf x k).1 = (putKey x o k, true) ∧ styleOk (putKey x o k) = true ∧ valOk (keyOf x k).1 = true := by
  unfold keyOf at hk ⊢
  unfold putKey
  cases hi : idxOf intTexts k with
  | some i =>
    obtain ⟨h1, h2, h3⟩ := putInt_ok (x := x) (o := o) (idxOf_lt hi) hx ho
    simp only
    refine ⟨?_, h1, h2⟩
    unfold setKey
    rw [h2, if_pos rfl, hi]
    simp only
    have hc : (decide True && (!(decide (i = 6) || decide (i = 7)) || inB ((styleInts x).getD i 0) 0 1)) = true := by
      by_cases h67 : i = 6 ∨ i = 7
      · rw [h3 h67]; simp
      · simp only [not_or] at h67; simp [h67.1, h67.2]
    rw [if_pos hc, okS_yes h1]
  | none =>
    rw [hi] at hk
    simp only at hk ⊢
    cases hv : idxOf valueTexts k with
    | some i =>
      obtain ⟨h1, h2⟩ := setVal_ok (x := x) (o := o) (idxOf_lt hv) hx ho
      simp only
      refine ⟨?_, h1, h2⟩
      rw [setKey_val h2 hi hv, okS_yes h1]
    | none => rw [hv] at hk; cases hk
set_option maxRecDepth 100000 in
theorem putAll (x : Style) : keyTexts.foldl (putKey x) newStyle = x := by
  obtain ⟨dir, wrap, justify, items, self, content, apart, hidden, order, grow, shrink⟩ := x
  cases apart <;> cases hidden <;> kernel_rfl
end Go.Proofs.YthffgbhphjkdeaaGreatDoor
namespace Go.Proofs.YthffgbhphjkdeaaGreatDoor
open Go.RowKit

def readDec (t : List UInt8) : Int × Bool := match Lib.decNat t with
  | some n => if t.length ≤ 10 ∧ n ≤ 1000000000 ∧ Lib.itoa (n : Int) = t then ((n : Int), true) else (0, false)
  | none => (0, false)
theorem itoa_nat (n : Nat) : Lib.itoa (n : Int) = Lib.decDigits n := by rw [itoa_pos (by omega)]; congr 1
theorem decDigits_ne (u : Nat) : Lib.decDigits u ≠ [] := by
  rw [Lib.decDigits]
  split <;> simp
theorem decFrom_snoc {l : List UInt8} {acc n d : Nat} {b : UInt8} (h : Lib.decFrom acc l = some n) (hd : Lib.digitVal b = some d) : Lib.decFrom acc (l ++ [b]) = some (n * 10 + d) := by
  have h1 := Lib.decFrom_take (l ++ [b]) l.length acc n b d (by simpa using h) (by simp) hd
  rw [List.take_of_length_le (by simp)] at h1
  exact h1
theorem digit_ofNat {d : Nat} (h : d < 10) : Lib.digitVal (UInt8.ofNat (48 + d)) = some d := by
  have e : (UInt8.ofNat (48 + d)).toNat = 48 + d := by
    rw [UInt8.toNat_ofNat']
    omega
  unfold Lib.digitVal
  rw [e, if_pos ⟨by omega, by omega⟩]
  congr 1
  omega
theorem decFrom_digits (u : Nat) : Lib.decFrom 0 (Lib.decDigits u) = some u := by
  induction u using Nat.strongRecOn with
  | _ u ih =>
    rw [Lib.decDigits]
    split
    · rename_i h
      have := decFrom_snoc (l := []) (acc := 0) (n := 0) rfl (digit_ofNat h)
      simpa using this
    · rename_i h
      have h1 := ih (u / 10) (by omega)
      have := decFrom_snoc h1 (digit_ofNat (show u % 10 < 10 by omega))
      rw [this]
      congr 1
      omega
theorem decNat_digits (u : Nat) : Lib.decNat (Lib.decDigits u) = some u := by
  unfold Lib.decNat
  rw [if_neg (by simpa using decDigits_ne u)]
  exact decFrom_digits u
/-- What is read is read back. -/
theorem readDec_true {t : List UInt8} {n : Int} (h : readDec t = (n, true)) : ∃ m : Nat, n = (m : Int) ∧ m ≤ 1000000000 ∧ Lib.decDigits m = t ∧ t.length ≤ 10 := by
  unfold readDec at h
  split at h
  · rename_i m hm
    split at h
    · rename_i hc
      simp only [Prod.mk.injEq, and_true] at h
      exact ⟨m, h.symm, hc.2.1, by rw [← itoa_nat]; exact hc.2.2, hc.1⟩
    · simp at h
  · simp at h
theorem readDec_of {t : List UInt8} {m : Nat} (h : Lib.decDigits m = t) (hl : t.length ≤ 10) (hm : m ≤ 1000000000) : readDec t = ((m : Int), true) := by
  subst h
  unfold readDec
  rw [decNat_digits]
  simp only
  rw [if_pos ⟨hl, hm, itoa_nat m⟩]
theorem readDec_false {t : List UInt8} (h : ∀ m : Nat, m ≤ 1000000000 → Lib.decDigits m = t → t.length ≤ 10 → False) : readDec t = (0, false) := by
  unfold readDec
  split
  · rename_i m hm
    rw [if_neg fun hc => h m hc.2.1 (by rw [← itoa_nat]; exact hc.2.2) hc.1]
  · rfl
theorem readDec_cases (t : List UInt8) : readDec t = (0, false) ∨ ∃ m : Nat, readDec t = ((m : Int), true) ∧ m ≤ 1000000000 ∧ Lib.decDigits m = t ∧ t.length ≤ 10 := by
  by_cases h : (readDec t).2 = true
  · obtain ⟨m, h1, h2, h3, h4⟩ := readDec_true (n := (readDec t).1) (t := t) (by rw [← h])
    exact .inr ⟨m, by rw [← h1, ← h], h2, h3, h4⟩
  · left
    refine readDec_false fun m hm hd hl => h ?_
    rw [readDec_of hd hl hm]
/-- The first byte of a numeral is a digit. -/
theorem digits_head (m : Nat) {b : UInt8} {r : List UInt8} (h : Lib.decDigits m = b :: r) : 48 ≤ b.toNat ∧ b.toNat ≤ 57 := by
  obtain ⟨d, hd⟩ := Lib.digit_of_decFrom _ 0 m (decFrom_digits m) 0 b (by rw [h]; rfl)
  unfold Lib.digitVal at hd
  split at hd
  · assumption
  · cases hd
theorem atoi_digits (m : Nat) : Lib.atoi (Lib.decDigits m) = some (m : Int) := by
  have hn := decNat_digits m
  cases h : Lib.decDigits m with
  | nil => exact (decDigits_ne m h).elim
  | cons b r =>
    have hb := digits_head m h
    rw [h] at hn
    unfold Lib.atoi
    have e1 : (b == 45) = false := by
      rw [beq_eq_false_iff_ne]; rintro rfl; revert hb; decide
    have e2 : (b == 43) = false := by
      rw [beq_eq_false_iff_ne]; rintro rfl; revert hb; decide
    simp [e1, e2, hn]

/-- A number, also below 0. -/
def readInt (t : List UInt8) : Int × Bool := if 1 < t.length ∧ t[0]? = some 45 then (-(readDec (t.drop 1)).1, (readDec (t.drop 1)).2 && decide (0 < (readDec (t.drop 1)).1)) else readDec t
end Go.Proofs.YthffgbhphjkdeaaGreatDoor
