/-
  PROVED: a style's cells as one row: how the walks load and store it whole. No condition.
-/
import Derived.Test.YthffgbhphjkdeaaDoorStyleT
import Derived.Test.YthffgbhphjkdeaaDoorRow
import Derived.Test.YthffgbhphjkdeaaDoorChecked
namespace Go.Proofs.YthffgbhphjkdeaaDoor
open Go.RowKit

theorem Style.len (s : Style) : s.cells.length = 60 := rfl
theorem Style.ones (s : Style) : s.cells.toArray.all (·.oneCell') = true := by simp [Style.cells, Value.oneCell']
@[go_sem] theorem Style.set54 (s : Style) (v : Int) : s.cells.set 54 (.int .i64 v) = Style.cells { s with border := { s.border with left := v } } := rfl
@[go_sem] theorem Style.set55 (s : Style) (v : Int) : s.cells.set 55 (.int .i64 v) = Style.cells { s with border := { s.border with top := v } } := rfl
@[go_sem] theorem Style.set56 (s : Style) (v : Int) : s.cells.set 56 (.int .i64 v) = Style.cells { s with border := { s.border with right := v } } := rfl
@[go_sem] theorem Style.set57 (s : Style) (v : Int) : s.cells.set 57 (.int .i64 v) = Style.cells { s with border := { s.border with bottom := v } } := rfl
@[go_sem] theorem Style.set58 (s : Style) (v : Int) : s.cells.set 58 (.int .i64 v) = Style.cells { s with rowGap := v } := rfl
@[go_sem] theorem Style.set59 (s : Style) (v : Int) : s.cells.set 59 (.int .i64 v) = Style.cells { s with colGap := v } := rfl
theorem spl_mid (a x b y : List Value) (h : x.length = y.length) : spl (a ++ x ++ b).toArray a.length y = (a ++ y ++ b).toArray := by
  induction y generalizing a x with
  | nil =>
    cases x with
    | nil => rfl
    | cons v x => simp at h
  | cons u y ih =>
    cases x with
    | nil => simp at h
    | cons v x =>
      simp only [List.length_cons, Nat.add_right_cancel_iff] at h
      have e : (a ++ (v :: x) ++ b).toArray.setIfInBounds a.length u = ((a ++ [u]) ++ x ++ b).toArray := by simp
      have h1 := ih (a ++ [u]) x h
      rw [spl_cons, e]
      simpa using h1
theorem row_blk {w : World} {b : Nat} {l : List Value} {T : TypeId} (h : w.heap[b]? = some (.cells l.toArray T (0, 0))) (o n : Nat) (hn : o + n ≤ l.length) :
    hasRow w b o n = true ∧ rowOf w b o n = ((l.drop o).take n).toArray ∧ openRow w b = true := by
  refine ⟨by simp [hasRow, h, hn], ?_, by simp [openRow, h]⟩
  unfold rowOf
  rw [h]
  simp
@[go_sem ↓] theorem exec_load_lStyle (ρ : Operand → Value) (d : Option Tmp) (x : Operand) (ty : TypeId) (pos : String) (af : Array Edge) (g : Option (Nat × Bool)) (w : World) :
    (execOp ρ { dst := d, op := .load 29 x, type := ty, pos, after := af, guard := g }).run Tryd.prog w = LoadS Tryd.prog 29 (ρ x) w := rfl
@[go_sem ↓] theorem exec_load_iStyle (ρ : Operand → Value) (d : Option Tmp) (x : Operand) (ty : TypeId) (pos : String) (af : Array Edge) (g : Option (Nat × Bool)) (w : World) :
    (execOp ρ { dst := d, op := .load 37 x, type := ty, pos, after := af, guard := g }).run Tryd.prog w = LoadS Tryd.prog 37 (ρ x) w := rfl
@[go_sem ↓] theorem exec_store_iStyle (ρ : Operand → Value) (d : Option Tmp) (x y : Operand) (ty : TypeId) (pos : String) (af : Array Edge) (g : Option (Nat × Bool)) (w : World) :
    (execOp ρ { dst := d, op := .store 37 x y, type := ty, pos, after := af, guard := g }).run Tryd.prog w = StoreS Tryd.prog 37 (ρ x) (ρ y) w := rfl
@[go_sem] theorem LoadS_lStyle {w : World} {b o : Nat} (h : hasRow w b o 60 = true) : LoadS Tryd.prog 29 (.pointer (some ⟨b, o, none⟩)) w = .ok (.value (.agg (rowOf w b o 60))) w := LoadS_row Tryd.underlying29 rfl (by kernel_rfl) h
@[go_sem] theorem LoadS_iStyle {w : World} {b o : Nat} (h : hasRow w b o 60 = true) : LoadS Tryd.prog 37 (.pointer (some ⟨b, o, none⟩)) w = .ok (.value (.agg (rowOf w b o 60))) w := LoadS_row Tryd.underlying37 rfl (by kernel_rfl) h
@[go_sem] theorem StoreS_iStyle {w : World} {b o : Nat} {s : Style} (h : hasRow w b o 60 = true) (hz : openRow w b = true) : StoreS Tryd.prog 37 (.pointer (some ⟨b, o, none⟩)) (.agg s.cells.toArray) w = .ok .skip (w.setCells b o s.cells) := StoreS_row (by kernel_rfl) h hz rfl (Style.ones s)

end Go.Proofs.YthffgbhphjkdeaaDoor
