/-
  PROVED: a node of a tree as a plain structure, its cells in memory; the exact laws' copy, comparison and count of one node. Condition: a bound on the lengths.
-/
import Derived.Test.YtcolkidnjojlmaaStyle
import Derived.Test.YtcolkidnjojlmaaStyleRow
import Derived.Test.YtcolkidnjojlmaaStyleEq
import Derived.Test.YtcolkidnjojlmaaActCodec
import Derived.Test.YtcolkidnjojlmaaTableS
import Derived.Test.YtcolkidnjojlmaaIntS
import Derived.Test.YtcolkidnjojlmaaRow
namespace Go.Proofs.Ytcolkidnjojlmaa
open Go.RowKit

structure Node where
  up : Int
  kids : List Int
  style : Style
  measured : Bool
  rules : List Rule
  deriving DecidableEq, Inhabited
/-- A node's cells: two slices among them. -/
def nodeRow (up : Int) (k : Option Addr) (n c : Nat) (s : Style) (m : Bool) (t : Option Addr) (n' c' : Nat) : List Value := [.int .i64 up, .slice k n c] ++ s.cells ++ [.bool m, .slice t n' c']

section
variable (up : Int) (k : Option Addr) (n c : Nat) (s : Style) (m : Bool) (t : Option Addr) (n' c' : Nat)
theorem nodeRow_len : (nodeRow up k n c s m t n' c').length = 64 := rfl
theorem nodeRow_ones : (nodeRow up k n c s m t n' c').toArray.all (·.oneCell') = true := by simp [nodeRow, Style.cells, Value.oneCell']
@[go_sem] theorem nodeRow_0 : (nodeRow up k n c s m t n' c')[0]? = some (.int .i64 up) := rfl
@[go_sem] theorem nodeRow_1 : (nodeRow up k n c s m t n' c')[1]? = some (.slice k n c) := rfl
@[go_sem] theorem nodeRow_62 : (nodeRow up k n c s m t n' c')[62]? = some (.bool m) := rfl
@[go_sem] theorem nodeRow_63 : (nodeRow up k n c s m t n' c')[63]? = some (.slice t n' c') := rfl
@[go_sem] theorem nodeRow_a0 : (nodeRow up k n c s m t n' c').toArray[0]? = some (.int .i64 up) := rfl
@[go_sem] theorem nodeRow_a1 : (nodeRow up k n c s m t n' c').toArray[1]? = some (.slice k n c) := rfl
@[go_sem] theorem nodeRow_a62 : (nodeRow up k n c s m t n' c').toArray[62]? = some (.bool m) := rfl
@[go_sem] theorem nodeRow_a63 : (nodeRow up k n c s m t n' c').toArray[63]? = some (.slice t n' c') := rfl
@[go_sem] theorem nodeRow_set0 (v : Int) : (nodeRow up k n c s m t n' c').set 0 (.int .i64 v) = nodeRow v k n c s m t n' c' := rfl
@[go_sem] theorem nodeRow_set1 (a : Option Addr) (p q : Nat) : (nodeRow up k n c s m t n' c').set 1 (.slice a p q) = nodeRow up a p q s m t n' c' := rfl
@[go_sem] theorem nodeRow_set62 (b : Bool) : (nodeRow up k n c s m t n' c').set 62 (.bool b) = nodeRow up k n c s b t n' c' := rfl
@[go_sem] theorem nodeRow_set63 (a : Option Addr) (p q : Nat) : (nodeRow up k n c s m t n' c').set 63 (.slice a p q) = nodeRow up k n c s m a p q := rfl
theorem nodeRow_style : ((nodeRow up k n c s m t n' c').drop 2).take 60 = s.cells := rfl
end

/-- A list written over an array from a place on. -/
theorem nodeRow_put {w : World} {b T : Nat} {up : Int} {k : Option Addr} {n c : Nat} {s s' : Style} {m : Bool} {t : Option Addr} {n' c' : Nat} (h : w.heap[b]? = some (.cells (nodeRow up k n c s m t n' c').toArray T (0, 0))) :
    (w.setCells b 2 s'.cells).heap[b]? = some (.cells (nodeRow up k n c s' m t n' c').toArray T (0, 0)) := by
  rw [setCells_heap b _ 2 w _ T (0, 0) h]
  have e := spl_mid [.int .i64 up, .slice k n c] s.cells [.bool m, .slice t n' c'] s'.cells (by rw [Style.len, Style.len])
  unfold nodeRow
  rw [← e]
  rfl
/-- A part of a block that is known whole. -/

@[go_sem] theorem cell_style_apart (w : World) (b o j : Nat) (s : Style) (h : o + 60 ≤ j) : (w.setCells b o s.cells).cell? ⟨b, j, none⟩ = w.cell? ⟨b, j, none⟩ := cell_setCells_apart b o j _ (.inr (by rw [Style.len]; exact h))

/-- Whole loads and stores of nodes and styles, as the walk meets them. -/
@[go_sem ↓] theorem exec_load_lNode (ρ : Operand → Value) (d : Option Tmp) (x : Operand) (ty : TypeId) (pos : String) (af : Array Edge) (g : Option (Nat × Bool)) (w : World) :
    (execOp ρ { dst := d, op := .load 185 x, type := ty, pos, after := af, guard := g }).run Try.prog w = LoadS Try.prog 185 (ρ x) w := rfl
@[go_sem ↓] theorem exec_load_iNode (ρ : Operand → Value) (d : Option Tmp) (x : Operand) (ty : TypeId) (pos : String) (af : Array Edge) (g : Option (Nat × Bool)) (w : World) :
    (execOp ρ { dst := d, op := .load 137 x, type := ty, pos, after := af, guard := g }).run Try.prog w = LoadS Try.prog 137 (ρ x) w := rfl
@[go_sem ↓] theorem exec_store_iNode (ρ : Operand → Value) (d : Option Tmp) (x y : Operand) (ty : TypeId) (pos : String) (af : Array Edge) (g : Option (Nat × Bool)) (w : World) :
    (execOp ρ { dst := d, op := .store 137 x y, type := ty, pos, after := af, guard := g }).run Try.prog w = StoreS Try.prog 137 (ρ x) (ρ y) w := rfl
@[go_sem] theorem LoadS_lNode {w : World} {b o : Nat} (h : hasRow w b o 64 = true) : LoadS Try.prog 185 (.pointer (some ⟨b, o, none⟩)) w = .ok (.value (.agg (rowOf w b o 64))) w := LoadS_row Try.underlying185 rfl (by kernel_rfl) h
@[go_sem] theorem LoadS_iNode {w : World} {b o : Nat} (h : hasRow w b o 64 = true) : LoadS Try.prog 137 (.pointer (some ⟨b, o, none⟩)) w = .ok (.value (.agg (rowOf w b o 64))) w := LoadS_row Try.underlying137 rfl (by kernel_rfl) h
@[go_sem] theorem StoreS_iNode {w : World} {b o : Nat} {up : Int} {k : Option Addr} {n c : Nat} {s : Style} {m : Bool} {t : Option Addr} {n' c' : Nat} (h : hasRow w b o 64 = true) (hz : openRow w b = true) :
    StoreS Try.prog 137 (.pointer (some ⟨b, o, none⟩)) (.agg (nodeRow up k n c s m t n' c').toArray) w = .ok .skip (w.setCells b o (nodeRow up k n c s m t n' c')) := StoreS_row (by kernel_rfl) h hz rfl (nodeRow_ones _ _ _ _ _ _ _ _ _)

theorem toStyle_row (x : Style) (w : World) : Calls Try.prog 166 #[.agg x.cells.toArray] w fun e w' => e = .returned (.agg x.cells.toArray) ∧ Mod (fun _ => False) w w' := toStyle_any x w
theorem eqStyle_row (x : Style) (w : World) : Calls Try.prog 172 #[.agg x.cells.toArray, .agg x.cells.toArray] w fun e w' => e = .returned (.bool true) ∧ Mod (fun _ => False) w w' := eqStyle_same x w
/-- A type's zero value, as a walk asks it. -/
theorem zero_as {P : Program} {t : TypeId} {v : Value} {n : Nat} (h : (P.info? t).map (fun i => (i.zero, i.size)) = some (some v, n)) (w : World) : (zeroValue t).run P w = .ok v w := by
  cases hq : P.info? t with
  | none => simp [hq] at h
  | some i =>
    simp [hq] at h
    simp [zeroValue, typeInfo, hq, h.1]
def Style.zero : Style := default
theorem zero_node : (Try.prog.info? 137).map (fun i => (i.zero, i.size)) = some (some (.agg (nodeRow 0 none 0 0 Style.zero false none 0 0).toArray), 64) := by kernel_rfl

end Go.Proofs.Ytcolkidnjojlmaa
