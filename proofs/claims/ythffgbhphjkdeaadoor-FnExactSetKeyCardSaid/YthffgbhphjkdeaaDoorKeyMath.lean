/-
  PROVED: what KeyOf and SetKey give, in plain words: a style's properties by their keys. No condition, no program in sight.
-/
import Derived.Test.YthffgbhphjkdeaaDoorKeyT
import Derived.Test.YthffgbhphjkdeaaDoorStyleT
namespace Go.Proofs.YthffgbhphjkdeaaDoor

def bitOf (b : Bool) : Int := if b then 1 else 0
def ioffs : List Nat := [0, 1, 2, 3, 4, 5, 6, 7, 8, 9, 10, 25, 58, 59, 50, 51, 52, 53, 54, 55, 56, 57]
def voffs : List Nat := [11, 13, 15, 17, 19, 21, 23, 26, 28, 30, 32, 34, 36, 38, 40, 42, 44, 46, 48]
def styleInts (s : Style) : List Int := [s.dir, s.wrap, s.justify, s.items, s.self, s.content, bitOf s.apart, bitOf s.hidden, s.order, s.grow, s.shrink, s.ratio, s.rowGap, s.colGap, s.pad.left, s.pad.top, s.pad.right, s.pad.bottom, s.border.left, s.border.top, s.border.right, s.border.bottom]
def styleVals (s : Style) : List Val := [s.basis, s.width, s.height, s.minWidth, s.minHeight, s.maxWidth, s.maxHeight, s.margin.left, s.margin.top, s.margin.right, s.margin.bottom, s.margin.start, s.margin.stop, s.inset.left, s.inset.top, s.inset.right, s.inset.bottom, s.inset.start, s.inset.stop]
def idxOf (l : List (List UInt8)) (k : List UInt8) : Option Nat := l.findIdx? (fun x => decide (x = k))
def keyOf (s : Style) (k : List UInt8) : Val × Bool :=
  match idxOf intTexts k with
  | some i => (⟨1, (styleInts s).getD i 0⟩, true)
  | none => match idxOf valueTexts k with
    | some i => ((styleVals s).getD i ⟨0, 0⟩, true)
    | none => (⟨0, 0⟩, false)
def iptr (k : List UInt8) : Nat × Bool :=
  match idxOf intTexts k with
  | some i => if i = 6 ∨ i = 7 then (8, false) else (ioffs.getD i 0, true)
  | none => (8, false)
def vptr (k : List UInt8) : Nat × Bool :=
  match idxOf valueTexts k with
  | some i => (voffs.getD i 0, true)
  | none => (11, false)
theorem idxOf_lt {l : List (List UInt8)} {k : List UInt8} {i : Nat} (h : idxOf l k = some i) : i < l.length := by
  unfold idxOf at h
  rw [List.findIdx?_eq_some_iff_findIdx_eq] at h
  exact h.1
theorem idxOf_at {l : List (List UInt8)} {k : List UInt8} {i : Nat} (h : idxOf l k = some i) : l[i]? = some k := by
  unfold idxOf at h
  rw [List.findIdx?_eq_some_iff_getElem] at h
  obtain ⟨h1, h2, _⟩ := h
  rw [List.getElem?_eq_getElem h1]
  simpa using h2
theorem int_at (s : Style) {i : Nat} (h : i < 22) (h6 : i ≠ 6) (h7 : i ≠ 7) : s.cells[ioffs.getD i 0]? = some (.int .i64 ((styleInts s).getD i 0)) := by
  obtain (rfl|rfl|rfl|rfl|rfl|rfl|rfl|rfl|rfl|rfl|rfl|rfl|rfl|rfl|rfl|rfl|rfl|rfl|rfl|rfl|rfl|rfl) : i = 0 ∨ i = 1 ∨ i = 2 ∨ i = 3 ∨ i = 4 ∨ i = 5 ∨ i = 6 ∨ i = 7 ∨ i = 8 ∨ i = 9 ∨ i = 10 ∨ i = 11 ∨ i = 12 ∨ i = 13 ∨ i = 14 ∨ i = 15 ∨ i = 16 ∨ i = 17 ∨ i = 18 ∨ i = 19 ∨ i = 20 ∨ i = 21 := by omega
  all_goals first | contradiction | rfl
theorem val_at (s : Style) {i : Nat} (h : i < 19) : (s.cells.drop (voffs.getD i 0)).take 2 = ((styleVals s).getD i ⟨0, 0⟩).cells ∧ voffs.getD i 0 + 2 ≤ 60 := by
  obtain (rfl|rfl|rfl|rfl|rfl|rfl|rfl|rfl|rfl|rfl|rfl|rfl|rfl|rfl|rfl|rfl|rfl|rfl|rfl) : i = 0 ∨ i = 1 ∨ i = 2 ∨ i = 3 ∨ i = 4 ∨ i = 5 ∨ i = 6 ∨ i = 7 ∨ i = 8 ∨ i = 9 ∨ i = 10 ∨ i = 11 ∨ i = 12 ∨ i = 13 ∨ i = 14 ∨ i = 15 ∨ i = 16 ∨ i = 17 ∨ i = 18 := by omega
  all_goals exact ⟨rfl, by decide⟩
def setInt (s : Style) (i : Nat) (n : Int) : Style := match i with
  | 0 => { s with dir := n }
  | 1 => { s with wrap := n }
  | 2 => { s with justify := n }
  | 3 => { s with items := n }
  | 4 => { s with self := n }
  | 5 => { s with content := n }
  | 8 => { s with order := n }
  | 9 => { s with grow := n }
  | 10 => { s with shrink := n }
  | 11 => { s with ratio := n }
  | 12 => { s with rowGap := n }
  | 13 => { s with colGap := n }
  | 14 => { s with pad := { s.pad with left := n } }
  | 15 => { s with pad := { s.pad with top := n } }
  | 16 => { s with pad := { s.pad with right := n } }
  | 17 => { s with pad := { s.pad with bottom := n } }
  | 18 => { s with border := { s.border with left := n } }
  | 19 => { s with border := { s.border with top := n } }
  | 20 => { s with border := { s.border with right := n } }
  | 21 => { s with border := { s.border with bottom := n } }
  | _ => s
def setVal (s : Style) (i : Nat) (v : Val) : Style := match i with
  | 0 => { s with basis := v }
  | 1 => { s with width := v }
  | 2 => { s with height := v }
  | 3 => { s with minWidth := v }
  | 4 => { s with minHeight := v }
  | 5 => { s with maxWidth := v }
  | 6 => { s with maxHeight := v }
  | 7 => { s with margin := { s.margin with left := v } }
  | 8 => { s with margin := { s.margin with top := v } }
  | 9 => { s with margin := { s.margin with right := v } }
  | 10 => { s with margin := { s.margin with bottom := v } }
  | 11 => { s with margin := { s.margin with start := v } }
  | 12 => { s with margin := { s.margin with stop := v } }
  | 13 => { s with inset := { s.inset with left := v } }
  | 14 => { s with inset := { s.inset with top := v } }
  | 15 => { s with inset := { s.inset with right := v } }
  | 16 => { s with inset := { s.inset with bottom := v } }
  | 17 => { s with inset := { s.inset with start := v } }
  | 18 => { s with inset := { s.inset with stop := v } }
  | _ => s
theorem setInt_cells (s : Style) {i : Nat} (n : Int) (h : i < 22) (h6 : i ≠ 6) (h7 : i ≠ 7) : s.cells.set (ioffs.getD i 0) (.int .i64 n) = (setInt s i n).cells ∧ ioffs.getD i 0 < 60 := by
  obtain (rfl|rfl|rfl|rfl|rfl|rfl|rfl|rfl|rfl|rfl|rfl|rfl|rfl|rfl|rfl|rfl|rfl|rfl|rfl|rfl|rfl|rfl) : i = 0 ∨ i = 1 ∨ i = 2 ∨ i = 3 ∨ i = 4 ∨ i = 5 ∨ i = 6 ∨ i = 7 ∨ i = 8 ∨ i = 9 ∨ i = 10 ∨ i = 11 ∨ i = 12 ∨ i = 13 ∨ i = 14 ∨ i = 15 ∨ i = 16 ∨ i = 17 ∨ i = 18 ∨ i = 19 ∨ i = 20 ∨ i = 21 := by omega
  all_goals first | contradiction | exact ⟨rfl, by decide⟩
theorem setVal_cells (s : Style) {i : Nat} (v : Val) (h : i < 19) : (s.cells.set (voffs.getD i 0) (.int .i64 v.kind)).set (voffs.getD i 0 + 1) (.int .i64 v.n) = (setVal s i v).cells := by
  obtain (rfl|rfl|rfl|rfl|rfl|rfl|rfl|rfl|rfl|rfl|rfl|rfl|rfl|rfl|rfl|rfl|rfl|rfl|rfl) : i = 0 ∨ i = 1 ∨ i = 2 ∨ i = 3 ∨ i = 4 ∨ i = 5 ∨ i = 6 ∨ i = 7 ∨ i = 8 ∨ i = 9 ∨ i = 10 ∨ i = 11 ∨ i = 12 ∨ i = 13 ∨ i = 14 ∨ i = 15 ∨ i = 16 ∨ i = 17 ∨ i = 18 := by omega
  all_goals rfl
end Go.Proofs.YthffgbhphjkdeaaDoor
