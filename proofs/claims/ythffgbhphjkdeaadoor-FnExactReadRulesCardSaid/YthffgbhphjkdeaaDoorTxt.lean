/-
  PROVED: slices of texts, as they are told. No condition.
-/
import Derived.Test.YthffgbhphjkdeaaDoorData
import Derived.Test.YthffgbhphjkdeaaDoorChecked
namespace Go.Proofs.YthffgbhphjkdeaaDoor
open Go.RowKit

/-- A text's one cell. -/
def tcell (l : List UInt8) : List Value := [.string ⟨l.toArray⟩]
theorem info_string : (Tryd.prog.info? 9).map (fun i => (i.zero, i.size, i.bytes)) = some (some (.string ⟨#[]⟩), 1, 16) := by kernel_rfl
abbrev TextSlice (R : Nat → Prop) (w : World) (a : Option Addr) (l : List (List UInt8)) : Prop := SliceAt (Flat tcell) 1 R w a l
theorem TextSlice.get {R : Nat → Prop} {w : World} {a : Option Addr} {l : List (List UInt8)} (h : TextSlice R w a l) {k : Nat} (hk : k < l.length) :
    ∃ b o x, a = some ⟨b, o, none⟩ ∧ R b ∧ b < w.heap.size ∧ Hid (l[k]? = some x) ∧ w.cell? ⟨b, o + k, none⟩ = some (.string ⟨x.toArray⟩) := by
  obtain ⟨b, o, x, r, rfl, hR, hb, hx, hr, _, hc⟩ := SliceAt.get h hk
  obtain rfl : r = tcell x := hr
  have := hc 0 _ rfl
  rw [Nat.mul_one, Nat.add_zero] at this
  exact ⟨b, o, x, rfl, hR, hb, hx, this⟩

end Go.Proofs.YthffgbhphjkdeaaDoor
