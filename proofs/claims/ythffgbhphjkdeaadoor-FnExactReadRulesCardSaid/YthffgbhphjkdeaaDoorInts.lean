/-
  PROVED: words for slices of ints as rows of one cell. No program in sight.
-/
import Derived.Test.YthffgbhphjkdeaaDoorRep
namespace Go.Proofs.YthffgbhphjkdeaaDoor
open Go.RowKit

def icell (x : Int) : List Value := [.int .i64 x]
abbrev IntSlice (R : Nat → Prop) (w : World) (a : Option Addr) (l : List Int) : Prop := SliceAt (Flat icell) 1 R w a l

theorem IntSlice.get {R : Nat → Prop} {w : World} {a : Option Addr} {l : List Int} (h : IntSlice R w a l) {k : Nat} (hk : k < l.length) :
    ∃ b o x, a = some ⟨b, o, none⟩ ∧ R b ∧ b < w.heap.size ∧ Hid (l[k]? = some x) ∧ w.cell? ⟨b, o + k, none⟩ = some (.int .i64 x) := by
  obtain ⟨b, o, x, r, rfl, hR, hb, hx, hr, _, hc⟩ := SliceAt.get h hk
  obtain rfl : r = icell x := hr
  have := hc 0 _ rfl
  rw [Nat.mul_one, Nat.add_zero] at this
  exact ⟨b, o, x, rfl, hR, hb, hx, this⟩
theorem IntSlice.at {R : Nat → Prop} {w : World} {a : Option Addr} {l : List Int} (h : IntSlice R w a l) : IntsAt w a l := by
  by_cases hl : l = []
  · exact .inl hl
  · obtain ⟨b, o, x, rfl, _⟩ := h.get (List.length_pos_iff.2 hl)
    refine .inr ⟨b, o, rfl, fun i hi => ?_⟩
    obtain ⟨b', o', y, e, _, _, hy, hc⟩ := h.get hi
    simp only [Option.some.injEq, Addr.mk.injEq, and_true] at e
    obtain ⟨rfl, rfl⟩ := e
    rw [hc]
    have := hy.out
    simp [List.getD, this]
theorem icells_length (l : List Int) : (l.map icell).flatten.length = l.length * 1 := flat_length (cells := icell) (sz := 1) (fun _ => rfl) l
theorem icells_append (l m : List Int) : ((l ++ m).map icell).flatten = (l.map icell).flatten ++ (m.map icell).flatten := by simp

/-! ### What a loop has appended so far -/
theorem fm_succ {α β : Type} {l : List α} {k : Nat} {x : α} (g : α → Option β) (h : Hid (l[k]? = some x)) : (l.take (k + 1)).filterMap g = (l.take k).filterMap g ++ (g x).toList := by
  rw [List.take_add_one, h.out, List.filterMap_append]
  cases hg : g x <;> simp [hg]
theorem fm_some {α β : Type} {l : List α} {k : Nat} {x : α} {v : β} (g : α → Option β) (h : Hid (l[k]? = some x)) (hg : g x = some v) : (l.take (k + 1)).filterMap g = (l.take k).filterMap g ++ [v] := by
  rw [fm_succ g h, hg]
  rfl
theorem fm_none {α β : Type} {l : List α} {k : Nat} {x : α} (g : α → Option β) (h : Hid (l[k]? = some x)) (hg : g x = none) : (l.take (k + 1)).filterMap g = (l.take k).filterMap g := by
  rw [fm_succ g h, hg]
  simp
theorem fm_len {α β : Type} (l : List α) (k : Nat) (g : α → Option β) : ((l.take k).filterMap g).length ≤ k := by
  have h1 := List.length_filterMap_le g (l.take k)
  rw [List.length_take] at h1
  omega
theorem map_fm {α β : Type} (l : List α) (f : α → β) : l.map f = l.filterMap fun x => some (f x) := by
  rw [← List.filterMap_eq_map]
  rfl

end Go.Proofs.YthffgbhphjkdeaaDoor
