/-
  PROVED: a slice that a call handed back and that is not empty, told by its block. No program in sight.
-/
import Derived.Test.YthffgbhphjkdeaaDoorOwn
import Derived.Test.YthffgbhphjkdeaaDoorTxt
namespace Go.Proofs.YthffgbhphjkdeaaDoor
open Go.RowKit

/-- The cells of the rows l in block g. -/
structure RowsKept {α : Type} (cells : α → List Value) (sz : Nat) (l : List α) (g : Nat) (w : World) : Prop where
  h : ∀ (i : Nat) (x : α) (j : Nat) (v : Value), l[i]? = some x → (cells x)[j]? = some v → w.cell? ⟨g, i * sz + j, none⟩ = some v
def rowsRes {α : Type} (cells : α → List Value) (sz : Nat) (l : List α) (p : Nat × Nat) : Res where
  foot := fun k => k = p.1
  says := RowsKept cells sz l p.1
  stable := fun S w w' h hm hs => ⟨fun i x j v hi hj => by
    have := h.h i x j v hi hj
    rw [hm.cell (World.block_lt_of_cell? w _ this) (hs p.1 rfl)]
    exact this⟩
theorem rows_of {α : Type} {cells : α → List Value} {e sz : Nat} {l : List α} {w w' : World} {en : Ending} (hne : l ≠ []) (hsz : ∀ x, (cells x).length = sz) (h : NewSlice e sz w l.length (l.map cells).flatten en w') : NewR (Nat × Nat) (fun p => .slice (some ⟨p.1, 0, none⟩) l.length p.2) (rowsRes cells sz l) w en w' := by
  obtain ⟨a, c, he, ho, hm⟩ := h
  rcases own_parts ho with h0 | ⟨b, rfl, h1, h2, h3, _⟩
  · exact (hne (List.length_eq_zero_iff.1 h0)).elim
  · refine ⟨(b, c), he, ⟨⟨fun i x j v hi hj => ?_⟩, fun k hk => by subst hk; exact ⟨h1, h2⟩⟩, hm⟩
    refine h3 _ _ ?_
    have hmem : (l.map cells)[i]? = some (cells x) := by rw [List.getElem?_map, hi]; rfl
    exact flatten_at (rows := l.map cells) (sz := sz) (by intro r hr; obtain ⟨z, _, rfl⟩ := List.mem_map.1 hr; exact hsz z) hmem hj
abbrev textsRes := rowsRes tcell 1
theorem texts_at {l : List (List UInt8)} {p : Nat × Nat} {i : Nat} {x : List UInt8} (hi : l[i]? = some x) : ∀ w, (textsRes l p).says w → w.cell? ⟨p.1, 0 + i, none⟩ = some (.string ⟨x.toArray⟩) := fun w h => by
  have := h.h i x 0 _ hi rfl
  rw [Nat.zero_add]
  simpa using this
end Go.Proofs.YthffgbhphjkdeaaDoor
