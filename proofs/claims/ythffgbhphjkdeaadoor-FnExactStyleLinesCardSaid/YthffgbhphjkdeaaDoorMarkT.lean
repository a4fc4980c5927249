/-
  PROVED: marks of a slice of texts that a call handed back. No condition but a bound on the length.
-/
import Derived.Test.YthffgbhphjkdeaaDoorOwn
import Derived.Test.YthffgbhphjkdeaaDoorStrS
namespace Go.Proofs.YthffgbhphjkdeaaDoor
open Go.RowKit

/-- Texts that bear marks. -/
def markedT (l : List (List UInt8)) (q : SlP) : Res where
  foot := fun k => (Value.slice q.a l.length q.c).ownBlock = some k
  says := fun w => l.length = 0 ∨ ∃ g N, q.a = some ⟨g, 0, none⟩ ∧ l.length * 1 ≤ N ∧ Filled g 9 N w (Text.marks 1 l.length)
  stable := fun S w w' h hm hs => h.imp id fun ⟨g, N, h1, h2, h3⟩ => ⟨g, N, h1, h2, h3.mod hm (hs g (by rw [h1]; rfl))⟩
theorem markText_own (l : List (List UInt8)) (q : SlP) (w : World) (hl : l.length ≤ 1048577) (h : (ownRes tcell 9 1 l q).says w) :
    Calls Tryd.prog 13 #[.slice q.a l.length q.c, .int .i64 1] w fun e w' => ∃ _x : Unit, e = .returned (.int .i64 (1 + l.length)) ∧ True ∧ (markedT l q).says w' ∧ Mod (ownRes tcell 9 1 l q).foot w w' := by
  rcases own_filled h with h0 | ⟨g, N, h1, h2, h3, h4⟩
  · refine (markStringS_any l.length q.c q.a w.heap.size 0 w 1 (by omega) (by omega) (by omega) (.inl h0)).mono ?_
    rintro e w' ⟨he, hm, _⟩
    exact ⟨(), he, trivial, .inl h0, hm.mono fun k hk (e : k = w.heap.size) => by omega⟩
  · refine (markStringS_any l.length q.c q.a g N w 1 (by omega) (by omega) (by omega) (.inr ⟨h1, h3, h4⟩)).mono ?_
    rintro e w' ⟨he, hm, hf⟩
    exact ⟨(), he, trivial, hf.imp id fun hf => ⟨g, N, h1, h3, hf⟩, hm.mono fun k _ (e : k = g) => by subst e; show (Value.slice q.a l.length q.c).ownBlock = some k; rw [h1]; rfl⟩
theorem heldText_own (l : List (List UInt8)) (q : SlP) (w : World) (hl : l.length ≤ 1048577) (h : (markedT l q).says w) :
    Calls Tryd.prog 14 #[.slice q.a l.length q.c, .int .i64 1] w fun e w' => e = .returned (.int .i64 (1 + l.length)) ∧ Mod (fun _ => False) w w' := by
  rcases h with h0 | ⟨g, N, h1, h2, h3⟩
  · exact heldStringS_any l.length q.c q.a 0 0 w 1 (by omega) (by omega) (by omega) (.inl h0)
  · exact heldStringS_any l.length q.c q.a g N w 1 (by omega) (by omega) (by omega) (.inr ⟨h1, h2, h3⟩)


end Go.Proofs.YthffgbhphjkdeaaDoor
