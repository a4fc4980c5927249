/-
  PROVED: more words on owned rows. No program in sight.
-/
import Derived.Test.YthffgbhphjkdeaaDoorRep
namespace Go.Proofs.YthffgbhphjkdeaaDoor
open Go.RowKit

/-- An owned row that lies in block b: its cells, and that they may be written. -/
theorem own_at {w : World} {base e sz n c b : Nat} {xs : List Value} (h : w.ownsRow base e sz (.slice (some ⟨b, 0, none⟩) n c) n xs) (hn : n ≠ 0) : b < w.heap.size ∧ (∀ off v, xs[off]? = some v → w.cell? ⟨b, off, none⟩ = some v) ∧ (∀ off, w.frozen? ⟨b, off, none⟩ = false) ∧
    ∀ off v, off < xs.length → (w.setCell ⟨b, off, none⟩ v).ownsRow base e sz (.slice (some ⟨b, 0, none⟩) n c) n (xs.set off v) := by
  rcases own_parts h with h0 | ⟨b', e, h1, h2, h3, h4, h5⟩
  · exact (hn h0).elim
  · simp only [Option.some.injEq, Addr.mk.injEq, and_true] at e
    obtain rfl := e
    exact ⟨h2, h3, h4, h5⟩

theorem own_keep {w w' : World} {base e sz n c : Nat} {a : Option Addr} {xs : List Value} {R : Nat → Prop} (h : w.ownsRow base e sz (.slice a n c) n xs) (hm : Mod R w w') (hr : ∀ b, a = some ⟨b, 0, none⟩ → ¬ R b) : w'.ownsRow base e sz (.slice a n c) n xs := by
  refine ⟨h.1, ?_⟩
  rcases h.2 with h2 | ⟨g, cap, cur, hv, hb, hh, hrest⟩
  · exact .inl h2
  · refine .inr ⟨g, cap, cur, hv, hb, hm.blk hh (hr g ?_), hrest⟩
    injection hv
/-- A block of another type is not the row's. -/
theorem own_ne {w : World} {base e sz n c b d T : Nat} {cs : Array Value} {fr : Nat × Nat} {xs : List Value} (h : w.ownsRow base e sz (.slice (some ⟨b, 0, none⟩) n c) n xs) (hd : w.heap[d]? = some (.cells cs T fr)) (hT : T ≠ e) : b ≠ d := by
  rintro rfl
  rcases h.2 with ⟨hv, _⟩ | ⟨g, cap, cur, hv, hb, hh, _⟩
  · cases hv
  · injection hv with ha h1 h2
    simp only [Option.some.injEq, Addr.mk.injEq, and_true] at ha
    subst ha
    rw [hd] at hh
    simp only [Option.some.injEq, Obj.cells.injEq] at hh
    exact hT hh.2.1
theorem room_alloc {w : World} {B : Nat} (h : B ≤ w.heap.size) (o : Obj) : B ≤ (w.alloc o).heap.size := by simp; omega
/-- An append leaves the blocks that are not the row's. -/
theorem grown_blk_at {w w' : World} {base e sz n c b T : Nat} {a : Option Addr} {xs : List Value} {cs : Array Value} {fr : Nat × Nat} (ho : w.ownsRow base e sz (.slice a n c) n xs) (hg : w.grownBy w' (Value.slice a n c).ownBlock) (hb : w.heap[b]? = some (.cells cs T fr)) (hT : T ≠ e) : w'.heap[b]? = some (.cells cs T fr) := by
  rw [hg.block b (Array.getElem?_eq_some_iff.1 hb).1 (fun h => ?_)]
  · exact hb
  · rcases ho.2 with ⟨hv, _⟩ | ⟨g, cap, cur, hv, _, hh, _⟩
    · rw [hv] at h; cases h
    · rw [hv] at h
      simp only [Value.ownBlock, Option.some.injEq] at h
      subst h
      rw [hb] at hh
      simp only [Option.some.injEq, Obj.cells.injEq] at hh
      exact hT hh.2.1
theorem heap_alloc_keep {w : World} {b : Nat} {ob o : Obj} (h : w.heap[b]? = some ob) : (w.alloc o).heap[b]? = some ob := by
  rw [Below.heap_alloc _ _ _ (Array.getElem?_eq_some_iff.1 h).1]; exact h
theorem grown_mod {w w' : World} {row : Option Nat} (hg : w.grownBy w' row) : Mod (fun k => some k = row) w w' := ⟨hg.os, hg.tape, hg.output, hg.size, fun k hk hn => hg.block k hk hn⟩

end Go.Proofs.YthffgbhphjkdeaaDoor
