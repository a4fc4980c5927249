/-
  PROVED: a slice that a call handed back, told as a fact; its marks. No condition but a bound on the length.
-/
import Derived.Test.YtcolkidnjojlmaaSxt
import Derived.Test.YtcolkidnjojlmaaIntS
import Derived.Test.YtcolkidnjojlmaaNodeMk
import Derived.Test.YtcolkidnjojlmaaEngP
namespace Go.Proofs.Ytcolkidnjojlmaa
open Go.RowKit

/-- Where a slice lies. -/
structure SlP where
  a : Option Addr
  c : Nat
  lo : Nat
def ownRes {α : Type} (cells : α → List Value) (e sz : Nat) (l : List α) (q : SlP) : Res where
  foot := fun k => (Value.slice q.a l.length q.c).ownBlock = some k
  says := fun w => w.ownsRow q.lo e sz (.slice q.a l.length q.c) l.length (l.map cells).flatten
  stable := fun _ _ _ h hm hs => ownsRow_keep h hm hs
theorem new_own {α : Type} {cells : α → List Value} {e sz : Nat} {l : List α} {w w' : World} {en : Ending} (h : NewSlice e sz w l.length (l.map cells).flatten en w') : NewR SlP (fun q => .slice q.a l.length q.c) (ownRes cells e sz l) w en w' := by
  obtain ⟨a, c, he, ho, hm⟩ := h
  exact ⟨⟨a, c, w.heap.size⟩, he, ⟨ho, fun k hk => ownBlock_lt ho hk⟩, hm⟩
theorem own_in {α : Type} {cells : α → List Value} {e sz : Nat} {l : List α} {q : SlP} {W : World} {R : Rg W} {L : List Blk} {O : List Own} {E : List Res} {w : World} (h : Loc W R L O E w) (hm : ownRes cells e sz l q ∈ E) (hc : ∀ x, (cells x).length = sz) (hsz : sz ≠ 0) : SliceAt (Flat cells) sz (fun k => q.lo ≤ k) w q.a l := own_slice (h.res _ hm).1 hc hsz
/-- Ints that bear marks. -/
def markedRes (l : List Int) (q : SlP) : Res where
  foot := fun k => (Value.slice q.a l.length q.c).ownBlock = some k
  says := fun w => l.length = 0 ∨ ∃ g N, q.a = some ⟨g, 0, none⟩ ∧ l.length * 1 ≤ N ∧ Filled g 3 N w (IntM.marks 1 l.length)
  stable := fun S w w' h hm hs => h.imp id fun ⟨g, N, h1, h2, h3⟩ => ⟨g, N, h1, h2, h3.mod hm (hs g (by rw [h1]; rfl))⟩
theorem markInt_own (l : List Int) (q : SlP) (w : World) (hl : l.length ≤ 1048576) (h : (ownRes icell 3 1 l q).says w) :
    Calls Try.prog 43 #[.slice q.a l.length q.c, .int .i64 1] w fun e w' => ∃ _x : Unit, e = .returned (.int .i64 (1 + l.length)) ∧ True ∧ (markedRes l q).says w' ∧ Mod (ownRes icell 3 1 l q).foot w w' := by
  rcases own_filled h with h0 | ⟨g, N, h1, h2, h3, h4⟩
  · refine (markIntS_any l.length q.c q.a w.heap.size 0 w 1 (by omega) (by omega) (by omega) (.inl h0)).mono ?_
    rintro e w' ⟨he, hm, _⟩
    exact ⟨(), he, trivial, .inl h0, hm.mono fun k hk (e : k = w.heap.size) => by omega⟩
  · refine (markIntS_any l.length q.c q.a g N w 1 (by omega) (by omega) (by omega) (.inr ⟨h1, h3, h4⟩)).mono ?_
    rintro e w' ⟨he, hm, hf⟩
    exact ⟨(), he, trivial, hf.imp id fun hf => ⟨g, N, h1, h3, hf⟩, hm.mono fun k _ (e : k = g) => by subst e; show (Value.slice q.a l.length q.c).ownBlock = some k; rw [h1]; rfl⟩
theorem heldInt_own (l : List Int) (q : SlP) (w : World) (hl : l.length ≤ 1048576) (h : (markedRes l q).says w) :
    Calls Try.prog 44 #[.slice q.a l.length q.c, .int .i64 1] w fun e w' => e = .returned (.int .i64 (1 + l.length)) ∧ Mod (fun _ => False) w w' := by
  rcases h with h0 | ⟨g, N, h1, h2, h3⟩
  · exact heldIntS_any l.length q.c q.a 0 0 w 1 (by omega) (by omega) (by omega) (.inl h0)
  · exact heldIntS_any l.length q.c q.a g N w 1 (by omega) (by omega) (by omega) (.inr ⟨h1, h2, h3⟩)
/-- Memory of which nothing more is told. -/
def deadRes : Res := ⟨fun _ => False, fun _ => True, fun _ _ _ _ _ _ => trivial⟩
theorem markEngine_own (x : Engine) (q : EngP) (w : World) (F : x.fits 1048576) (h : (engRes x q).says w) :
    Calls Try.prog 42 #[.agg (engL x q).toArray, .int .i64 1] w fun e w' => ∃ p : Int, e = .returned (.int .i64 p) ∧ 1 ≤ p ∧ deadRes.says w' ∧ Mod (engRes x q).foot w w' :=
  (markEngine_any x 1 _ _ w (by omega) (by omega) F h).mono fun e w' ⟨p, he, h1, _, hm, _⟩ => ⟨p, he, h1, trivial, hm⟩

end Go.Proofs.Ytcolkidnjojlmaa
