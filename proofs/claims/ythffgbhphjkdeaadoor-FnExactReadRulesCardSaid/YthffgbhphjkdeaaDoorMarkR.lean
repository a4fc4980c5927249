/-
  PROVED: marks of a table that a call handed back; tables compared. No condition but a bound on the length.
-/
import Derived.Test.YthffgbhphjkdeaaDoorOwn
import Derived.Test.YthffgbhphjkdeaaDoorRuleS
import Derived.Test.YthffgbhphjkdeaaDoorSxt
namespace Go.Proofs.YthffgbhphjkdeaaDoor
open Go.RowKit
set_option linter.unusedVariables false
set_option linter.unusedSimpArgs false

/-- Rules that bear marks. -/
def markedR (l : List Rule) (q : SlP) : Res where
  foot := fun k => (Value.slice q.a l.length q.c).ownBlock = some k
  says := fun w => l.length = 0 ∨ ∃ g N, q.a = some ⟨g, 0, none⟩ ∧ l.length * 3 ≤ N ∧ Filled g 127 N w (Rule.marks 1 l.length)
  stable := fun S w w' h hm hs => h.imp id fun ⟨g, N, h1, h2, h3⟩ => ⟨g, N, h1, h2, h3.mod hm (hs g (by rw [h1]; rfl))⟩
theorem markRules_own (l : List Rule) (q : SlP) (w : World) (hl : l.length ≤ 1048576) (h : (ownRes Rule.cells 127 3 l q).says w) :
    Calls Tryd.prog 85 #[.slice q.a l.length q.c, .int .i64 1] w fun e w' => ∃ _x : Unit, e = .returned (.int .i64 (1 + l.length * 3)) ∧ True ∧ (markedR l q).says w' ∧ Mod (ownRes Rule.cells 127 3 l q).foot w w' := by
  rcases own_filled h with h0 | ⟨g, N, h1, h2, h3, h4⟩
  · refine (markRuleS_any l.length q.c q.a w.heap.size 0 w 1 (by omega) (by omega) (by omega) (.inl h0)).mono ?_
    rintro e w' ⟨he, hm, _⟩
    exact ⟨(), he, trivial, .inl h0, hm.mono fun k hk (e : k = w.heap.size) => by omega⟩
  · refine (markRuleS_any l.length q.c q.a g N w 1 (by omega) (by omega) (by omega) (.inr ⟨h1, h3, h4⟩)).mono ?_
    rintro e w' ⟨he, hm, hf⟩
    exact ⟨(), he, trivial, hf.imp id fun hf => ⟨g, N, h1, h3, hf⟩, hm.mono fun k _ (e : k = g) => by subst e; show (Value.slice q.a l.length q.c).ownBlock = some k; rw [h1]; rfl⟩
theorem heldRules_own (l : List Rule) (q : SlP) (w : World) (hl : l.length ≤ 1048576) (h : (markedR l q).says w) :
    Calls Tryd.prog 86 #[.slice q.a l.length q.c, .int .i64 1] w fun e w' => e = .returned (.int .i64 (1 + l.length * 3)) ∧ Mod (fun _ => False) w w' := by
  rcases h with h0 | ⟨g, N, h1, h2, h3⟩
  · exact heldRuleS_any l.length q.c q.a 0 0 w 1 (by omega) (by omega) (by omega) (.inl h0)
  · exact heldRuleS_any l.length q.c q.a g N w 1 (by omega) (by omega) (by omega) (.inr ⟨h1, h2, h3⟩)
theorem heldTable_own (l : List Rule) (q : SlP) (w : World) (hl : l.length ≤ 1048576) (h : (markedR l q).says w) :
    Calls Tryd.prog 32 #[.agg #[.slice q.a l.length q.c], .int .i64 1] w fun e w' => e = .returned (.int .i64 (1 + l.length * 3)) ∧ Mod (fun _ => False) w w' := by
  refine calls_sx Tryd.func32 rfl rfl (fun a h1 h2 h3 => ((Fr.nil h1 h2).arg (h3 1 _ rfl)).arg (h3 0 _ rfl)) ?_
  have hh := fun w' (hm : Mod (fun _ => False) w w') => heldRules_own l q w' hl ((markedR l q).stable _ _ _ h hm (fun _ _ f => f))
  repeat (first | refine SX.seq ?_ | refine SXl.nil ?_ | refine SX.region ?_ | refine SQ.thenNormal ?_ | refine SX.block ?_ | refine SX.skip ?_ | refine SX.condT rfl ?_ | refine SX.condF rfl ?_ | (refine l_call ?_; (first | refine SXl.v (OpW.call rfl (fun w hl => hh _ hl.mod)) rfl ?_ ?_ ?_); rfl; rfl) | (refine l_load ?_; (first | refine SXl.v (OpW.load 0 rfl rfl rfl) rfl ?_ ?_ ?_ | refine SXl.v (OpW.load 1 rfl rfl rfl) rfl ?_ ?_ ?_ | refine SXl.v (OpW.load 2 rfl rfl rfl) rfl ?_ ?_ ?_ | refine SXl.v (OpW.load 3 rfl rfl rfl) rfl ?_ ?_ ?_ | refine SXl.v (OpW.loadOld rfl (by assumption) (fun h => h)) rfl ?_ ?_ ?_); rfl; rfl) | (refine l_fieldAddr ?_; (first | refine SXl.v (OpW.fieldAddr rfl) rfl ?_ ?_ ?_); rfl; rfl) | (refine l_move ?_; (first | refine SXl.v (OpW.move rfl) rfl ?_ ?_ ?_); rfl; rfl) | (refine l_assign ?_; (first | refine SXl.v (OpW.assign rfl) rfl ?_ ?_ ?_); rfl; rfl) | (refine l_lss ?_; (first | refine SXl.v (OpW.lssT rfl rfl (by omega)) rfl ?_ ?_ ?_ | refine SXl.v (OpW.lssF rfl rfl (by omega)) rfl ?_ ?_ ?_ | refine SXl.v (OpW.lss rfl rfl) rfl ?_ ?_ ?_); rfl; rfl) | (refine l_box ?_; refine SXl.box ?_ ?_ rfl rfl (fun g => ?_); rfl; rfl) | refine SX.ret ?_ | refine SX.exit ?_ | refine SQ.thenRet ?_ | refine SQ.thenExit ?_ | refine SQ.blockNormal ?_ | refine SQ.blockRet ?_ | refine SQ.blockExit ?_ | refine SQ.blockOther rfl ?_)
  refine SQ.body1 rfl rfl (fun w' hl => ⟨rfl, hl.mod⟩)
theorem markTable_own (l : List Rule) (q : SlP) (w : World) (hl0 : l.length ≤ 1048576) (h : (ownRes Rule.cells 127 3 l q).says w) :
    Calls Tryd.prog 31 #[.agg #[.slice q.a l.length q.c], .int .i64 1] w fun e w' => ∃ _x : Unit, e = .returned (.int .i64 (1 + l.length * 3)) ∧ True ∧ (markedR l q).says w' ∧ Mod (ownRes Rule.cells 127 3 l q).foot w w' := by
  have low : ∀ k, (ownRes Rule.cells 127 3 l q).foot k → k < w.heap.size := fun k hk => (ownBlock_lt h hk).2
  refine calls_sxJ ⟨(ownRes Rule.cells 127 3 l q).foot, fun _ => False, (ownRes Rule.cells 127 3 l q).says, low, fun _ h => h.elim, fun S w w' hj hm hs => (ownRes Rule.cells 127 3 l q).stable S w w' hj hm (fun k hk hS => hs k (low k hk) hS)⟩ h Tryd.func31 rfl rfl (fun a h1 h2 h3 => ((Fr.nil h1 h2).arg (h3 1 _ rfl)).arg (h3 0 _ rfl)) ?_
  repeat (first | refine SX.seq ?_ | refine SXl.nil ?_ | refine SX.region ?_ | refine SQ.thenNormal ?_ | refine SX.block ?_ | refine SX.skip ?_ | refine SX.condT rfl ?_ | refine SX.condF rfl ?_ | (refine l_load ?_; (first | refine SXl.v (OpW.load 0 rfl rfl rfl) rfl ?_ ?_ ?_ | refine SXl.v (OpW.load 1 rfl rfl rfl) rfl ?_ ?_ ?_ | refine SXl.v (OpW.load 2 rfl rfl rfl) rfl ?_ ?_ ?_ | refine SXl.v (OpW.load 3 rfl rfl rfl) rfl ?_ ?_ ?_ | refine SXl.v (OpW.loadOld rfl (by assumption) (fun h => h)) rfl ?_ ?_ ?_); rfl; rfl) | (refine l_fieldAddr ?_; (first | refine SXl.v (OpW.fieldAddr rfl) rfl ?_ ?_ ?_); rfl; rfl) | (refine l_move ?_; (first | refine SXl.v (OpW.move rfl) rfl ?_ ?_ ?_); rfl; rfl) | (refine l_assign ?_; (first | refine SXl.v (OpW.assign rfl) rfl ?_ ?_ ?_); rfl; rfl) | (refine l_box ?_; refine SXl.box ?_ ?_ rfl rfl (fun g => ?_); rfl; rfl) | refine SX.ret ?_ | refine SX.exit ?_ | refine SQ.thenRet ?_ | refine SQ.thenExit ?_ | refine SQ.blockNormal ?_ | refine SQ.blockRet ?_ | refine SQ.blockExit ?_ | refine SQ.blockOther rfl ?_)
  refine l_call ?_
  refine SXl.callJ2 (ξ := Unit) (v := fun _ => .int .i64 (1 + l.length * 3)) ⟨(ownRes Rule.cells 127 3 l q).foot, fun _ => False, (markedR l q).says, low, fun _ h => h.elim, fun S w w' hj hm hs => (markedR l q).stable S w w' hj hm (fun k hk hS => hs k (low k hk) hS)⟩ (fun _ h => h) (fun _ h => h) rfl rfl rfl (fun _ => True) (fun w hl => (markRules_own l q w hl0 hl.inv).mono fun _ _ ⟨x, h1, h2, h3, h4⟩ => ⟨x, h1, h2, h4, h3⟩) ?_
  intro _ _
  repeat (first | refine SX.seq ?_ | refine SXl.nil ?_ | refine SX.region ?_ | refine SQ.thenNormal ?_ | refine SX.block ?_ | refine SX.skip ?_ | refine SX.condT rfl ?_ | refine SX.condF rfl ?_ | (refine l_load ?_; (first | refine SXl.v (OpW.load 0 rfl rfl rfl) rfl ?_ ?_ ?_ | refine SXl.v (OpW.load 1 rfl rfl rfl) rfl ?_ ?_ ?_ | refine SXl.v (OpW.load 2 rfl rfl rfl) rfl ?_ ?_ ?_ | refine SXl.v (OpW.load 3 rfl rfl rfl) rfl ?_ ?_ ?_ | refine SXl.v (OpW.loadOld rfl (by assumption) (fun h => h)) rfl ?_ ?_ ?_); rfl; rfl) | (refine l_fieldAddr ?_; (first | refine SXl.v (OpW.fieldAddr rfl) rfl ?_ ?_ ?_); rfl; rfl) | (refine l_move ?_; (first | refine SXl.v (OpW.move rfl) rfl ?_ ?_ ?_); rfl; rfl) | (refine l_assign ?_; (first | refine SXl.v (OpW.assign rfl) rfl ?_ ?_ ?_); rfl; rfl) | (refine l_box ?_; refine SXl.box ?_ ?_ rfl rfl (fun g => ?_); rfl; rfl) | refine SX.ret ?_ | refine SX.exit ?_ | refine SQ.thenRet ?_ | refine SQ.thenExit ?_ | refine SQ.blockNormal ?_ | refine SQ.blockRet ?_ | refine SQ.blockExit ?_ | refine SQ.blockOther rfl ?_)
  refine SQ.body1 rfl rfl (fun w' hl => ⟨(), rfl, trivial, hl.inv, hl.mod⟩)
theorem eqTable_same (l : List Rule) (a a' : Option Addr) (c c' : Nat) (R S : Nat → Prop) (w : World) (hl : l.length ≤ 1048576) (h : SliceAt (Flat Rule.cells) 3 R w a l) (h' : SliceAt (Flat Rule.cells) 3 S w a' l) :
    Calls Tryd.prog 30 #[.agg #[.slice a l.length c], .agg #[.slice a' l.length c']] w fun e w' => e = .returned (.bool true) ∧ Mod (fun _ => False) w w' := by
  refine calls_sx Tryd.func30 rfl rfl (fun a h1 h2 h3 => ((Fr.nil h1 h2).arg (h3 1 _ rfl)).arg (h3 0 _ rfl)) ?_
  have he := fun w' (hm : Mod (fun _ => False) w w') => eqRuleS_any l l a a' c c' R S w' (by omega) (by omega) (h.flatKeep hm) (h'.flatKeep hm)
  simp only [decide_true] at he
  repeat (first | refine SX.seq ?_ | refine SXl.nil ?_ | refine SX.region ?_ | refine SQ.thenNormal ?_ | refine SX.block ?_ | refine SX.skip ?_ | refine SX.condT rfl ?_ | refine SX.condF rfl ?_ | (refine l_call ?_; (first | refine SXl.v (OpW.call rfl (fun w hl => he _ hl.mod)) rfl ?_ ?_ ?_); rfl; rfl) | (refine l_load ?_; (first | refine SXl.v (OpW.load 0 rfl rfl rfl) rfl ?_ ?_ ?_ | refine SXl.v (OpW.load 1 rfl rfl rfl) rfl ?_ ?_ ?_ | refine SXl.v (OpW.load 2 rfl rfl rfl) rfl ?_ ?_ ?_ | refine SXl.v (OpW.load 3 rfl rfl rfl) rfl ?_ ?_ ?_ | refine SXl.v (OpW.loadOld rfl (by assumption) (fun h => h)) rfl ?_ ?_ ?_); rfl; rfl) | (refine l_fieldAddr ?_; (first | refine SXl.v (OpW.fieldAddr rfl) rfl ?_ ?_ ?_); rfl; rfl) | (refine l_assign ?_; (first | refine SXl.v (OpW.assign rfl) rfl ?_ ?_ ?_); rfl; rfl) | (refine l_not ?_; (first | refine SXl.v (OpW.not rfl) rfl ?_ ?_ ?_); rfl; rfl) | (refine l_box ?_; refine SXl.box ?_ ?_ rfl rfl (fun g => ?_); rfl; rfl) | refine SX.ret ?_ | refine SX.exit ?_ | refine SQ.thenRet ?_ | refine SQ.thenExit ?_ | refine SQ.blockNormal ?_ | refine SQ.blockRet ?_ | refine SQ.blockExit ?_ | refine SQ.blockOther rfl ?_)
  refine SQ.body1 rfl rfl (fun w' hl => ⟨rfl, hl.mod⟩)
end Go.Proofs.YthffgbhphjkdeaaDoor
