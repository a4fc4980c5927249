/-
  PROVED: contracts of the exact laws' marks at what is kept. Conditions: bounds on the lengths; what is marked may be written.
-/
import Derived.Test.YtcolkidnjojlmaaDoorSxt
import Derived.Test.YtcolkidnjojlmaaDoorMemoMk
import Derived.Test.YtcolkidnjojlmaaDoorAskedS
namespace Go.Proofs.YtcolkidnjojlmaaDoor
open Go.RowKit
set_option linter.unusedVariables false
set_option linter.unusedSimpArgs false

theorem markAskedS_wr (n c : Nat) (a : Option Addr) (R : Nat → Prop) (w : World) (q0 : Int) (hq0 : 0 ≤ q0) (hq1 : q0 ≤ 1000000000000000) (hn : n ≤ 1048576) (h : Wr 135 6 R w a n) :
    Calls Tryd.prog 70 #[.slice a n c, .int .i64 q0] w fun e w' => e = .returned (.int .i64 (q0 + n * 6)) ∧ Mod R w w' ∧ KeepB (fun t => t = 135) w w' :=
  mark_wr h fun g N hh => markAskedS_any n c a g N w q0 hq0 hq1 hn hh

theorem keepB_far {P S : Nat → Prop} {W w w' : World} (h : KeepB P W w) (hm : Mod S w w') (hs : ∀ k, k < W.heap.size → ¬ S k) (hz : W.heap.size ≤ w.heap.size) : KeepB P W w' := fun g e N hf => by
  have hg := hf.size
  have e1 := hm.block g (by omega) (hs g hg)
  exact ⟨(h g e N hf).1.mod hm (hs g hg), fun hp => e1.trans ((h g e N hf).2 hp)⟩
/-- What marks keep: blocks that may be written stay so; those of no type in P are as they were. -/
def markRg (W : World) (R : Nat → Prop) (P : Nat → Prop) : Rg W where
  p := fun k => R k ∧ k < W.heap.size
  q := fun _ => False
  J := fun w => W.heap.size ≤ w.heap.size ∧ KeepB P W w
  low := fun _ h => h.2
  sub := fun _ h => h.elim
  keep := fun _ _ _ ⟨hz, h1⟩ hm hs => ⟨Nat.le_trans hz hm.size, keepB_far h1 hm (fun k hk h => (hs k hk h).elim) hz⟩
abbrev KeptTy (t : Nat) : Prop := t = 106 ∨ t = 161 ∨ t = 135
theorem modlow {R : Nat → Prop} {W w w' : World} (h : Mod (fun k => R k ∧ k < W.heap.size) w w') : Mod R w w' := h.mono fun _ _ h => h.1
theorem MemoWr.low {R : Nat → Prop} {w : World} {a : Option Addr} {n : Nat} (h : MemoWr R w a n) : MemoWr (fun k => R k ∧ k < w.heap.size) w a n := by
  rcases h with h | ⟨g, N, h1, h2, h3, h4, h5⟩
  · exact .inl h
  · refine .inr ⟨g, N, h1, ⟨h2, h4.size⟩, h3, h4, fun i hi => ?_⟩
    obtain ⟨a, m, c, q1, q2, q3⟩ := h5 i hi
    exact ⟨a, m, c, q1, q2, q3.weaken fun b hb h => ⟨h, hb⟩⟩
theorem Wr.low {e sz : Nat} {R : Nat → Prop} {w : World} {a : Option Addr} {n : Nat} (h : Wr e sz R w a n) : Wr e sz (fun k => R k ∧ k < w.heap.size) w a n := h.weaken fun b hb h => ⟨h, hb⟩

abbrev NoT (_ : Nat) : Prop := False
theorem KeepB.low {R : Nat → Prop} {P : Nat → Prop} {W w : World} (h : (markRg W R P).J w) : KeepB P W w := h.2

set_option maxRecDepth 100000 in
theorem markKept_any (n c n' c' : Nat) (a a' : Option Addr) (R : Nat → Prop) (w : World) (q0 : Int) (hq0 : 1 ≤ q0) (hq1 : q0 ≤ 20000000000000) (hn : n ≤ 1048576) (hn' : n' ≤ 1048576) (h : MemoWr R w a n) (h' : Wr 135 6 R w a' n') :
    Calls Tryd.prog 29 #[.agg #[.slice a n c, .slice a' n' c'], .int .i64 q0] w fun e w' => ∃ q : Int, e = .returned (.int .i64 q) ∧ q0 ≤ q ∧ q ≤ q0 + n * 6000000 + n' * 6 ∧ Mod R w w' ∧ KeepB KeptTy w w' := by
  refine calls_sxJ (markRg w R NoT) ⟨Nat.le_refl _, KeepB.refl _ _⟩ Tryd.func29 rfl rfl (fun a h1 h2 h3 => ((Fr.nil h1 h2).arg (h3 1 _ rfl)).arg (h3 0 _ rfl)) ?_
  repeat (first | refine SX.seq ?_ | refine SXl.nil ?_ | refine SX.region ?_ | refine SQ.thenNormal ?_ | refine SX.block ?_ | refine SX.skip ?_ | refine SX.condT rfl ?_ | refine SX.condF rfl ?_ | (refine l_load ?_; (first | refine SXl.v (OpW.load 0 rfl rfl rfl) rfl ?_ ?_ ?_ | refine SXl.v (OpW.load 1 rfl rfl rfl) rfl ?_ ?_ ?_ | refine SXl.v (OpW.load 2 rfl rfl rfl) rfl ?_ ?_ ?_ | refine SXl.v (OpW.load 3 rfl rfl rfl) rfl ?_ ?_ ?_ | refine SXl.v (OpW.loadOld rfl (by assumption) (fun h => h)) rfl ?_ ?_ ?_); rfl; rfl) | (refine l_fieldAddr ?_; (first | refine SXl.v (OpW.fieldAddr rfl) rfl ?_ ?_ ?_); rfl; rfl) | (refine l_move ?_; (first | refine SXl.v (OpW.move rfl) rfl ?_ ?_ ?_); rfl; rfl) | (refine l_assign ?_; (first | refine SXl.v (OpW.assign rfl) rfl ?_ ?_ ?_); rfl; rfl) | (refine l_box ?_; refine SXl.box ?_ ?_ rfl rfl (fun g => ?_); rfl; rfl) | refine SX.ret ?_ | refine SX.exit ?_ | refine SQ.thenRet ?_ | refine SQ.thenExit ?_ | refine SQ.blockNormal ?_ | refine SQ.blockRet ?_ | refine SQ.blockExit ?_ | refine SQ.blockOther rfl ?_)
  refine l_call ?_
  refine SXl.callJ2 (ξ := Int) (v := fun q => .int .i64 q) (markRg w R KeptTy) (fun _ h => h) (fun _ h => h) rfl rfl rfl (fun q => q0 ≤ q ∧ q ≤ q0 + n * 6000000) (fun w' hl => (markMemoS_any n c a _ w' q0 hq0 (by omega) hn (h.low.keep hl.inv.2 (fun f => f))).mono fun e w2 ⟨q, he, h1, h2, hm, hk⟩ => ⟨q, he, ⟨h1, h2⟩, hm, Nat.le_trans hl.inv.1 hm.size, (hl.inv.2.mono (fun _ f => f.elim)).trans (hk.mono fun _ h => h.imp id fun h => .inl h)⟩) ?_
  intro q ⟨h1, h2⟩
  repeat (first | refine SX.seq ?_ | refine SXl.nil ?_ | refine SX.region ?_ | refine SQ.thenNormal ?_ | refine SX.block ?_ | refine SX.skip ?_ | refine SX.condT rfl ?_ | refine SX.condF rfl ?_ | (refine l_load ?_; (first | refine SXl.v (OpW.load 0 rfl rfl rfl) rfl ?_ ?_ ?_ | refine SXl.v (OpW.load 1 rfl rfl rfl) rfl ?_ ?_ ?_ | refine SXl.v (OpW.load 2 rfl rfl rfl) rfl ?_ ?_ ?_ | refine SXl.v (OpW.load 3 rfl rfl rfl) rfl ?_ ?_ ?_ | refine SXl.v (OpW.loadOld rfl (by assumption) (fun h => h)) rfl ?_ ?_ ?_); rfl; rfl) | (refine l_fieldAddr ?_; (first | refine SXl.v (OpW.fieldAddr rfl) rfl ?_ ?_ ?_); rfl; rfl) | (refine l_move ?_; (first | refine SXl.v (OpW.move rfl) rfl ?_ ?_ ?_); rfl; rfl) | (refine l_assign ?_; (first | refine SXl.v (OpW.assign rfl) rfl ?_ ?_ ?_); rfl; rfl) | (refine l_box ?_; refine SXl.box ?_ ?_ rfl rfl (fun g => ?_); rfl; rfl) | refine SX.ret ?_ | refine SX.exit ?_ | refine SQ.thenRet ?_ | refine SQ.thenExit ?_ | refine SQ.blockNormal ?_ | refine SQ.blockRet ?_ | refine SQ.blockExit ?_ | refine SQ.blockOther rfl ?_)
  refine l_call ?_
  refine SXl.callJ1 (fun _ h => h) rfl rfl rfl (fun w' hl => (markAskedS_wr n' c' a' _ w' q (by omega) (by omega) hn' (h'.low.keep hl.inv.2)).mono fun e w2 ⟨he, hm, hk⟩ => ⟨he, hm, Nat.le_trans hl.inv.1 hm.size, hl.inv.2.trans (hk.mono fun _ h => .inr (.inr h))⟩) ?_
  repeat (first | refine SX.seq ?_ | refine SXl.nil ?_ | refine SX.region ?_ | refine SQ.thenNormal ?_ | refine SX.block ?_ | refine SX.skip ?_ | refine SX.condT rfl ?_ | refine SX.condF rfl ?_ | (refine l_load ?_; (first | refine SXl.v (OpW.load 0 rfl rfl rfl) rfl ?_ ?_ ?_ | refine SXl.v (OpW.load 1 rfl rfl rfl) rfl ?_ ?_ ?_ | refine SXl.v (OpW.load 2 rfl rfl rfl) rfl ?_ ?_ ?_ | refine SXl.v (OpW.load 3 rfl rfl rfl) rfl ?_ ?_ ?_ | refine SXl.v (OpW.loadOld rfl (by assumption) (fun h => h)) rfl ?_ ?_ ?_); rfl; rfl) | (refine l_fieldAddr ?_; (first | refine SXl.v (OpW.fieldAddr rfl) rfl ?_ ?_ ?_); rfl; rfl) | (refine l_move ?_; (first | refine SXl.v (OpW.move rfl) rfl ?_ ?_ ?_); rfl; rfl) | (refine l_assign ?_; (first | refine SXl.v (OpW.assign rfl) rfl ?_ ?_ ?_); rfl; rfl) | (refine l_box ?_; refine SXl.box ?_ ?_ rfl rfl (fun g => ?_); rfl; rfl) | refine SX.ret ?_ | refine SX.exit ?_ | refine SQ.thenRet ?_ | refine SQ.thenExit ?_ | refine SQ.blockNormal ?_ | refine SQ.blockRet ?_ | refine SQ.blockExit ?_ | refine SQ.blockOther rfl ?_)
  refine SQ.body1 rfl rfl (fun w' hl => ⟨_, rfl, by omega, by omega, modlow hl.mod, hl.inv.2⟩)

end Go.Proofs.YtcolkidnjojlmaaDoor
