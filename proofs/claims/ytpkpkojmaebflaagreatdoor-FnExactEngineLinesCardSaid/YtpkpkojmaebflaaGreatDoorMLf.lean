/-
  PROVED: contracts of functions and words on memory, several texts put together: what each says stands at its theorems. Conditions: as told there.
-/
import Derived.Test.YtpkpkojmaebflaaGreatDoorMLe
import Derived.Test.YtpkpkojmaebflaaGreatDoorRows
import Derived.Test.YtpkpkojmaebflaaGreatDoorCards
import Derived.Test.YtpkpkojmaebflaaGreatDoorTie
import Derived.ProofKit
import Derived.OpenShut
import Derived.ShutString
import Derived.ChangeOld
import Derived.LaidMore
import Derived.Lay
import Derived.MakeChecks
import Derived.SevenTiedAt
import Derived.Stop.Joined
import Derived.Stop.LaidErr
import Derived.Deep.DeepHandedRow
set_option linter.unusedVariables false
set_option linter.unusedSimpArgs false
namespace Go.Proofs.YtpkpkojmaebflaaGreatDoor
open Go.RowKit
set_option linter.unusedVariables false
set_option linter.unusedSimpArgs false

theorem markAskedS_wr (n c : Nat) (a : Option Addr) (R : Nat → Prop) (w : World) (q0 : Int) (hq0 : 0 ≤ q0) (hq1 : q0 ≤ 1000000000000000) (hn : n ≤ 1048576) (h : Wr 145 6 R w a n) :
    Calls Tryz.prog 68 #[.slice a n c, .int .i64 q0] w fun e w' => e = .returned (.int .i64 (q0 + n * 6)) ∧ Mod R w w' ∧ KeepB (fun t => t = 145) w w' :=
  mark_wr h fun g N hh => markAskedS_any n c a g N w q0 hq0 hq1 hn hh

abbrev KeptTy (t : Nat) : Prop := t = 101 ∨ t = 91 ∨ t = 145
theorem MemoWr.low {R : Nat → Prop} {w : World} {a : Option Addr} {n : Nat} (h : MemoWr R w a n) : MemoWr (fun k => R k ∧ k < w.heap.size) w a n := by
  rcases h with h | ⟨g, N, h1, h2, h3, h4, h5⟩
  · exact .inl h
  · refine .inr ⟨g, N, h1, ⟨h2, h4.size⟩, h3, h4, fun i hi => ?_⟩
    obtain ⟨a, m, c, q1, q2, q3⟩ := h5 i hi
    exact ⟨a, m, c, q1, q2, q3.weaken fun b hb h => ⟨h, hb⟩⟩
set_option maxRecDepth 100000 in
theorem markKept_any (n c n' c' : Nat) (a a' : Option Addr) (R : Nat → Prop) (w : World) (q0 : Int) (hq0 : 1 ≤ q0) (hq1 : q0 ≤ 20000000000000) (hn : n ≤ 1048576) (hn' : n' ≤ 1048576) (h : MemoWr R w a n) (h' : Wr 145 6 R w a' n') :
    Calls Tryz.prog 31 #[.agg #[.slice a n c, .slice a' n' c'], .int .i64 q0] w fun e w' => ∃ q : Int, e = .returned (.int .i64 q) ∧ q0 ≤ q ∧ q ≤ q0 + n * 6000000 + n' * 6 ∧ Mod R w w' ∧ KeepB KeptTy w w' := by
  refine calls_sxJ (markRg w R NoT) ⟨Nat.le_refl _, KeepB.refl _ _⟩ Tryz.func31 rfl rfl (fun a h1 h2 h3 => ((Fr.nil h1 h2).arg (h3 1 _ rfl)).arg (h3 0 _ rfl)) ?_
  repeat (first | refine SX.seq ?_ | refine SXl.nil ?_ | refine SX.region ?_ | refine SQ.thenNormal ?_ | refine SX.block ?_ | refine SX.skip ?_ | refine SX.condT rfl ?_ | refine SX.condF rfl ?_ | (refine l_load ?_; (first | refine SXl.v (OpW.load 0 rfl rfl rfl) rfl ?_ ?_ ?_ | refine SXl.v (OpW.load 1 rfl rfl rfl) rfl ?_ ?_ ?_ | refine SXl.v (OpW.load 2 rfl rfl rfl) rfl ?_ ?_ ?_ | refine SXl.v (OpW.load 3 rfl rfl rfl) rfl ?_ ?_ ?_ | refine SXl.v (OpW.loadOld rfl (by assumption) (fun h => h)) rfl ?_ ?_ ?_); rfl; rfl) | (refine l_fieldAddr ?_; (first | refine SXl.v (OpW.fieldAddr rfl) rfl ?_ ?_ ?_); rfl; rfl) | (refine l_move ?_; (first | refine SXl.v (OpW.move rfl) rfl ?_ ?_ ?_); rfl; rfl) | (refine l_assign ?_; (first | refine SXl.v (OpW.assign rfl) rfl ?_ ?_ ?_); rfl; rfl) | (refine l_box ?_; refine SXl.box ?_ ?_ rfl rfl (fun g => ?_); rfl; rfl) | refine SX.ret ?_ | refine SX.exit ?_ | refine SQ.thenRet ?_ | refine SQ.thenExit ?_ | refine SQ.blockNormal ?_ | refine SQ.blockRet ?_ | refine SQ.blockExit ?_ | refine SQ.blockOther rfl ?_)
  refine l_call ?_
  refine SXl.callJ2 (ξ := Int) (v := fun q => .int .i64 q) (markRg w R KeptTy) (fun _ h => h) (fun _ h => h) rfl rfl rfl (fun q => q0 ≤ q ∧ q ≤ q0 + n * 6000000) (fun w' hl => (markMemoS_any n c a _ w' q0 hq0 (by omega) hn (h.low.keep hl.inv.2 (fun f => f))).mono fun e w2 ⟨q, he, h1, h2, hm, hk⟩ => ⟨q, he, ⟨h1, h2⟩, hm, Nat.le_trans hl.inv.1 hm.size, (hl.inv.2.mono (fun _ f => f.elim)).trans (hk.mono fun _ h => h.imp id fun h => .inl h)⟩) ?_
  intro q ⟨h1, h2⟩
  repeat (first | refine SX.seq ?_ | refine SXl.nil ?_ | refine SX.region ?_ | refine SQ.thenNormal ?_ | refine SX.block ?_ | refine SX.skip ?_ | refine SX.condT rfl ?_ | refine SX.condF rfl ?_ | (refine l_load ?_; (first | refine SXl.v (OpW.load 0 rfl rfl rfl) rfl ?_ ?_ ?_ | refine SXl.v (OpW.load 1 rfl rfl rfl) rfl ?_ ?_ ?_ | refine SXl.v (OpW.load 2 rfl rfl rfl) rfl ?_ ?_ ?_ | refine SXl.v (OpW.load 3 rfl rfl rfl) rfl ?_ ?_ ?_ | refine SXl.v (OpW.loadOld rfl (by assumption) (fun h => h)) rfl ?_ ?_ ?_); rfl; rfl) | (refine l_fieldAddr ?_; (first | refine SXl.v (OpW.fieldAddr rfl) rfl ?_ ?_ ?_); rfl; rfl) | (refine l_move ?_; (first | refine SXl.v (OpW.move rfl) rfl ?_ ?_ ?_); rfl; rfl) | (refine l_assign ?_; (first | refine SXl.v (OpW.assign rfl) rfl ?_ ?_ ?_); rfl; rfl) | (refine l_box ?_; refine SXl.box ?_ ?_ rfl rfl (fun g => ?_); rfl; rfl) | refine SX.ret ?_ | refine SX.exit ?_ | refine SQ.thenRet ?_ | refine SQ.thenExit ?_ | refine SQ.blockNormal ?_ | refine SQ.blockRet ?_ | refine SQ.blockExit ?_ | refine SQ.blockOther rfl ?_)
  refine l_call ?_
  refine SXl.callJ1 (fun _ h => h) rfl rfl rfl (fun w' hl => (markAskedS_wr n' c' a' _ w' q (by omega) (by omega) hn' (h'.low.keep hl.inv.2)).mono fun e w2 ⟨he, hm, hk⟩ => ⟨he, hm, Nat.le_trans hl.inv.1 hm.size, hl.inv.2.trans (hk.mono fun _ h => .inr (.inr h))⟩) ?_
  repeat (first | refine SX.seq ?_ | refine SXl.nil ?_ | refine SX.region ?_ | refine SQ.thenNormal ?_ | refine SX.block ?_ | refine SX.skip ?_ | refine SX.condT rfl ?_ | refine SX.condF rfl ?_ | (refine l_load ?_; (first | refine SXl.v (OpW.load 0 rfl rfl rfl) rfl ?_ ?_ ?_ | refine SXl.v (OpW.load 1 rfl rfl rfl) rfl ?_ ?_ ?_ | refine SXl.v (OpW.load 2 rfl rfl rfl) rfl ?_ ?_ ?_ | refine SXl.v (OpW.load 3 rfl rfl rfl) rfl ?_ ?_ ?_ | refine SXl.v (OpW.loadOld rfl (by assumption) (fun h => h)) rfl ?_ ?_ ?_); rfl; rfl) | (refine l_fieldAddr ?_; (first | refine SXl.v (OpW.fieldAddr rfl) rfl ?_ ?_ ?_); rfl; rfl) | (refine l_move ?_; (first | refine SXl.v (OpW.move rfl) rfl ?_ ?_ ?_); rfl; rfl) | (refine l_assign ?_; (first | refine SXl.v (OpW.assign rfl) rfl ?_ ?_ ?_); rfl; rfl) | (refine l_box ?_; refine SXl.box ?_ ?_ rfl rfl (fun g => ?_); rfl; rfl) | refine SX.ret ?_ | refine SX.exit ?_ | refine SQ.thenRet ?_ | refine SQ.thenExit ?_ | refine SQ.blockNormal ?_ | refine SQ.blockRet ?_ | refine SQ.blockExit ?_ | refine SQ.blockOther rfl ?_)
  refine SQ.body1 rfl rfl (fun w' hl => ⟨_, rfl, by omega, by omega, modlow hl.mod, hl.inv.2⟩)

end Go.Proofs.YtpkpkojmaebflaaGreatDoor
namespace Go.Proofs.YtpkpkojmaebflaaGreatDoor
open Go.RowKit
set_option linter.unusedVariables false
set_option linter.unusedSimpArgs false

abbrev AllT (t : Nat) : Prop := NodeT t ∨ KeptTy t
set_option maxRecDepth 100000 in
theorem markEngine_any (x : Engine) (q0 : Int) (cs : List Value) (R : Nat → Prop) (w : World) (hq0 : 1 ≤ q0) (hq1 : q0 ≤ 7000000000000) (F : x.fits 1048576) (h : EngineIn true R w cs x) :
    Calls Tryz.prog 10 #[.agg cs.toArray, .int .i64 q0] w fun e w' => ∃ q : Int, e = .returned (.int .i64 q) ∧ q0 ≤ q ∧ q ≤ q0 + x.tree.length * 6000000 + x.kept.memos.length * 6000000 + x.kept.asked.length * 6 + x.frames.length * 5 ∧ Mod R w w' ∧ KeepB AllT w w' := by
  obtain ⟨t, k0, k1, fa, fc, rfl, ⟨ta, tc, et, hn, hnw⟩, ⟨ka, kc, kb, kd, ek, hm, ha, hkw⟩, hfr, hfw⟩ := h
  simp only [List.cons.injEq, and_true] at et ek
  obtain rfl := et
  obtain ⟨rfl, rfl⟩ := ek
  obtain ⟨F1, ⟨F2, F3, F4⟩, F5⟩ := F
  have hN : NodeWr R w ta x.tree.length := by
    rcases hnw rfl with h | ⟨g, N, rfl, h2, h3, h4⟩
    · exact .inl h
    · exact NodeSlice.wr hn h4 h3 F1.2 h2
  have hM : MemoWr R w ka x.kept.memos.length := by
    rcases (hkw rfl).1 with h | ⟨g, N, rfl, h2, h3, h4⟩
    · exact .inl h
    · exact MemoSlice.wr hm h4 h3 F4 h2
  have hA := (hkw rfl).2.1
  have hW := hfw rfl
  have l1 := F1.1
  refine calls_sxJ (markRg w R NoT) ⟨Nat.le_refl _, KeepB.refl _ _⟩ Tryz.func10 rfl rfl (fun a h1 h2 h3 => ((Fr.nil h1 h2).arg (h3 1 _ rfl)).arg (h3 0 _ rfl)) ?_
  repeat (first | refine SX.seq ?_ | refine SXl.nil ?_ | refine SX.region ?_ | refine SQ.thenNormal ?_ | (refine l_load ?_; (refine SXl.v (OpW.loadRow 0 rfl rfl rfl rfl) rfl ?_ ?_ ?_); rfl; rfl) | (refine l_fieldAddr ?_; (refine SXl.v (OpW.fieldAddr rfl) rfl ?_ ?_ ?_); rfl; rfl) | (refine l_move ?_; (refine SXl.v (OpW.move rfl) rfl ?_ ?_ ?_); rfl; rfl) | (refine l_assign ?_; (refine SXl.v (OpW.assign rfl) rfl ?_ ?_ ?_); rfl; rfl) | (refine l_box ?_; refine SXl.box ?_ ?_ rfl rfl (fun g => ?_); rfl; rfl))
  refine l_call ?_
  refine SXl.callJ2 (ξ := Int) (v := fun q => .int .i64 q) (markRg w R NodeT) (fun _ h => h) (fun _ h => h) rfl rfl rfl (fun q => q0 ≤ q ∧ q ≤ q0 + x.tree.length * 6000000) (fun w' hl => (markTree_any _ tc ta _ w' q0 hq0 (by omega) F1.1 (hN.low.keep hl.inv.2 (fun f => f))).mono fun e w2 ⟨q, he, h1, h2, hm, hk⟩ => ⟨q, he, ⟨h1, h2⟩, hm, Nat.le_trans hl.inv.1 hm.size, (hl.inv.2.mono (fun _ f => f.elim)).trans hk⟩) ?_
  intro q ⟨h1, h2⟩
  repeat (first | refine SX.seq ?_ | refine SXl.nil ?_ | refine SX.region ?_ | refine SQ.thenNormal ?_ | (refine l_load ?_; (refine SXl.v (OpW.loadRow 0 rfl rfl rfl rfl) rfl ?_ ?_ ?_); rfl; rfl) | (refine l_fieldAddr ?_; (refine SXl.v (OpW.fieldAddr rfl) rfl ?_ ?_ ?_); rfl; rfl) | (refine l_move ?_; (refine SXl.v (OpW.move rfl) rfl ?_ ?_ ?_); rfl; rfl) | (refine l_assign ?_; (refine SXl.v (OpW.assign rfl) rfl ?_ ?_ ?_); rfl; rfl))
  refine l_call ?_
  refine SXl.callJ2 (ξ := Int) (v := fun q => .int .i64 q) (markRg w R AllT) (fun _ h => h) (fun _ h => h) rfl rfl rfl (fun p => q ≤ p ∧ p ≤ q + x.kept.memos.length * 6000000 + x.kept.asked.length * 6) (fun w' hl => (markKept_any _ kc _ kd ka kb _ w' q (by omega) (by omega) F2 F3 (hM.low.keep hl.inv.2 (by decide)) (hA.low.keep hl.inv.2)).mono fun e w2 ⟨q, he, h1, h2, hm, hk⟩ => ⟨q, he, ⟨h1, h2⟩, hm, Nat.le_trans hl.inv.1 hm.size, (hl.inv.2.mono (fun _ h => .inl h)).trans (hk.mono fun _ h => .inr h)⟩) ?_
  intro p ⟨h3, h4⟩
  repeat (first | refine SX.seq ?_ | refine SXl.nil ?_ | refine SX.region ?_ | refine SQ.thenNormal ?_ | (refine l_load ?_; (refine SXl.v (OpW.load 0 rfl rfl rfl) rfl ?_ ?_ ?_); rfl; rfl) | (refine l_fieldAddr ?_; (refine SXl.v (OpW.fieldAddr rfl) rfl ?_ ?_ ?_); rfl; rfl) | (refine l_move ?_; (refine SXl.v (OpW.move rfl) rfl ?_ ?_ ?_); rfl; rfl) | (refine l_assign ?_; (refine SXl.v (OpW.assign rfl) rfl ?_ ?_ ?_); rfl; rfl))
  refine l_call ?_
  refine SXl.callJ1 (fun _ h => h) rfl rfl rfl (fun w' hl => (markFrameS_wr _ fc fa _ w' p (by omega) (by omega) F5 (hW.low.keep hl.inv.2)).mono fun e w2 ⟨he, hm, hk⟩ => ⟨he, hm, Nat.le_trans hl.inv.1 hm.size, hl.inv.2.trans (hk.mono fun _ h => .inr (.inr (.inl h)))⟩) ?_
  repeat (first | refine SX.seq ?_ | refine SXl.nil ?_ | refine SX.region ?_ | refine SQ.thenNormal ?_ | (refine l_move ?_; (refine SXl.v (OpW.move rfl) rfl ?_ ?_ ?_); rfl; rfl) | (refine l_assign ?_; (refine SXl.v (OpW.assign rfl) rfl ?_ ?_ ?_); rfl; rfl) | refine SX.ret ?_)
  refine SQ.body1 rfl rfl (fun w' hl => ⟨_, rfl, by omega, by omega, modlow hl.mod, hl.inv.2⟩)
end Go.Proofs.YtpkpkojmaebflaaGreatDoor
namespace Go.Proofs.YtpkpkojmaebflaaGreatDoor
open Go.RowKit

theorem markEngine_own (x : Engine) (q : EngP) (w : World) (F : x.fits 1048576) (h : (engRes x q).says w) :
    Calls Tryz.prog 10 #[.agg (engL x q).toArray, .int .i64 1] w fun e w' => ∃ p : Int, e = .returned (.int .i64 p) ∧ 1 ≤ p ∧ deadRes.says w' ∧ Mod (engRes x q).foot w w' :=
  (markEngine_any x 1 _ _ w (by omega) (by omega) F h).mono fun e w' ⟨p, he, h1, _, hm, _⟩ => ⟨p, he, h1, trivial, hm⟩

end Go.Proofs.YtpkpkojmaebflaaGreatDoor
namespace Go.Proofs.YtpkpkojmaebflaaGreatDoor
open Go.RowKit

/-- Texts that bear marks. -/
def markedT (l : List (List UInt8)) (q : SlP) : Res where
  foot := fun k => (Value.slice q.a l.length q.c).ownBlock = some k
  says := fun w => l.length = 0 ∨ ∃ g N, q.a = some ⟨g, 0, none⟩ ∧ l.length * 1 ≤ N ∧ Filled g 9 N w (Text.marks 1 l.length)
  stable := fun S w w' h hm hs => h.imp id fun ⟨g, N, h1, h2, h3⟩ => ⟨g, N, h1, h2, h3.mod hm (hs g (by rw [h1]; rfl))⟩
theorem markText_own (l : List (List UInt8)) (q : SlP) (w : World) (hl : l.length ≤ 2000000) (h : (ownRes tcell 9 1 l q).says w) :
    Calls Tryz.prog 11 #[.slice q.a l.length q.c, .int .i64 1] w fun e w' => ∃ _x : Unit, e = .returned (.int .i64 (1 + l.length)) ∧ True ∧ (markedT l q).says w' ∧ Mod (ownRes tcell 9 1 l q).foot w w' := by
  rcases own_filled h with h0 | ⟨g, N, h1, h2, h3, h4⟩
  · refine (markStringS_any l.length q.c q.a w.heap.size 0 w 1 (by omega) (by omega) (by omega) (.inl h0)).mono ?_
    rintro e w' ⟨he, hm, _⟩
    exact ⟨(), he, trivial, .inl h0, hm.mono fun k hk (e : k = w.heap.size) => by omega⟩
  · refine (markStringS_any l.length q.c q.a g N w 1 (by omega) (by omega) (by omega) (.inr ⟨h1, h3, h4⟩)).mono ?_
    rintro e w' ⟨he, hm, hf⟩
    exact ⟨(), he, trivial, hf.imp id fun hf => ⟨g, N, h1, h3, hf⟩, hm.mono fun k _ (e : k = g) => by subst e; show (Value.slice q.a l.length q.c).ownBlock = some k; rw [h1]; rfl⟩
theorem heldText_own (l : List (List UInt8)) (q : SlP) (w : World) (hl : l.length ≤ 2000000) (h : (markedT l q).says w) :
    Calls Tryz.prog 12 #[.slice q.a l.length q.c, .int .i64 1] w fun e w' => e = .returned (.int .i64 (1 + l.length)) ∧ Mod (fun _ => False) w w' := by
  rcases h with h0 | ⟨g, N, h1, h2, h3⟩
  · exact heldStringS_any l.length q.c q.a 0 0 w 1 (by omega) (by omega) (by omega) (.inl h0)
  · exact heldStringS_any l.length q.c q.a g N w 1 (by omega) (by omega) (by omega) (.inr ⟨h1, h2, h3⟩)


end Go.Proofs.YtpkpkojmaebflaaGreatDoor
namespace Go.Proofs.YtpkpkojmaebflaaGreatDoor
theorem tab_global : Tryz.prog.globalNamed "internal/strconv.uint64pow10" = some 1 := by kernel_rfl
theorem tab_type : (Tryz.prog.globals[1]?).map (·.type) = some 219 := by kernel_rfl
end Go.Proofs.YtpkpkojmaebflaaGreatDoor

