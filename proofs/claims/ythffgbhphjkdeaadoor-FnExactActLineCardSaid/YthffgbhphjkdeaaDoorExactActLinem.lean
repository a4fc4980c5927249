/-
  PROVED: for every action the law FnExactActLine returns true. Condition: the library's tables, which the row lists, lie as the library's text lays them (tied).
-/
import Derived.Test.YthffgbhphjkdeaaDoorMAe
namespace Go.Proofs.YthffgbhphjkdeaaDoor
open Go.RowKit
set_option linter.unusedVariables false
set_option linter.unusedSimpArgs false

/-- A table in a block of its own. -/
def tabRes (l : List Rule) (g : Nat) : Res where
  foot := fun k => k = g
  says := fun w => w.heap[g]? = some (.cells (l.map Rule.cells).flatten.toArray 127 (0, 0))
  stable := fun _ _ _ h hm hs => hm.blk h (hs g rfl)
theorem tabRes_slice {l : List Rule} {g : Nat} {w : World} (h : (tabRes l g).says w) : SliceAt (Flat Rule.cells) 3 (fun k => k = g) w (some ⟨g, 0, none⟩) l := flat_of_blk (cells := Rule.cells) (sz := 3) h (fun _ => rfl)
def ActAt (x : ActL) (w : World) (v : Value) : Prop := ∃ g, v = .agg (x.row (some ⟨g, 0, none⟩) x.rules.length).toArray ∧ ∃ R, SliceAt (Flat Rule.cells) 3 R w (some ⟨g, 0, none⟩) x.rules
theorem ActAt.keep {x : ActL} {w w' : World} {v : Value} (h : ActAt x w v) (hm : Mod (fun _ => False) w w') : ActAt x w' v := by
  obtain ⟨g, h1, R, h2⟩ := h
  exact ⟨g, h1, R, h2.flatKeep hm⟩
theorem toAct_new (x : ActL) (a : Option Addr) (c : Nat) (R : Nat → Prop) (w : World) (hl : x.rules.length ≤ 1048576) (h : SliceAt (Flat Rule.cells) 3 R w a x.rules) :
    Calls Tryd.prog 35 #[.agg (x.row a c).toArray] w (NewR Nat (fun g => .agg (x.row (some ⟨g, 0, none⟩) x.rules.length).toArray) (tabRes x.rules) w) :=
  (toAct_any ⟨x.kind, x.n, x.kid, x.pl, ⟨x.key.toArray⟩, x.v, x.rules, x.wide, x.high, x.rtl⟩ a c R w hl h).mono fun e w' ⟨g, he, hg, hb, hm⟩ =>
    ⟨g, he, ⟨hb, fun k hk => by subst hk; exact ⟨hg, (Array.getElem?_eq_some_iff.1 hb).1⟩⟩, hm⟩
theorem toAct_at (x : ActL) (a : Option Addr) (c : Nat) (R : Nat → Prop) (w : World) (hl : x.rules.length ≤ 1048576) (h : SliceAt (Flat Rule.cells) 3 R w a x.rules) :
    Calls Tryd.prog 35 #[.agg (x.row a c).toArray] w fun e w' => ∃ v, e = .returned v ∧ ActAt x w' v ∧ Mod (fun _ => False) w w' :=
  (toAct_new x a c R w hl h).mono fun e w' ⟨g, he, h1, hm⟩ => ⟨_, he, ⟨g, rfl, _, tabRes_slice h1.1⟩, hm⟩
theorem eqAct_L (x : ActL) (a a' : Option Addr) (c c' : Nat) (R S : Nat → Prop) (w : World) (hl : x.rules.length ≤ 1048576) (h : SliceAt (Flat Rule.cells) 3 R w a x.rules) (h' : SliceAt (Flat Rule.cells) 3 S w a' x.rules) :
    Calls Tryd.prog 37 #[.agg (x.row a c).toArray, .agg (x.row a' c').toArray] w fun e w' => e = .returned (.bool true) ∧ Mod (fun _ => False) w w' :=
  eqAct_any ⟨x.kind, x.n, x.kid, x.pl, ⟨x.key.toArray⟩, x.v, x.rules, x.wide, x.high, x.rtl⟩ a a' c c' R S w hl h h'
theorem szAct_less (x : ActL) (a : Option Addr) (c : Nat) (w : World) (hn : x.rules.length ≤ 9223372036854775807) (hk : x.key.length ≤ 9223372036854775807) (h : (1048576 : Int) < x.key.length + x.rules.length) :
    Calls Tryd.prog 33 #[.agg (x.row a c).toArray, .int .i64 1048576] w fun e w' => e = .returned (.int .i64 (-1)) ∧ Mod (fun _ => False) w w' :=
  (szAct_any ⟨x.kind, x.n, x.kid, x.pl, ⟨x.key.toArray⟩, x.v, x.rules, x.wide, x.high, x.rtl⟩ a c 1048576 (by omega) (by omega) hn hk w).mono fun e w' ⟨h1, hm⟩ => by
    rcases h1 with ⟨_, h1⟩ | ⟨h1, _⟩
    · exact ⟨h1, hm⟩
    · exact absurd h1 (by show ¬ ((x.key.length : Int) + x.rules.length ≤ 1048576); omega)
theorem szAct_more (x : ActL) (a : Option Addr) (c : Nat) (w : World) (hn : x.rules.length ≤ 9223372036854775807) (hk : x.key.length ≤ 9223372036854775807) (h : ¬ (1048576 : Int) < x.key.length + x.rules.length) :
    Calls Tryd.prog 33 #[.agg (x.row a c).toArray, .int .i64 1048576] w fun e w' => e = .returned (.int .i64 (1048576 - (x.key.length + x.rules.length))) ∧ Mod (fun _ => False) w w' :=
  (szAct_any ⟨x.kind, x.n, x.kid, x.pl, ⟨x.key.toArray⟩, x.v, x.rules, x.wide, x.high, x.rtl⟩ a c 1048576 (by omega) (by omega) hn hk w).mono fun e w' ⟨h1, hm⟩ => by
    rcases h1 with ⟨h1, _⟩ | ⟨_, h1⟩
    · exact absurd h1 (by show ¬ ((1048576 : Int) < x.key.length + x.rules.length); omega)
    · exact ⟨h1, hm⟩

set_option maxRecDepth 100000 in
set_option maxHeartbeats 8000000 in
theorem exactActLine_walk (w : World) (cs : Array Value) (rd : Rd Tryd.prog w 70 cs.toList) (ht : Tab w) (hsh : w.ShapedOpen Tryd.prog) :
    Calls Tryd.prog 7 #[.agg cs] w fun e w' => e = .returned (.bool true) ∧ Mod (fun _ => False) w w' := by
  have hz := num0 hsh
  clear hsh
  obtain ⟨x', ⟨a, c, hcs, hs⟩, hl, hk⟩ := rd_Act rd
  obtain ⟨x, hx1, hx2, hx3⟩ : ∃ x : ActL, cs = (x.row a c).toArray ∧ x.rules.length ≤ 9223372036854775807 ∧ x.key.length ≤ 9223372036854775807 ∧ SliceAt (Flat Rule.cells) 3 (fun k => k < w.heap.size) w a x.rules := by
    obtain ⟨k0, k1, k2, k3, ⟨⟨key⟩⟩, v, tb, k7, k8, k9⟩ := x'
    exact ⟨⟨k0, k1, k2, k3, key, v, tb, k7, k8, k9⟩, Array.toList_inj.1 hcs, hl, hk, hs⟩
  obtain ⟨hkl, hsl⟩ := hx3
  subst hx1
  clear rd hcs hs hl hk x'
  refine calls_sx Tryd.func7 rfl rfl (fun a h1 h2 h3 => ((Fr.nil h1 h2).arg (h3 0 _ rfl))) ?_
  by_cases hb : (1048576 : Int) < x.key.length + x.rules.length
  · have hsz := fun w => szAct_less x a c w hx2 hkl hb
    repeat (first | refine SX.seq ?_ | refine SXl.nil ?_ | refine SX.region ?_ | refine SQ.thenNormal ?_ | refine SX.block ?_ | refine SX.skip ?_ | refine SX.condT rfl ?_ | refine SX.condF rfl ?_ | (refine l_call ?_; (first | refine SXl.v (OpW.call rfl (fun w hl => hsz _)) rfl ?_ ?_ ?_); rfl; rfl) | (refine l_load ?_; (first | refine SXl.v (OpW.loadAll 0 rfl rfl rfl) rfl ?_ ?_ ?_ | refine SXl.v (OpW.loadAll 1 rfl rfl rfl) rfl ?_ ?_ ?_ | refine SXl.v (OpW.loadAll 2 rfl rfl rfl) rfl ?_ ?_ ?_ | refine SXl.v (OpW.loadAll 3 rfl rfl rfl) rfl ?_ ?_ ?_ | refine SXl.v (OpW.loadRow 0 rfl rfl rfl rfl) rfl ?_ ?_ ?_ | refine SXl.v (OpW.loadRow 1 rfl rfl rfl rfl) rfl ?_ ?_ ?_ | refine SXl.v (OpW.loadRow 2 rfl rfl rfl rfl) rfl ?_ ?_ ?_ | refine SXl.v (OpW.loadRow 3 rfl rfl rfl rfl) rfl ?_ ?_ ?_); rfl; rfl) | (refine l_move ?_; (first | refine SXl.v (OpW.move rfl) rfl ?_ ?_ ?_); rfl; rfl) | (refine l_assign ?_; (first | refine SXl.v (OpW.assign rfl) rfl ?_ ?_ ?_); rfl; rfl) | (refine l_lss ?_; (first | refine SXl.v (OpW.lssT rfl rfl (by omega)) rfl ?_ ?_ ?_ | refine SXl.v (OpW.lssF rfl rfl (by omega)) rfl ?_ ?_ ?_ | refine SXl.v (OpW.lss rfl rfl) rfl ?_ ?_ ?_); rfl; rfl) | (refine l_neq ?_; (first | refine SXl.v (OpW.neqStrT rfl rfl (by first | assumption | with_reducible rfl | decide)) rfl ?_ ?_ ?_ | refine SXl.v (OpW.neqStrF rfl rfl (by first | assumption | with_reducible rfl | decide)) rfl ?_ ?_ ?_); rfl; rfl) | (refine l_not ?_; (first | refine SXl.v (OpW.not rfl) rfl ?_ ?_ ?_); rfl; rfl) | (refine l_alloc ?_; refine SXl.alloc ?_ ?_ (fun g => ?_); rfl; rfl) | (refine l_box ?_; refine SXl.box ?_ ?_ rfl rfl (fun g => ?_); rfl; rfl) | (refine l_store ?_; first | (refine SXl.storeAll 0 ?_ rfl rfl rfl rfl rfl rfl rfl ?_; rfl; simp only [List.set_cons_zero, List.set_cons_succ]) | (refine SXl.storeAll 1 ?_ rfl rfl rfl rfl rfl rfl rfl ?_; rfl; simp only [List.set_cons_zero, List.set_cons_succ]) | (refine SXl.storeAll 2 ?_ rfl rfl rfl rfl rfl rfl rfl ?_; rfl; simp only [List.set_cons_zero, List.set_cons_succ]) | (refine SXl.storeRow 0 ?_ rfl rfl rfl rfl rfl rfl rfl ?_; rfl; simp only [over, List.set_cons_zero, List.set_cons_succ]) | (refine SXl.storeRow 1 ?_ rfl rfl rfl rfl rfl rfl rfl ?_; rfl; simp only [over, List.set_cons_zero, List.set_cons_succ]) | (refine SXl.storeRow 2 ?_ rfl rfl rfl rfl rfl rfl rfl ?_; rfl; simp only [over, List.set_cons_zero, List.set_cons_succ])) | refine SX.ret ?_ | refine SX.exit ?_ | refine SQ.thenRet ?_ | refine SQ.thenExit ?_ | refine SQ.blockNormal ?_ | refine SQ.blockRet ?_ | refine SQ.blockExit ?_ | refine SQ.blockOther rfl ?_)
    refine SQ.body1 rfl rfl (fun w' hl => ⟨rfl, hl.mod⟩)
  have hsz := fun w => szAct_more x a c w hx2 hkl hb
  have hll : x.rules.length ≤ 1048576 := by omega
  have S1 := fun (b : Nat) (w : World) (h : (tabRes x.rules b).says w) (hz : Num0 w) (ht : Tab w) => actLine_any x (some ⟨b, 0, none⟩) x.rules.length _ w hll (tabRes_slice h) hz ht
  have S2 := fun (b : Nat) (w : World) (h : (tabRes x.rules b).says w) => sactLine_any x (some ⟨b, 0, none⟩) x.rules.length _ w hll (tabRes_slice h)
  generalize actLine x = s at S1 S2
  repeat (first | refine SX.seq ?_ | refine SXl.nil ?_ | refine SX.region ?_ | refine SQ.thenNormal ?_ | refine SX.block ?_ | refine SX.skip ?_ | refine SX.condT rfl ?_ | refine SX.condF rfl ?_ | (refine l_call ?_; (first | refine SXl.v (OpW.call rfl (fun w hl => hsz _)) rfl ?_ ?_ ?_); rfl; rfl) | (refine l_load ?_; (first | refine SXl.v (OpW.loadAll 0 rfl rfl rfl) rfl ?_ ?_ ?_ | refine SXl.v (OpW.loadAll 1 rfl rfl rfl) rfl ?_ ?_ ?_ | refine SXl.v (OpW.loadAll 2 rfl rfl rfl) rfl ?_ ?_ ?_ | refine SXl.v (OpW.loadAll 3 rfl rfl rfl) rfl ?_ ?_ ?_ | refine SXl.v (OpW.loadRow 0 rfl rfl rfl rfl) rfl ?_ ?_ ?_ | refine SXl.v (OpW.loadRow 1 rfl rfl rfl rfl) rfl ?_ ?_ ?_ | refine SXl.v (OpW.loadRow 2 rfl rfl rfl rfl) rfl ?_ ?_ ?_ | refine SXl.v (OpW.loadRow 3 rfl rfl rfl rfl) rfl ?_ ?_ ?_); rfl; rfl) | (refine l_move ?_; (first | refine SXl.v (OpW.move rfl) rfl ?_ ?_ ?_); rfl; rfl) | (refine l_assign ?_; (first | refine SXl.v (OpW.assign rfl) rfl ?_ ?_ ?_); rfl; rfl) | (refine l_lss ?_; (first | refine SXl.v (OpW.lssT rfl rfl (by omega)) rfl ?_ ?_ ?_ | refine SXl.v (OpW.lssF rfl rfl (by omega)) rfl ?_ ?_ ?_ | refine SXl.v (OpW.lss rfl rfl) rfl ?_ ?_ ?_); rfl; rfl) | (refine l_neq ?_; (first | refine SXl.v (OpW.neqStrT rfl rfl (by first | assumption | with_reducible rfl | decide)) rfl ?_ ?_ ?_ | refine SXl.v (OpW.neqStrF rfl rfl (by first | assumption | with_reducible rfl | decide)) rfl ?_ ?_ ?_); rfl; rfl) | (refine l_not ?_; (first | refine SXl.v (OpW.not rfl) rfl ?_ ?_ ?_); rfl; rfl) | (refine l_alloc ?_; refine SXl.alloc ?_ ?_ (fun g => ?_); rfl; rfl) | (refine l_box ?_; refine SXl.box ?_ ?_ rfl rfl (fun g => ?_); rfl; rfl) | (refine l_store ?_; first | (refine SXl.storeAll 0 ?_ rfl rfl rfl rfl rfl rfl rfl ?_; rfl; simp only [List.set_cons_zero, List.set_cons_succ]) | (refine SXl.storeAll 1 ?_ rfl rfl rfl rfl rfl rfl rfl ?_; rfl; simp only [List.set_cons_zero, List.set_cons_succ]) | (refine SXl.storeAll 2 ?_ rfl rfl rfl rfl rfl rfl rfl ?_; rfl; simp only [List.set_cons_zero, List.set_cons_succ]) | (refine SXl.storeRow 0 ?_ rfl rfl rfl rfl rfl rfl rfl ?_; rfl; simp only [over, List.set_cons_zero, List.set_cons_succ]) | (refine SXl.storeRow 1 ?_ rfl rfl rfl rfl rfl rfl rfl ?_; rfl; simp only [over, List.set_cons_zero, List.set_cons_succ]) | (refine SXl.storeRow 2 ?_ rfl rfl rfl rfl rfl rfl rfl ?_; rfl; simp only [over, List.set_cons_zero, List.set_cons_succ])) | refine SX.ret ?_ | refine SX.exit ?_ | refine SQ.thenRet ?_ | refine SQ.thenExit ?_ | refine SQ.blockNormal ?_ | refine SQ.blockRet ?_ | refine SQ.blockExit ?_ | refine SQ.blockOther rfl ?_)
  refine l_call ?_
  refine SXl.calln1 (v := fun g => .agg (x.row (some ⟨g, 0, none⟩) x.rules.length).toArray) (F1 := tabRes x.rules) rfl rfl rfl (fun w hl => toAct_new x a c _ _ hll (hsl.flatKeep hl.mod)) (fun b0 => ?_)
  repeat (first | refine SX.seq ?_ | refine SXl.nil ?_ | refine SX.region ?_ | refine SQ.thenNormal ?_ | refine SX.block ?_ | refine SX.skip ?_ | refine SX.condT rfl ?_ | refine SX.condF rfl ?_ | (refine l_call ?_; (first | refine SXl.v (OpW.call rfl (fun w hl => S2 b0 _ (hl.res _ (.head _)).1)) rfl ?_ ?_ ?_); rfl; rfl) | (refine l_load ?_; (first | refine SXl.v (OpW.loadAll 0 rfl rfl rfl) rfl ?_ ?_ ?_ | refine SXl.v (OpW.loadAll 1 rfl rfl rfl) rfl ?_ ?_ ?_ | refine SXl.v (OpW.loadAll 2 rfl rfl rfl) rfl ?_ ?_ ?_ | refine SXl.v (OpW.loadAll 3 rfl rfl rfl) rfl ?_ ?_ ?_ | refine SXl.v (OpW.loadRow 0 rfl rfl rfl rfl) rfl ?_ ?_ ?_ | refine SXl.v (OpW.loadRow 1 rfl rfl rfl rfl) rfl ?_ ?_ ?_ | refine SXl.v (OpW.loadRow 2 rfl rfl rfl rfl) rfl ?_ ?_ ?_ | refine SXl.v (OpW.loadRow 3 rfl rfl rfl rfl) rfl ?_ ?_ ?_); rfl; rfl) | (refine l_move ?_; (first | refine SXl.v (OpW.move rfl) rfl ?_ ?_ ?_); rfl; rfl) | (refine l_assign ?_; (first | refine SXl.v (OpW.assign rfl) rfl ?_ ?_ ?_); rfl; rfl) | (refine l_lss ?_; (first | refine SXl.v (OpW.lssT rfl rfl (by omega)) rfl ?_ ?_ ?_ | refine SXl.v (OpW.lssF rfl rfl (by omega)) rfl ?_ ?_ ?_ | refine SXl.v (OpW.lss rfl rfl) rfl ?_ ?_ ?_); rfl; rfl) | (refine l_neq ?_; (first | refine SXl.v (OpW.neqStrT rfl rfl (by first | assumption | with_reducible rfl | decide)) rfl ?_ ?_ ?_ | refine SXl.v (OpW.neqStrF rfl rfl (by first | assumption | with_reducible rfl | decide)) rfl ?_ ?_ ?_); rfl; rfl) | (refine l_not ?_; (first | refine SXl.v (OpW.not rfl) rfl ?_ ?_ ?_); rfl; rfl) | (refine l_alloc ?_; refine SXl.alloc ?_ ?_ (fun g => ?_); rfl; rfl) | (refine l_box ?_; refine SXl.box ?_ ?_ rfl rfl (fun g => ?_); rfl; rfl) | (refine l_store ?_; first | (refine SXl.storeAll 0 ?_ rfl rfl rfl rfl rfl rfl rfl ?_; rfl; simp only [List.set_cons_zero, List.set_cons_succ]) | (refine SXl.storeAll 1 ?_ rfl rfl rfl rfl rfl rfl rfl ?_; rfl; simp only [List.set_cons_zero, List.set_cons_succ]) | (refine SXl.storeAll 2 ?_ rfl rfl rfl rfl rfl rfl rfl ?_; rfl; simp only [List.set_cons_zero, List.set_cons_succ]) | (refine SXl.storeRow 0 ?_ rfl rfl rfl rfl rfl rfl rfl ?_; rfl; simp only [over, List.set_cons_zero, List.set_cons_succ]) | (refine SXl.storeRow 1 ?_ rfl rfl rfl rfl rfl rfl rfl ?_; rfl; simp only [over, List.set_cons_zero, List.set_cons_succ]) | (refine SXl.storeRow 2 ?_ rfl rfl rfl rfl rfl rfl rfl ?_; rfl; simp only [over, List.set_cons_zero, List.set_cons_succ])) | refine SX.ret ?_ | refine SX.exit ?_ | refine SQ.thenRet ?_ | refine SQ.thenExit ?_ | refine SQ.blockNormal ?_ | refine SQ.blockRet ?_ | refine SQ.blockExit ?_ | refine SQ.blockOther rfl ?_)
  refine l_call ?_
  refine SXl.calln1 (v := fun g => .agg (x.row (some ⟨g, 0, none⟩) x.rules.length).toArray) (F1 := tabRes x.rules) rfl rfl rfl (fun w hl => toAct_new x a c _ _ hll (hsl.flatKeep hl.mod)) (fun b1 => ?_)
  repeat (first | refine SX.seq ?_ | refine SXl.nil ?_ | refine SX.region ?_ | refine SQ.thenNormal ?_ | refine SX.block ?_ | refine SX.skip ?_ | refine SX.condT rfl ?_ | refine SX.condF rfl ?_ | (refine l_call ?_; (first | refine SXl.v (OpW.call rfl (fun w hl => S1 b1 _ (hl.res _ (.head _)).1 (hz.keep hl.mod) (ht.keep hl.mod))) rfl ?_ ?_ ?_); rfl; rfl) | (refine l_load ?_; (first | refine SXl.v (OpW.loadAll 0 rfl rfl rfl) rfl ?_ ?_ ?_ | refine SXl.v (OpW.loadAll 1 rfl rfl rfl) rfl ?_ ?_ ?_ | refine SXl.v (OpW.loadAll 2 rfl rfl rfl) rfl ?_ ?_ ?_ | refine SXl.v (OpW.loadAll 3 rfl rfl rfl) rfl ?_ ?_ ?_ | refine SXl.v (OpW.loadRow 0 rfl rfl rfl rfl) rfl ?_ ?_ ?_ | refine SXl.v (OpW.loadRow 1 rfl rfl rfl rfl) rfl ?_ ?_ ?_ | refine SXl.v (OpW.loadRow 2 rfl rfl rfl rfl) rfl ?_ ?_ ?_ | refine SXl.v (OpW.loadRow 3 rfl rfl rfl rfl) rfl ?_ ?_ ?_); rfl; rfl) | (refine l_move ?_; (first | refine SXl.v (OpW.move rfl) rfl ?_ ?_ ?_); rfl; rfl) | (refine l_assign ?_; (first | refine SXl.v (OpW.assign rfl) rfl ?_ ?_ ?_); rfl; rfl) | (refine l_lss ?_; (first | refine SXl.v (OpW.lssT rfl rfl (by omega)) rfl ?_ ?_ ?_ | refine SXl.v (OpW.lssF rfl rfl (by omega)) rfl ?_ ?_ ?_ | refine SXl.v (OpW.lss rfl rfl) rfl ?_ ?_ ?_); rfl; rfl) | (refine l_neq ?_; (first | refine SXl.v (OpW.neqStrT rfl rfl (by first | assumption | with_reducible rfl | decide)) rfl ?_ ?_ ?_ | refine SXl.v (OpW.neqStrF rfl rfl (by first | assumption | with_reducible rfl | decide)) rfl ?_ ?_ ?_); rfl; rfl) | (refine l_not ?_; (first | refine SXl.v (OpW.not rfl) rfl ?_ ?_ ?_); rfl; rfl) | (refine l_alloc ?_; refine SXl.alloc ?_ ?_ (fun g => ?_); rfl; rfl) | (refine l_box ?_; refine SXl.box ?_ ?_ rfl rfl (fun g => ?_); rfl; rfl) | (refine l_store ?_; first | (refine SXl.storeAll 0 ?_ rfl rfl rfl rfl rfl rfl rfl ?_; rfl; simp only [List.set_cons_zero, List.set_cons_succ]) | (refine SXl.storeAll 1 ?_ rfl rfl rfl rfl rfl rfl rfl ?_; rfl; simp only [List.set_cons_zero, List.set_cons_succ]) | (refine SXl.storeAll 2 ?_ rfl rfl rfl rfl rfl rfl rfl ?_; rfl; simp only [List.set_cons_zero, List.set_cons_succ]) | (refine SXl.storeRow 0 ?_ rfl rfl rfl rfl rfl rfl rfl ?_; rfl; simp only [over, List.set_cons_zero, List.set_cons_succ]) | (refine SXl.storeRow 1 ?_ rfl rfl rfl rfl rfl rfl rfl ?_; rfl; simp only [over, List.set_cons_zero, List.set_cons_succ]) | (refine SXl.storeRow 2 ?_ rfl rfl rfl rfl rfl rfl rfl ?_; rfl; simp only [over, List.set_cons_zero, List.set_cons_succ])) | refine SX.ret ?_ | refine SX.exit ?_ | refine SQ.thenRet ?_ | refine SQ.thenExit ?_ | refine SQ.blockNormal ?_ | refine SQ.blockRet ?_ | refine SQ.blockExit ?_ | refine SQ.blockOther rfl ?_)
  refine SX.drawnU (by kernel_rfl) (by kernel_rfl) ?_
  repeat (first | refine SXu.nil (fun xq => ?_) | (refine SXu.new (ActAt x) (fun _ _ _ h hm => h.keep hm) (fun _ => rfl) rfl (fun _ => rfl) (fun w hl => toAct_at x a c _ _ hll (hsl.flatKeep hl.mod)) ?_) | (refine SXu.v (fun _ => (OpW.loadAll 0 rfl rfl rfl)) rfl (fun _ => rfl) rfl ?_) | (refine SXu.v (fun _ => (OpW.loadAll 1 rfl rfl rfl)) rfl (fun _ => rfl) rfl ?_) | (refine SXu.v (fun _ => (OpW.loadAll 2 rfl rfl rfl)) rfl (fun _ => rfl) rfl ?_) | (refine SXu.v (fun _ => (OpW.loadAll 3 rfl rfl rfl)) rfl (fun _ => rfl) rfl ?_) | (refine SXu.v (fun _ => (OpW.loadRow 0 rfl rfl rfl rfl)) rfl (fun _ => rfl) rfl ?_) | (refine SXu.v (fun _ => (OpW.loadRow 1 rfl rfl rfl rfl)) rfl (fun _ => rfl) rfl ?_) | (refine SXu.v (fun _ => (OpW.loadRow 2 rfl rfl rfl rfl)) rfl (fun _ => rfl) rfl ?_) | (refine SXu.v (fun _ => (OpW.loadRow 3 rfl rfl rfl rfl)) rfl (fun _ => rfl) rfl ?_) | (refine SXu.v (fun _ => (OpW.move rfl)) rfl (fun _ => rfl) rfl ?_) | (refine SXu.v (fun _ => (OpW.assign rfl)) rfl (fun _ => rfl) rfl ?_) | (refine SXu.v (fun _ => (OpW.lssT rfl rfl (by omega))) rfl (fun _ => rfl) rfl ?_) | (refine SXu.v (fun _ => (OpW.lssF rfl rfl (by omega))) rfl (fun _ => rfl) rfl ?_) | (refine SXu.v (fun _ => (OpW.lss rfl rfl)) rfl (fun _ => rfl) rfl ?_) | (refine SXu.v (fun _ => (OpW.neqStrT rfl rfl (by first | assumption | with_reducible rfl | decide))) rfl (fun _ => rfl) rfl ?_) | (refine SXu.v (fun _ => (OpW.neqStrF rfl rfl (by first | assumption | with_reducible rfl | decide))) rfl (fun _ => rfl) rfl ?_) | (refine SXu.v (fun _ => (OpW.not rfl)) rfl (fun _ => rfl) rfl ?_))
  refine SXu.use (v := .bool true) [2] (by kernel_rfl) (fun _ => rfl) rfl (fun _ => rfl) (fun xq w hl hK => ?_) ?_
  · obtain ⟨g2, h2, R2, s2⟩ := hK _ List.mem_cons_self (by simp)
    simp only at h2
    rw [h2]
    exact eqAct_L x _ _ _ _ _ _ w hll (tabRes_slice (hl.res _ (.head _)).1) s2
  repeat (first | refine SXu.nil (fun xq => ?_) | (refine SXu.v (fun _ => (OpW.loadAll 0 rfl rfl rfl)) rfl (fun _ => rfl) rfl ?_) | (refine SXu.v (fun _ => (OpW.loadAll 1 rfl rfl rfl)) rfl (fun _ => rfl) rfl ?_) | (refine SXu.v (fun _ => (OpW.loadAll 2 rfl rfl rfl)) rfl (fun _ => rfl) rfl ?_) | (refine SXu.v (fun _ => (OpW.loadAll 3 rfl rfl rfl)) rfl (fun _ => rfl) rfl ?_) | (refine SXu.v (fun _ => (OpW.loadRow 0 rfl rfl rfl rfl)) rfl (fun _ => rfl) rfl ?_) | (refine SXu.v (fun _ => (OpW.loadRow 1 rfl rfl rfl rfl)) rfl (fun _ => rfl) rfl ?_) | (refine SXu.v (fun _ => (OpW.loadRow 2 rfl rfl rfl rfl)) rfl (fun _ => rfl) rfl ?_) | (refine SXu.v (fun _ => (OpW.loadRow 3 rfl rfl rfl rfl)) rfl (fun _ => rfl) rfl ?_) | (refine SXu.v (fun _ => (OpW.move rfl)) rfl (fun _ => rfl) rfl ?_) | (refine SXu.v (fun _ => (OpW.assign rfl)) rfl (fun _ => rfl) rfl ?_) | (refine SXu.v (fun _ => (OpW.lssT rfl rfl (by omega))) rfl (fun _ => rfl) rfl ?_) | (refine SXu.v (fun _ => (OpW.lssF rfl rfl (by omega))) rfl (fun _ => rfl) rfl ?_) | (refine SXu.v (fun _ => (OpW.lss rfl rfl)) rfl (fun _ => rfl) rfl ?_) | (refine SXu.v (fun _ => (OpW.neqStrT rfl rfl (by first | assumption | with_reducible rfl | decide))) rfl (fun _ => rfl) rfl ?_) | (refine SXu.v (fun _ => (OpW.neqStrF rfl rfl (by first | assumption | with_reducible rfl | decide))) rfl (fun _ => rfl) rfl ?_) | (refine SXu.v (fun _ => (OpW.not rfl)) rfl (fun _ => rfl) rfl ?_))
  repeat (first | refine SX.seq ?_ | refine SXl.nil ?_ | refine SX.region ?_ | refine SQ.thenNormal ?_ | refine SX.block ?_ | refine SX.skip ?_ | refine SX.condT rfl ?_ | refine SX.condF rfl ?_ | (refine l_load ?_; (first | refine SXl.v (OpW.loadAll 0 rfl rfl rfl) rfl ?_ ?_ ?_ | refine SXl.v (OpW.loadAll 1 rfl rfl rfl) rfl ?_ ?_ ?_ | refine SXl.v (OpW.loadAll 2 rfl rfl rfl) rfl ?_ ?_ ?_ | refine SXl.v (OpW.loadAll 3 rfl rfl rfl) rfl ?_ ?_ ?_ | refine SXl.v (OpW.loadRow 0 rfl rfl rfl rfl) rfl ?_ ?_ ?_ | refine SXl.v (OpW.loadRow 1 rfl rfl rfl rfl) rfl ?_ ?_ ?_ | refine SXl.v (OpW.loadRow 2 rfl rfl rfl rfl) rfl ?_ ?_ ?_ | refine SXl.v (OpW.loadRow 3 rfl rfl rfl rfl) rfl ?_ ?_ ?_); rfl; rfl) | (refine l_move ?_; (first | refine SXl.v (OpW.move rfl) rfl ?_ ?_ ?_); rfl; rfl) | (refine l_assign ?_; (first | refine SXl.v (OpW.assign rfl) rfl ?_ ?_ ?_); rfl; rfl) | (refine l_lss ?_; (first | refine SXl.v (OpW.lssT rfl rfl (by omega)) rfl ?_ ?_ ?_ | refine SXl.v (OpW.lssF rfl rfl (by omega)) rfl ?_ ?_ ?_ | refine SXl.v (OpW.lss rfl rfl) rfl ?_ ?_ ?_); rfl; rfl) | (refine l_neq ?_; (first | refine SXl.v (OpW.neqStrT rfl rfl (by first | assumption | with_reducible rfl | decide)) rfl ?_ ?_ ?_ | refine SXl.v (OpW.neqStrF rfl rfl (by first | assumption | with_reducible rfl | decide)) rfl ?_ ?_ ?_); rfl; rfl) | (refine l_not ?_; (first | refine SXl.v (OpW.not rfl) rfl ?_ ?_ ?_); rfl; rfl) | (refine l_alloc ?_; refine SXl.alloc ?_ ?_ (fun g => ?_); rfl; rfl) | (refine l_box ?_; refine SXl.box ?_ ?_ rfl rfl (fun g => ?_); rfl; rfl) | (refine l_store ?_; first | (refine SXl.storeAll 0 ?_ rfl rfl rfl rfl rfl rfl rfl ?_; rfl; simp only [List.set_cons_zero, List.set_cons_succ]) | (refine SXl.storeAll 1 ?_ rfl rfl rfl rfl rfl rfl rfl ?_; rfl; simp only [List.set_cons_zero, List.set_cons_succ]) | (refine SXl.storeAll 2 ?_ rfl rfl rfl rfl rfl rfl rfl ?_; rfl; simp only [List.set_cons_zero, List.set_cons_succ]) | (refine SXl.storeRow 0 ?_ rfl rfl rfl rfl rfl rfl rfl ?_; rfl; simp only [over, List.set_cons_zero, List.set_cons_succ]) | (refine SXl.storeRow 1 ?_ rfl rfl rfl rfl rfl rfl rfl ?_; rfl; simp only [over, List.set_cons_zero, List.set_cons_succ]) | (refine SXl.storeRow 2 ?_ rfl rfl rfl rfl rfl rfl rfl ?_; rfl; simp only [over, List.set_cons_zero, List.set_cons_succ])) | refine SX.ret ?_ | refine SX.exit ?_ | refine SQ.thenRet ?_ | refine SQ.thenExit ?_ | refine SQ.blockNormal ?_ | refine SQ.blockRet ?_ | refine SQ.blockExit ?_ | refine SQ.blockOther rfl ?_)
  refine SQ.body1 rfl rfl (fun w' hl => ⟨rfl, hl.mod⟩)

/-! ### The row's frame (the kit's PinupProofs, turned) -/
namespace fnExactActLine
open Go.ChangeShapes Go.WideShapes Go.ChangeAt Go.RowKit
set_option linter.unusedVariables false

theorem own : ownKnob Tryd.prog.godebug = none := by kernel_rfl
theorem laidOut : laidOutB Tryd.prog = true := by kernel_rfl
theorem tab {W : World} (h : laidMetH Tryd.prog Rows.fnExactActLineRow.laid W) : Tab W := by
  rw [MakeChecks.laidMetH_plain _ _ _ (by kernel_rfl)] at h
  exact Lib.tabIs_of_head (rest := _) tab_global tab_type Tryd.underlying239 Tryd.underlying200 (by kernel_rfl) (by kernel_rfl) h.tail.tail

set_option maxRecDepth 100000 in
theorem lifted (os : Os) (started : os.Started) (H : Type) (enc : TypeId × Value → H) (F : Stop.Interp) :
    ReturnsInHanded {} Tryd.checked os 7 .any ((OpenSpec.ofChange Rows.fnExactActLineSpec).preRow enc Tryd.prog Tryd.f7 Rows.fnExactActLineRow.domain false Rows.fnExactActLineRow.laid) (((OpenSpec.ofChange Rows.fnExactActLineSpec).at F).post enc Tryd.prog Tryd.f7 false true false false) := by
  refine returnsInHanded_of_row (C := Tryd.checked) (s := OpenSpec.ofChange Rows.fnExactActLineSpec) own started (by kernel_rfl) Tryd.func7
    (ChangeSpec.witness_shaped (enc := enc) (C := Tryd.checked) (os := os) (s := Rows.fnExactActLineSpec) (X := fun w _ => laidMetH Tryd.prog Rows.fnExactActLineRow.laid w) false (World.laidAll Tryd.prog os Rows.fnExactActLineRow.laid) #[.agg #[.int .i64 0, .int .i64 0, .int .i64 0, .int .i64 0, .string ⟨#[]⟩, .int .i64 0, .int .i64 0, .slice none 0 0, .int .i64 0, .int .i64 0, .bool false]] 8 (World.laidAll_os _ _ _)
      (World.shaped_of_ZipB (by kernel_rfl) (by kernel_rfl)) (by kernel_rfl) (by kernel_rfl) (by kernel_rfl)
      (by rw [MakeChecks.laidMetH_plain _ _ _ (by kernel_rfl)]; exact laidMet_laidAll _ (by kernel_rfl) (by kernel_rfl))) ?_
  intro W base args ds gs before hval0 hW _ _ _ hL hsh _
  have hval : ∀ (j : Nat) t v, Tryd.f7.params[j]? = some t → args[j]? = some v → Value.okWide Tryd.prog W .any base t v := hval0
  have hW' := hW
  obtain ⟨p, q, hA0, hV, rfl, hfz, hnd⟩ := hW
  have hA : DataW.TrodAll enc Tryd.prog W 0 (fun _ => true) true Tryd.f7.params.toList args.toList ds p := hA0
  rw [Tryd.params7] at hA hval
  obtain ⟨v0, vs0, d0, ds0, p0, q0, hargs, rfl, rfl, h0, r0⟩ := trodAll_cons hA
  obtain ⟨rfl, rfl, rfl⟩ := trodAll_nil r0
  obtain rfl : args = #[v0] := by cases args; simp_all
  obtain ⟨rfl, rfl⟩ := trodVars_none hV
  have k0 := h0
  have lt0 : ∀ x ∈ p0, x.block < W.heap.size := by obtain ⟨m, hm⟩ := k0; exact DataW.trod_lt m _ _ _ hm
  obtain ⟨cs0, rfl, _⟩ := okWide_struct Tryd.underlying70 (hval 0 70 v0 rfl rfl)
  have rd0 : Rd Tryd.prog W 70 cs0.toList := by obtain ⟨m, hm⟩ := k0; exact ⟨H, enc, m, _, hm⟩
  clear hA0 hval0
  refine (exactActLine_walk W cs0 rd0 (tab hL) hsh).mono fun e W' ⟨he, hm⟩ => ?_
  have bel := hm.below (Nat.le_refl _) fun _ _ h => h
  subst he
  exact ⟨_, rfl, _, _, _, [], _, [], hW', trodAll_mk1 (shut_bool Tryd.underlying4 _), (trodAll_cons_mk (Below.trod laidOut (by kernel_rfl) (of_decide_eq_true (by kernel_rfl)) k0 bel lt0) trodAll_mk0), rfl, bel.frame _, fun h => by cases h⟩

theorem over : Rows.fnExactActLineRow.holds Tryd.pinned (OpenSpec.ofChange Rows.fnExactActLineSpec) :=
  OpenClaim.holds_of_wide 7 Tryd.f7 rfl rfl rfl rfl rfl rfl rfl ⟨rfl, rfl, rfl, rfl, rfl⟩ rfl rfl rfl rfl rfl (by kernel_rfl) Tryd.func7 (by kernel_rfl)
    (of_decide_eq_true (by kernel_rfl)) (by unfold Func.isWrapper; first | (rw [if_pos (by decide +kernel)]; kernel_rfl) | (rw [if_neg (by decide +kernel)]; exact ⟨rfl, rfl⟩))
    (fun os started H enc _ => by rw [OpenClaim.pre_eq_preRow]; exact lifted os started H enc (fun _ _ _ => 0))
theorem plain (f : FuncId) (fn : Func) (hf : Tryd.pinned.checked.prog.funcNamed "loop.example/g00972/laws.FnExactActLine" = some f) (hfn : Tryd.pinned.checked.prog.funcs[f]? = some fn) :
    true = Tryd.pinned.checked.prog.looks [] ∧ ∀ (j : Nat) t, fn.params[j]? = some t → Tryd.pinned.checked.prog.wantsStandIn t = false := by
  obtain rfl : f = 7 := Option.some.inj ((show Tryd.prog.funcNamed "loop.example/g00972/laws.FnExactActLine" = some 7 by kernel_rfl).symm.trans hf) |>.symm
  obtain rfl : fn = Tryd.f7 := (Option.some.inj (Tryd.func7.symm.trans hfn)).symm
  refine ⟨by kernel_rfl, fun j t ht => ?_⟩
  rw [Tryd.params7] at ht
  have hm : t ∈ [70] := by simpa using Array.mem_of_getElem? ht
  have hall : ([70].all fun u => !Tryd.prog.wantsStandIn u) = true := by kernel_rfl
  exact (show Tryd.prog.wantsStandIn t = false by simpa using List.all_eq_true.1 hall t hm)

theorem proved : Rows.FnExactActLineCardSaid :=
  Claim7.holds_tied_plain_at .later [] [.data, .data, .data, .data, .pinned] true (true, "cfc6c1cf917ce3b6e9c18aedc7441012a1a2f043c771b34ea38ed431c219914b") true over (fun _ h => by cases h) (by kernel_rfl) (fun _ h => by cases h) fnExactActLine_row_tie rfl ⟨rfl, rfl⟩ (by kernel_rfl) rfl plain (by kernel_rfl)
#print axioms proved
end fnExactActLine


end Go.Proofs.YthffgbhphjkdeaaDoor
