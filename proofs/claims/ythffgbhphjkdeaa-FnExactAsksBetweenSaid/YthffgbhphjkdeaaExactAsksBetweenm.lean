/-
  PROVED: for every two engines the law FnExactAsksBetween returns true. No condition.
-/
import Derived.Test.YthffgbhphjkdeaaMAc
import Derived.Test.YthffgbhphjkdeaaRows
import Derived.ProofKit
import Derived.OpenShut
import Derived.ShutString
import Derived.ChangeOld
set_option linter.unusedVariables false
set_option linter.unusedSimpArgs false
namespace Go.Proofs.Ythffgbhphjkdeaa
open Go.RowKit
set_option linter.unusedVariables false
set_option linter.unusedSimpArgs false

abbrev engV (x : Engine) (ta : Option Addr) (tc : Nat) (ka : Option Addr) (kc : Nat) (kb : Option Addr) (kd : Nat) (fa : Option Addr) (fc : Nat) : List Value := [.slice ta x.tree.length tc, .slice ka x.kept.memos.length kc, .slice kb x.kept.asked.length kd, .slice fa x.frames.length fc, .int .i64 x.root, .int .i64 x.wide, .int .i64 x.high, .bool x.rtl]
structure Q3 where
  p : EngP
  q : EngP
  r : SlP
def engP0 : EngP := ⟨none, 0, none, 0, none, 0, none, 0, 0, 0⟩
theorem cost_sum (x : Engine) : x.tree.length + x.kept.memos.length + x.kept.asked.length + x.frames.length ≤ x.cost := by
  unfold Engine.cost KeptT.cost treeCost
  omega
set_option maxRecDepth 100000 in
set_option maxHeartbeats 16000000 in
theorem exactAsksBetween_walk (w : World) (cs : Array Value) (rd : Rd Try.prog w 31 cs.toList) (cs2 : Array Value) (rd2 : Rd Try.prog w 31 cs2.toList) :
    Calls Try.prog 3 #[.agg cs, .agg cs2] w fun e w' => e = .returned (.bool true) ∧ Mod (fun _ => False) w w' := by
  obtain ⟨xa, hx, HF⟩ := rd_Engine rd
  obtain ⟨ta, tc, ka, kc, kb, kd, fa, fc, e, H⟩ := hx.lit
  obtain rfl : cs = (engV xa ta tc ka kc kb kd fa fc).toArray := Array.toList_inj.1 e
  clear hx e rd
  obtain ⟨xb, hx2, HF2⟩ := rd_Engine rd2
  obtain ⟨ta2, tc2, ka2, kc2, kb2, kd2, fa2, fc2, e2, H2⟩ := hx2.lit
  obtain rfl : cs2 = (engV xb ta2 tc2 ka2 kc2 kb2 kd2 fa2 fc2).toArray := Array.toList_inj.1 e2
  clear hx2 e2 rd2
  refine calls_sx Try.func3 rfl rfl (fun a h1 h2 h3 => ((Fr.nil h1 h2).arg (h3 1 _ rfl)).arg (h3 0 _ rfl)) ?_
  by_cases hb : (1048576 : Int) < xa.cost
  · repeat (first | refine SX.seq ?_ | refine SXl.nil ?_ | refine SX.region ?_ | refine SQ.thenNormal ?_ | refine SX.condT rfl ?_ | (refine l_call ?_; (refine SXl.v (OpW.call rfl (fun w hl => szEngine_less (by omega) (by omega) HF hb (H.keep hl.mod))) rfl ?_ ?_ ?_); rfl; rfl) | (refine l_load ?_; (refine SXl.v (OpW.loadAll 1 rfl rfl rfl) rfl ?_ ?_ ?_); rfl; rfl) | (refine l_move ?_; (refine SXl.v (OpW.move rfl) rfl ?_ ?_ ?_); rfl; rfl) | (refine l_assign ?_; (refine SXl.v (OpW.assign rfl) rfl ?_ ?_ ?_); rfl; rfl) | (refine l_lss ?_; (refine SXl.v (OpW.lssT rfl rfl (by omega)) rfl ?_ ?_ ?_); rfl; rfl) | (refine l_box ?_; refine SXl.box ?_ ?_ rfl rfl (fun g => ?_); rfl; rfl) | refine SX.ret ?_ | refine SQ.thenRet ?_)
    refine SQ.body1 rfl rfl (fun w' hl => ⟨rfl, hl.mod⟩)
  have hb1 : (xa.cost : Int) ≤ 1048576 := by omega
  by_cases hb2 : (1048576 : Int) - xa.cost < xb.cost
  · repeat (first | refine SX.seq ?_ | refine SXl.nil ?_ | refine SX.region ?_ | refine SQ.thenNormal ?_ | refine SX.skip ?_ | refine SX.condT rfl ?_ | refine SX.condF rfl ?_ | (refine l_call ?_; (first | refine SXl.v (OpW.call (args := [.agg (engV xa ta tc ka kc kb kd fa fc).toArray, .int .i64 1048576]) rfl (fun w hl => szEngine_more (by omega) (by omega) HF hb1 (H.keep hl.mod))) rfl ?_ ?_ ?_ | refine SXl.v (OpW.call rfl (fun w hl => szEngine_less (by omega) (by omega) HF2 hb2 (H2.keep hl.mod))) rfl ?_ ?_ ?_); rfl; rfl) | (refine l_load ?_; (first | refine SXl.v (OpW.loadAll 0 rfl rfl rfl) rfl ?_ ?_ ?_ | refine SXl.v (OpW.loadAll 1 rfl rfl rfl) rfl ?_ ?_ ?_); rfl; rfl) | (refine l_move ?_; (refine SXl.v (OpW.move rfl) rfl ?_ ?_ ?_); rfl; rfl) | (refine l_assign ?_; (refine SXl.v (OpW.assign rfl) rfl ?_ ?_ ?_); rfl; rfl) | (refine l_lss ?_; (first | refine SXl.v (OpW.lssT rfl rfl (by omega)) rfl ?_ ?_ ?_ | refine SXl.v (OpW.lssF rfl rfl (by omega)) rfl ?_ ?_ ?_); rfl; rfl) | (refine l_box ?_; refine SXl.box ?_ ?_ rfl rfl (fun g => ?_); rfl; rfl) | refine SX.ret ?_ | refine SQ.thenRet ?_)
    refine SQ.body1 rfl rfl (fun w' hl => ⟨rfl, hl.mod⟩)
  have hb3 : (xb.cost : Int) ≤ 1048576 - xa.cost := by omega
  have F := Engine.fits_of (x := xa) (n := 1048576) (by omega)
  have F2 := Engine.fits_of (x := xb) (n := 1048576) (by omega)
  have c1 := cost_sum xa
  have c2 := cost_sum xb
  have hma : xa.kept.asked.length ≤ 1048576 := by omega
  have hmb : xb.kept.asked.length ≤ 1048576 := by omega
  have hN1 := fun (p q : EngP) (S : Nat → Prop) (w : World) (h : EngineIn true S w (engL xb q) xb) => asksBetween_any xa xb p q S w hma hmb (engIn_asked h).1 (engIn_asked h).2
  have hN2 := fun (p q : EngP) (S : Nat → Prop) (w : World) (h : EngineIn true S w (engL xb q) xb) => sasksBetween_any xa xb p q S w hma hmb (engIn_asked h).1 (engIn_asked h).2
  have hll : (xb.kept.asked.drop xa.kept.asked.length).length ≤ 1048576 := by rw [List.length_drop]; omega
  generalize xb.kept.asked.drop xa.kept.asked.length = l at *
  have hE : ∀ (a b : Option Addr) (c d : Nat) (R S : Nat → Prop) (w : World), SliceAt (Flat Asked.cells) 6 R w a l → SliceAt (Flat Asked.cells) 6 S w b l → Calls Try.prog 12 #[.slice a l.length c, .slice b l.length d] w fun e w' => e = .returned (.bool true) ∧ Mod (fun _ => False) w w' := fun a b c d R S w h h' => by
    have := eqAskedS_any l l a b c d R S w (by omega) (by omega) h h'
    rwa [decide_eq_true rfl] at this
  have hTa := fun (w' : World) (hm : Mod (fun _ => False) w w') => toEngine_new xa false _ _ w' F (H.keep hm)
  have hTb := fun (w' : World) (hm : Mod (fun _ => False) w w') => toEngine_new xb false _ _ w' F2 (H2.keep hm)
  repeat (first | refine SX.seq ?_ | refine SXl.nil ?_ | refine SX.region ?_ | refine SQ.thenNormal ?_ | refine SX.skip ?_ | refine SX.condF rfl ?_ | (refine l_call ?_; (first | refine SXl.v (OpW.call (args := [.agg (engV xa ta tc ka kc kb kd fa fc).toArray, .int .i64 1048576]) rfl (fun w hl => szEngine_more (by omega) (by omega) HF hb1 (H.keep hl.mod))) rfl ?_ ?_ ?_ | refine SXl.v (OpW.call rfl (fun w hl => szEngine_more (by omega) (by omega) HF2 hb3 (H2.keep hl.mod))) rfl ?_ ?_ ?_); rfl; rfl) | (refine l_load ?_; (first | refine SXl.v (OpW.loadAll 0 rfl rfl rfl) rfl ?_ ?_ ?_ | refine SXl.v (OpW.loadAll 1 rfl rfl rfl) rfl ?_ ?_ ?_); rfl; rfl) | (refine l_move ?_; (refine SXl.v (OpW.move rfl) rfl ?_ ?_ ?_); rfl; rfl) | (refine l_assign ?_; (refine SXl.v (OpW.assign rfl) rfl ?_ ?_ ?_); rfl; rfl) | (refine l_lss ?_; (refine SXl.v (OpW.lssF rfl rfl (by omega)) rfl ?_ ?_ ?_); rfl; rfl) | (refine l_box ?_; refine SXl.box ?_ ?_ rfl rfl (fun g => ?_); rfl; rfl))
  rename_i g2
  revert g; intro g3
  refine SX.drawnG (ζ := Q3) 5 (fun _ _ => [⟨g3, engV xb ta2 tc2 ka2 kc2 kb2 kd2 fa2 fc2, 31⟩, ⟨g2, engV xa ta tc ka kc kb kd fa fc, 31⟩]) (fun _ _ => []) (fun d p => (bif d 4 then [ownRes Asked.cells 101 6 l p.r] else []) ++ ((bif d 3 then [engRes xb p.q] else []) ++ ((bif d 1 then [engRes xa p.p] else []) ++ []))) [(1, fun p v => v = .agg (engL xa p.p).toArray), (3, fun p v => v = .agg (engL xb p.q).toArray), (4, fun p v => v = .slice p.r.a l.length p.r.c)] ⟨engP0, engP0, ⟨none, 0, 0⟩⟩ (by kernel_rfl) (by kernel_rfl) (by kernel_rfl) ⟨rfl, rfl, rfl⟩ ?_
  repeat ((refine SXg.v0 (fun dn x p ha hK => (OpW.loadAll 1 rfl rfl rfl)) rfl (fun _ => rfl) rfl (fun _ _ => ⟨rfl, rfl, rfl⟩) rfl ?_))
  refine SXg.l rfl (fun _ => rfl) rfl (fun dn x p ha hk => ?_) ?_
  · have d3 : dn 3 = false := ha.later 3 (by kernel_rfl)
    have u3 : upd dn 1 3 = false := d3
    have d4 : dn 4 = false := ha.later 4 (by kernel_rfl)
    have u4 : upd dn 1 4 = false := d4
    have d1 : dn 1 = false := ha.not
    have u1 : upd dn 1 1 = true := rfl
    simp only [d3, d4, d1, cond_true, cond_false, List.append_nil, List.nil_append]
    refine SXl.calln1 (ξ := EngP) (v := fun q => .agg (engL xa q).toArray) (F1 := engRes xa) rfl rfl rfl (fun w hl => hTa _ hl.mod) (fun q => ?_)
    refine SXl.nil (SQ.g { p with p := q } _ rfl (fun w hl => ?_) ⟨fun _ => rfl, hk.2.1, hk.2.2.1, trivial⟩)
    simp only [u3, u4, u1, cond_true, cond_false, List.append_nil, List.nil_append]
    exact hl
  repeat ((refine SXg.v0 (fun dn x p ha hK => (OpW.loadAll 0 rfl rfl rfl)) rfl (fun _ => rfl) rfl (fun _ _ => ⟨rfl, rfl, rfl⟩) rfl ?_))
  refine SXg.l rfl (fun _ => rfl) rfl (fun dn x p ha hk => ?_) ?_
  · have d1 : dn 1 = true := ha.done 1 (by kernel_rfl)
    have u1 : upd dn 3 1 = true := d1
    have d4 : dn 4 = false := ha.later 4 (by kernel_rfl)
    have u4 : upd dn 3 4 = false := d4
    have d3 : dn 3 = false := ha.not
    have u3 : upd dn 3 3 = true := rfl
    simp only [d1, d4, d3, cond_true, cond_false, List.append_nil, List.nil_append]
    refine SXl.calln1 (ξ := EngP) (v := fun q => .agg (engL xb q).toArray) (F1 := engRes xb) rfl rfl rfl (fun w hl => hTb _ hl.mod) (fun q => ?_)
    refine SXl.nil (SQ.g { p with q := q } _ rfl (fun w hl => ?_) ⟨hk.1, fun _ => rfl, hk.2.2.1, trivial⟩)
    simp only [u1, u4, u3, cond_true, cond_false, List.append_nil, List.nil_append]
    exact hl
  refine SXg.l rfl (fun _ => rfl) rfl (fun dn x p ha hk => ?_) ?_
  · have d1 : dn 1 = true := ha.done 1 (by kernel_rfl)
    have u1 : upd dn 4 1 = true := d1
    have d3 : dn 3 = true := ha.done 3 (by kernel_rfl)
    have u3 : upd dn 4 3 = true := d3
    have d4 : dn 4 = false := ha.not
    have u4 : upd dn 4 4 = true := rfl
    simp only [d1, d3, d4, cond_true, cond_false, List.append_nil, List.nil_append]
    have x1 : x 1 = .agg (engL xa p.p).toArray := hk.1 d1
    have x3 : x 3 = .agg (engL xb p.q).toArray := hk.2.1 d3
    simp only [x1, x3]
    refine SXl.calln1 (v := fun q => .slice q.a l.length q.c) (F1 := ownRes Asked.cells 101 6 l) rfl rfl rfl (fun w hl => (hN2 p.p p.q _ w (hl.res (engRes xb p.q) (by simp)).1).mono fun _ _ h => new_own h) (fun q => ?_)
    refine SXl.nil (SQ.g { p with r := q } _ rfl (fun w hl => ?_) ⟨hk.1, hk.2.1, fun _ => rfl, trivial⟩)
    simp only [u1, u3, u4, cond_true, cond_false, List.append_nil, List.nil_append]
    exact hl
  refine SXg.tail (fun xq p8 hkq => ?_)
  have x4 : xq 4 = .slice p8.r.a l.length p8.r.c := hkq.2.2.1 rfl
  simp only [x4]
  change SXl _ _ _ _ _ [⟨g3, engV xb ta2 tc2 ka2 kc2 kb2 kd2 fa2 fc2, 31⟩, ⟨g2, engV xa ta tc ka kc kb kd fa fc, 31⟩] [] [ownRes Asked.cells 101 6 l p8.r, engRes xb p8.q, engRes xa p8.p, ] _ _ _
  repeat (first | refine SX.seq ?_ | refine SXl.nil ?_ | refine SX.region ?_ | refine SQ.thenNormal ?_ | (refine l_load ?_; (refine SXl.v (OpW.loadAll 1 rfl rfl rfl) rfl ?_ ?_ ?_); rfl; rfl) | (refine l_assign ?_; (refine SXl.v (OpW.assign rfl) rfl ?_ ?_ ?_); rfl; rfl))
  refine l_call ?_
  refine SXl.calln1 (ξ := EngP) (v := fun q => .agg (engL xa q).toArray) (F1 := engRes xa) rfl rfl rfl (fun w hl => hTa _ hl.mod) (fun q7 => ?_)
  repeat (first | refine SX.seq ?_ | refine SXl.nil ?_ | refine SX.region ?_ | refine SQ.thenNormal ?_ | (refine l_load ?_; (refine SXl.v (OpW.loadAll 1 rfl rfl rfl) rfl ?_ ?_ ?_); rfl; rfl) | (refine l_alloc ?_; refine SXl.alloc ?_ ?_ (fun g => ?_); rfl; rfl) | (refine l_store ?_; first | (refine SXl.storeAll 0 ?_ rfl rfl rfl rfl rfl rfl rfl ?_; rfl; simp only [List.set_cons_zero, List.set_cons_succ]) | (refine SXl.storeAll 1 ?_ rfl rfl rfl rfl rfl rfl rfl ?_; rfl; simp only [List.set_cons_zero, List.set_cons_succ]) | (refine SXl.storeAll 2 ?_ rfl rfl rfl rfl rfl rfl rfl ?_; rfl; simp only [List.set_cons_zero, List.set_cons_succ]) | (refine SXl.storeRow 0 ?_ rfl rfl rfl rfl rfl rfl rfl ?_; rfl; simp only [over, List.set_cons_zero, List.set_cons_succ]) | (refine SXl.storeRow 1 ?_ rfl rfl rfl rfl rfl rfl rfl ?_; rfl; simp only [over, List.set_cons_zero, List.set_cons_succ]) | (refine SXl.storeRow 2 ?_ rfl rfl rfl rfl rfl rfl rfl ?_; rfl; simp only [over, List.set_cons_zero, List.set_cons_succ])))
  revert g; intro g7
  refine l_call ?_
  refine SXl.calln1 (ξ := EngP) (v := fun q => .agg (engL xb q).toArray) (F1 := engRes xb) rfl rfl rfl (fun w hl => hTb _ hl.mod) (fun q8 => ?_)
  repeat (first | refine SX.seq ?_ | refine SXl.nil ?_ | refine SX.region ?_ | refine SQ.thenNormal ?_ | (refine l_load ?_; (first | refine SXl.v (OpW.loadAll 0 rfl rfl rfl) rfl ?_ ?_ ?_ | refine SXl.v (OpW.loadAll 1 rfl rfl rfl) rfl ?_ ?_ ?_); rfl; rfl) | (refine l_alloc ?_; refine SXl.alloc ?_ ?_ (fun g => ?_); rfl; rfl) | (refine l_store ?_; first | (refine SXl.storeAll 0 ?_ rfl rfl rfl rfl rfl rfl rfl ?_; rfl; simp only [List.set_cons_zero, List.set_cons_succ]) | (refine SXl.storeAll 1 ?_ rfl rfl rfl rfl rfl rfl rfl ?_; rfl; simp only [List.set_cons_zero, List.set_cons_succ]) | (refine SXl.storeAll 2 ?_ rfl rfl rfl rfl rfl rfl rfl ?_; rfl; simp only [List.set_cons_zero, List.set_cons_succ]) | (refine SXl.storeRow 0 ?_ rfl rfl rfl rfl rfl rfl rfl ?_; rfl; simp only [over, List.set_cons_zero, List.set_cons_succ]) | (refine SXl.storeRow 1 ?_ rfl rfl rfl rfl rfl rfl rfl ?_; rfl; simp only [over, List.set_cons_zero, List.set_cons_succ]) | (refine SXl.storeRow 2 ?_ rfl rfl rfl rfl rfl rfl rfl ?_; rfl; simp only [over, List.set_cons_zero, List.set_cons_succ])))
  revert g; intro g8
  refine l_call ?_
  refine SXl.calln1 (v := fun q => .slice q.a l.length q.c) (F1 := ownRes Asked.cells 101 6 l) rfl rfl rfl (fun w hl => (hN1 q7 q8 _ w (hl.res (engRes xb q8) (.head _)).1).mono fun _ _ h => new_own h) (fun r1 => ?_)
  repeat (first | refine SX.seq ?_ | refine SXl.nil ?_ | refine SX.region ?_ | refine SQ.thenNormal ?_ | refine SX.skip ?_ | refine SX.condF rfl ?_ | (refine l_call ?_; (refine SXl.v (OpW.call rfl (fun w hl => hE _ _ _ _ _ _ _ (own_in hl (.head _) askedC_len (by decide)) (own_in hl (.tail _ (.tail _ (.tail _ (.head _)))) askedC_len (by decide)))) rfl ?_ ?_ ?_); rfl; rfl) | (refine l_move ?_; (refine SXl.v (OpW.move rfl) rfl ?_ ?_ ?_); rfl; rfl) | (refine l_assign ?_; (refine SXl.v (OpW.assign rfl) rfl ?_ ?_ ?_); rfl; rfl) | (refine l_not ?_; (refine SXl.v (OpW.not rfl) rfl ?_ ?_ ?_); rfl; rfl))
  refine SX.drawnG (ζ := EngP) 5 (fun _ _ => [⟨g8, engL xb q8, 43⟩, ⟨g7, engL xa q7, 43⟩, ⟨g3, engV xb ta2 tc2 ka2 kc2 kb2 kd2 fa2 fc2, 31⟩, ⟨g2, engV xa ta tc ka kc kb kd fa fc, 31⟩]) (fun _ _ => []) (fun d p => (bif d 2 then [engRes xa p] else []) ++ [ownRes Asked.cells 101 6 l r1, engRes xb q8, engRes xa q7, ownRes Asked.cells 101 6 l p8.r, engRes xb p8.q, engRes xa p8.p]) [(2, fun p v => v = .agg (engL xa p).toArray)] engP0 (by kernel_rfl) (by kernel_rfl) (by kernel_rfl) ⟨rfl, rfl, rfl⟩ ?_
  repeat (first | (refine SXg.v0 (fun dn x p ha hK => (OpW.loadAll 1 rfl rfl rfl)) rfl (fun _ => rfl) rfl (fun _ _ => ⟨rfl, rfl, rfl⟩) rfl ?_) | (refine SXg.v0 (fun dn x p ha hK => (OpW.loadAll 3 rfl rfl rfl)) rfl (fun _ => rfl) rfl (fun _ _ => ⟨rfl, rfl, rfl⟩) rfl ?_))
  refine SXg.l rfl (fun _ => rfl) rfl (fun dn x p ha hk => ?_) ?_
  · have d2 : dn 2 = false := ha.not
    have u2 : upd dn 2 2 = true := rfl
    simp only [d2, cond_true, cond_false, List.append_nil, List.nil_append]
    refine SXl.calln1 (ξ := EngP) (v := fun q => .agg (engL xa q).toArray) (F1 := engRes xa) rfl rfl rfl (fun w hl => hTa _ hl.mod) (fun q => ?_)
    refine SXl.nil (SQ.g q _ rfl (fun w hl => ?_) ⟨fun _ => rfl, trivial⟩)
    simp only [u2, cond_true, cond_false, List.append_nil, List.nil_append]
    exact hl
  refine SXg.v0 (v := .bool true) (fun dn x' p ha hk => ?_) rfl (fun _ => rfl) rfl (fun _ _ => ⟨rfl, rfl, rfl⟩) rfl ?_
  · have d2 := ha.done 2 (by kernel_rfl)
    have x2 : x' 2 = .agg (engL xa p).toArray := hk.1 d2
    simp only [x2]
    exact OpW.call rfl (fun w' hl => eqEngine_same xa true true _ _ _ _ w' F (hl.res (engRes xa q7) (List.mem_append_right _ (by simp))).1 (hl.res (engRes xa p) (List.mem_append_left _ (by rw [d2]; exact .head _))).1)
  repeat ((refine SXg.v0 (fun dn x p ha hK => (OpW.not rfl)) rfl (fun _ => rfl) rfl (fun _ _ => ⟨rfl, rfl, rfl⟩) rfl ?_))
  refine SXg.nilW (fun xq p14 hkq => ?_)
  change SQ _ _ _ [⟨g8, engL xb q8, 43⟩, ⟨g7, engL xa q7, 43⟩, ⟨g3, engV xb ta2 tc2 ka2 kc2 kb2 kd2 fa2 fc2, 31⟩, ⟨g2, engV xa ta tc ka kc kb kd fa fc, 31⟩] [] [engRes xa p14, ownRes Asked.cells 101 6 l r1, engRes xb q8, engRes xa q7, ownRes Asked.cells 101 6 l p8.r, engRes xb p8.q, engRes xa p8.p] _ _ _
  repeat (first | refine SX.seq ?_ | refine SQ.thenNormal ?_ | refine SX.skip ?_ | refine SX.condF rfl ?_)
  refine SX.drawnG (ζ := EngP) 5 (fun _ _ => [⟨g8, engL xb q8, 43⟩, ⟨g7, engL xa q7, 43⟩, ⟨g3, engV xb ta2 tc2 ka2 kc2 kb2 kd2 fa2 fc2, 31⟩, ⟨g2, engV xa ta tc ka kc kb kd fa fc, 31⟩]) (fun _ _ => []) (fun d p => (bif d 2 then [engRes xb p] else []) ++ [engRes xa p14, ownRes Asked.cells 101 6 l r1, engRes xb q8, engRes xa q7, ownRes Asked.cells 101 6 l p8.r, engRes xb p8.q, engRes xa p8.p]) [(2, fun p v => v = .agg (engL xb p).toArray)] engP0 (by kernel_rfl) (by kernel_rfl) (by kernel_rfl) ⟨rfl, rfl, rfl⟩ ?_
  repeat (first | (refine SXg.v0 (fun dn x p ha hK => (OpW.loadAll 0 rfl rfl rfl)) rfl (fun _ => rfl) rfl (fun _ _ => ⟨rfl, rfl, rfl⟩) rfl ?_) | (refine SXg.v0 (fun dn x p ha hK => (OpW.loadAll 2 rfl rfl rfl)) rfl (fun _ => rfl) rfl (fun _ _ => ⟨rfl, rfl, rfl⟩) rfl ?_))
  refine SXg.l rfl (fun _ => rfl) rfl (fun dn x p ha hk => ?_) ?_
  · have d2 : dn 2 = false := ha.not
    have u2 : upd dn 2 2 = true := rfl
    simp only [d2, cond_true, cond_false, List.append_nil, List.nil_append]
    refine SXl.calln1 (ξ := EngP) (v := fun q => .agg (engL xb q).toArray) (F1 := engRes xb) rfl rfl rfl (fun w hl => hTb _ hl.mod) (fun q => ?_)
    refine SXl.nil (SQ.g q _ rfl (fun w hl => ?_) ⟨fun _ => rfl, trivial⟩)
    simp only [u2, cond_true, cond_false, List.append_nil, List.nil_append]
    exact hl
  refine SXg.v0 (v := .bool true) (fun dn x' p ha hk => ?_) rfl (fun _ => rfl) rfl (fun _ _ => ⟨rfl, rfl, rfl⟩) rfl ?_
  · have d2 := ha.done 2 (by kernel_rfl)
    have x2 : x' 2 = .agg (engL xb p).toArray := hk.1 d2
    simp only [x2]
    exact OpW.call rfl (fun w' hl => eqEngine_same xb true true _ _ _ _ w' F2 (hl.res (engRes xb q8) (List.mem_append_right _ (by simp))).1 (hl.res (engRes xb p) (List.mem_append_left _ (by rw [d2]; exact .head _))).1)
  repeat ((refine SXg.v0 (fun dn x p ha hK => (OpW.not rfl)) rfl (fun _ => rfl) rfl (fun _ _ => ⟨rfl, rfl, rfl⟩) rfl ?_))
  refine SXg.nilW (fun xq p16 hkq => ?_)
  change SQ _ _ _ [⟨g8, engL xb q8, 43⟩, ⟨g7, engL xa q7, 43⟩, ⟨g3, engV xb ta2 tc2 ka2 kc2 kb2 kd2 fa2 fc2, 31⟩, ⟨g2, engV xa ta tc ka kc kb kd fa fc, 31⟩] [] [engRes xb p16, engRes xa p14, ownRes Asked.cells 101 6 l r1, engRes xb q8, engRes xa q7, ownRes Asked.cells 101 6 l p8.r, engRes xb p8.q, engRes xa p8.p] _ _ _
  repeat (first | refine SX.seq ?_ | refine SXl.nil ?_ | refine SX.region ?_ | refine SQ.thenNormal ?_ | refine SX.skip ?_ | refine SX.condF rfl ?_ | (refine l_load ?_; (refine SXl.v (OpW.loadAll 1 rfl rfl rfl) rfl ?_ ?_ ?_); rfl; rfl) | (refine l_move ?_; (refine SXl.v (OpW.move rfl) rfl ?_ ?_ ?_); rfl; rfl) | (refine l_assign ?_; (refine SXl.v (OpW.assign rfl) rfl ?_ ?_ ?_); rfl; rfl))
  refine l_call ?_
  refine SXl.callM (ξ := Int) (v := fun p => .int .i64 p) (F' := fun _ => deadRes) 4 rfl rfl rfl rfl (fun _ _ h => h.elim) (fun p => 1 ≤ p ∧ p ≤ 1 + xa.tree.length * 6000000 + xa.kept.memos.length * 6000000 + xa.kept.asked.length * 6 + xa.frames.length * 5) (fun w hl => markEngine_own2 xa q7 1 w (by omega) (by omega) F (hl.res (engRes xa q7) (by simp)).1) ?_
  intro k1 hk1
  simp only [List.set_cons_zero, List.set_cons_succ]
  repeat (first | refine SX.seq ?_ | refine SXl.nil ?_ | refine SX.region ?_ | refine SQ.thenNormal ?_ | (refine l_load ?_; (refine SXl.v (OpW.loadAll 0 rfl rfl rfl) rfl ?_ ?_ ?_); rfl; rfl) | (refine l_move ?_; (refine SXl.v (OpW.move rfl) rfl ?_ ?_ ?_); rfl; rfl) | (refine l_assign ?_; (refine SXl.v (OpW.assign rfl) rfl ?_ ?_ ?_); rfl; rfl))
  refine l_call ?_
  refine SXl.callM (ξ := Int) (v := fun p => .int .i64 p) (F' := fun _ => deadRes) 3 rfl rfl rfl rfl (fun _ _ h => h.elim) (fun p => k1 ≤ p ∧ p ≤ k1 + xb.tree.length * 6000000 + xb.kept.memos.length * 6000000 + xb.kept.asked.length * 6 + xb.frames.length * 5) (fun w hl => markEngine_own2 xb q8 k1 w (by omega) (by omega) F2 (hl.res (engRes xb q8) (by simp)).1) ?_
  intro k2 hk2
  simp only [List.set_cons_zero, List.set_cons_succ]
  repeat (first | refine SX.seq ?_ | refine SXl.nil ?_ | refine SX.region ?_ | refine SQ.thenNormal ?_ | refine SX.skip ?_ | refine SX.condF rfl ?_ | (refine l_call ?_; (refine SXl.v (OpW.call rfl (fun w hl => hE _ _ _ _ _ _ _ (own_in hl (.tail _ (.tail _ (.head _))) askedC_len (by decide)) (own_in hl (.tail _ (.tail _ (.tail _ (.tail _ (.tail _ (.head _)))))) askedC_len (by decide)))) rfl ?_ ?_ ?_); rfl; rfl) | (refine l_move ?_; (refine SXl.v (OpW.move rfl) rfl ?_ ?_ ?_); rfl; rfl) | (refine l_assign ?_; (refine SXl.v (OpW.assign rfl) rfl ?_ ?_ ?_); rfl; rfl) | (refine l_lss ?_; (refine SXl.v (OpW.lssF rfl rfl (by omega)) rfl ?_ ?_ ?_); rfl; rfl) | (refine l_not ?_; (refine SXl.v (OpW.not rfl) rfl ?_ ?_ ?_); rfl; rfl) | (refine l_pick ?_; (refine SXl.v (OpW.pick rfl rfl rfl) rfl ?_ ?_ ?_); rfl; rfl))
  refine l_call ?_
  refine SXl.callM (ξ := Unit) (v := fun _ => .int .i64 (1 + l.length * 6)) (F' := fun _ => markedAsked l r1) 2 rfl rfl rfl rfl (fun _ _ h => h) (fun _ => True) (fun w hl => markAsked_own l r1 w hll (hl.res _ (.tail _ (.tail _ (.head _)))).1) ?_
  intro _ _
  simp only [List.set_cons_zero, List.set_cons_succ]
  repeat (first | refine SX.seq ?_ | refine SXl.nil ?_ | refine SX.region ?_ | refine SQ.thenNormal ?_ | refine SX.skip ?_ | refine SX.condF rfl ?_ | (refine l_call ?_; (refine SXl.v (OpW.call rfl (fun w hl => heldAsked_own l r1 _ hll (hl.res _ (.tail _ (.tail _ (.head _)))).1)) rfl ?_ ?_ ?_); rfl; rfl) | (refine l_move ?_; (refine SXl.v (OpW.move rfl) rfl ?_ ?_ ?_); rfl; rfl) | (refine l_assign ?_; (refine SXl.v (OpW.assign rfl) rfl ?_ ?_ ?_); rfl; rfl) | (refine l_lss ?_; (refine SXl.v (OpW.lssF rfl rfl (by omega)) rfl ?_ ?_ ?_); rfl; rfl) | (refine l_neq ?_; (refine SXl.v (OpW.neqF rfl rfl (by omega)) rfl ?_ ?_ ?_); rfl; rfl))
  refine SX.drawnG (ζ := Q3) 5 (fun _ _ => [⟨g8, engL xb q8, 43⟩, ⟨g7, engL xa q7, 43⟩, ⟨g3, engV xb ta2 tc2 ka2 kc2 kb2 kd2 fa2 fc2, 31⟩, ⟨g2, engV xa ta tc ka kc kb kd fa fc, 31⟩]) (fun _ _ => []) (fun d p => (bif d 4 then [ownRes Asked.cells 101 6 l p.r] else []) ++ ((bif d 3 then [engRes xb p.q] else []) ++ ((bif d 1 then [engRes xa p.p] else []) ++ [engRes xb p16, engRes xa p14, markedAsked l r1, deadRes, deadRes, ownRes Asked.cells 101 6 l p8.r, engRes xb p8.q, engRes xa p8.p]))) [(1, fun p v => v = .agg (engL xa p.p).toArray), (3, fun p v => v = .agg (engL xb p.q).toArray), (4, fun p v => v = .slice p.r.a l.length p.r.c)] ⟨engP0, engP0, ⟨none, 0, 0⟩⟩ (by kernel_rfl) (by kernel_rfl) (by kernel_rfl) ⟨rfl, rfl, rfl⟩ ?_
  repeat ((refine SXg.v0 (fun dn x p ha hK => (OpW.loadAll 3 rfl rfl rfl)) rfl (fun _ => rfl) rfl (fun _ _ => ⟨rfl, rfl, rfl⟩) rfl ?_))
  refine SXg.l rfl (fun _ => rfl) rfl (fun dn x p ha hk => ?_) ?_
  · have d3 : dn 3 = false := ha.later 3 (by kernel_rfl)
    have u3 : upd dn 1 3 = false := d3
    have d4 : dn 4 = false := ha.later 4 (by kernel_rfl)
    have u4 : upd dn 1 4 = false := d4
    have d1 : dn 1 = false := ha.not
    have u1 : upd dn 1 1 = true := rfl
    simp only [d3, d4, d1, cond_true, cond_false, List.append_nil, List.nil_append]
    refine SXl.calln1 (ξ := EngP) (v := fun q => .agg (engL xa q).toArray) (F1 := engRes xa) rfl rfl rfl (fun w hl => hTa _ hl.mod) (fun q => ?_)
    refine SXl.nil (SQ.g { p with p := q } _ rfl (fun w hl => ?_) ⟨fun _ => rfl, hk.2.1, hk.2.2.1, trivial⟩)
    simp only [u3, u4, u1, cond_true, cond_false, List.append_nil, List.nil_append]
    exact hl
  repeat ((refine SXg.v0 (fun dn x p ha hK => (OpW.loadAll 2 rfl rfl rfl)) rfl (fun _ => rfl) rfl (fun _ _ => ⟨rfl, rfl, rfl⟩) rfl ?_))
  refine SXg.l rfl (fun _ => rfl) rfl (fun dn x p ha hk => ?_) ?_
  · have d1 : dn 1 = true := ha.done 1 (by kernel_rfl)
    have u1 : upd dn 3 1 = true := d1
    have d4 : dn 4 = false := ha.later 4 (by kernel_rfl)
    have u4 : upd dn 3 4 = false := d4
    have d3 : dn 3 = false := ha.not
    have u3 : upd dn 3 3 = true := rfl
    simp only [d1, d4, d3, cond_true, cond_false, List.append_nil, List.nil_append]
    refine SXl.calln1 (ξ := EngP) (v := fun q => .agg (engL xb q).toArray) (F1 := engRes xb) rfl rfl rfl (fun w hl => hTb _ hl.mod) (fun q => ?_)
    refine SXl.nil (SQ.g { p with q := q } _ rfl (fun w hl => ?_) ⟨hk.1, fun _ => rfl, hk.2.2.1, trivial⟩)
    simp only [u1, u4, u3, cond_true, cond_false, List.append_nil, List.nil_append]
    exact hl
  refine SXg.l rfl (fun _ => rfl) rfl (fun dn x p ha hk => ?_) ?_
  · have d1 : dn 1 = true := ha.done 1 (by kernel_rfl)
    have u1 : upd dn 4 1 = true := d1
    have d3 : dn 3 = true := ha.done 3 (by kernel_rfl)
    have u3 : upd dn 4 3 = true := d3
    have d4 : dn 4 = false := ha.not
    have u4 : upd dn 4 4 = true := rfl
    simp only [d1, d3, d4, cond_true, cond_false, List.append_nil, List.nil_append]
    have x1 : x 1 = .agg (engL xa p.p).toArray := hk.1 d1
    have x3 : x 3 = .agg (engL xb p.q).toArray := hk.2.1 d3
    simp only [x1, x3]
    refine SXl.calln1 (v := fun q => .slice q.a l.length q.c) (F1 := ownRes Asked.cells 101 6 l) rfl rfl rfl (fun w hl => (hN1 p.p p.q _ w (hl.res (engRes xb p.q) (by simp)).1).mono fun _ _ h => new_own h) (fun q => ?_)
    refine SXl.nil (SQ.g { p with r := q } _ rfl (fun w hl => ?_) ⟨hk.1, hk.2.1, fun _ => rfl, trivial⟩)
    simp only [u1, u3, u4, cond_true, cond_false, List.append_nil, List.nil_append]
    exact hl
  refine SXg.tail (fun xq p31 hkq => ?_)
  have x4 : xq 4 = .slice p31.r.a l.length p31.r.c := hkq.2.2.1 rfl
  simp only [x4]
  change SXl _ _ _ _ _ [⟨g8, engL xb q8, 43⟩, ⟨g7, engL xa q7, 43⟩, ⟨g3, engV xb ta2 tc2 ka2 kc2 kb2 kd2 fa2 fc2, 31⟩, ⟨g2, engV xa ta tc ka kc kb kd fa fc, 31⟩] [] [ownRes Asked.cells 101 6 l p31.r, engRes xb p31.q, engRes xa p31.p, engRes xb p16, engRes xa p14, markedAsked l r1, deadRes, deadRes, ownRes Asked.cells 101 6 l p8.r, engRes xb p8.q, engRes xa p8.p] _ _ _
  repeat (first | refine SX.seq ?_ | refine SXl.nil ?_ | refine SX.region ?_ | refine SQ.thenNormal ?_ | refine SX.skip ?_ | refine SX.condF rfl ?_ | (refine l_call ?_; (first | refine SXl.v (OpW.call rfl (fun w hl => hE _ _ _ _ _ _ _ (own_in hl (.head _) askedC_len (by decide)) (own_in hl (.tail _ (.tail _ (.tail _ (.tail _ (.tail _ (.tail _ (.tail _ (.tail _ (.head _))))))))) askedC_len (by decide)))) rfl ?_ ?_ ?_ | refine SXl.v (OpW.call rfl (fun w hl => heldAsked_own l r1 _ hll (hl.res _ (.tail _ (.tail _ (.tail _ (.tail _ (.tail _ (.head _))))))).1)) rfl ?_ ?_ ?_); rfl; rfl) | (refine l_move ?_; (refine SXl.v (OpW.move rfl) rfl ?_ ?_ ?_); rfl; rfl) | (refine l_assign ?_; (refine SXl.v (OpW.assign rfl) rfl ?_ ?_ ?_); rfl; rfl) | (refine l_lss ?_; (refine SXl.v (OpW.lssF rfl rfl (by omega)) rfl ?_ ?_ ?_); rfl; rfl) | (refine l_neq ?_; (refine SXl.v (OpW.neqF rfl rfl (by omega)) rfl ?_ ?_ ?_); rfl; rfl) | (refine l_not ?_; (refine SXl.v (OpW.not rfl) rfl ?_ ?_ ?_); rfl; rfl) | refine SX.ret ?_)
  refine SQ.body1 rfl rfl (fun w' hl => ⟨rfl, hl.mod⟩)
/-! ### The row's frame (the kit's skeleton, turned) -/
namespace fnExactAsksBetween
open Go.ChangeShapes Go.WideShapes Go.ChangeAt Go.RowKit
set_option linter.unusedVariables false

theorem own : ownKnob Try.prog.godebug = none := by kernel_rfl
theorem laidOut : laidOutB Try.prog = true := by kernel_rfl

set_option maxRecDepth 100000 in
theorem lifted (os : Os) (started : os.Started) (H : Type) (enc : TypeId × Value → H) :
    ReturnsInHanded {} Try.checked os 3 .any (Rows.fnExactAsksBetweenSpec.pre6 enc Try.prog Try.f3 Rows.fnExactAsksBetweenRow.domain false) (Rows.fnExactAsksBetweenSpec.post enc Try.prog Try.f3 false true false false) := by
  refine returnsInHanded_of_change (C := Try.checked) own started (by kernel_rfl) Try.func3
    (ChangeSpec.witness6 (enc := enc) (C := Try.checked) false ⟨#[], #[.agg #[.slice none 0 0, .slice none 0 0, .slice none 0 0, .slice none 0 0, .int .i64 0, .int .i64 0, .int .i64 0, .bool false], .agg #[.slice none 0 0, .slice none 0 0, .slice none 0 0, .slice none 0 0, .int .i64 0, .int .i64 0, .int .i64 0, .bool false]], []⟩ 8 (by kernel_rfl) (by kernel_rfl) (by kernel_rfl) (by kernel_rfl)) ?_
  intro W base args ds gs before hval0 hW hcnd _
  have hval : ∀ (j : Nat) t v, Try.f3.params[j]? = some t → args[j]? = some v → Value.okWide Try.prog W .any base t v := hval0
  have hW' := hW
  obtain ⟨p, q, hA0, hV, rfl, hfz, hnd⟩ := hW
  have hA : DataW.TrodAll enc Try.prog W 0 (fun _ => true) true Try.f3.params.toList args.toList ds p := hA0
  rw [Try.params3] at hA hval
  obtain ⟨v0, vs0, d0, ds0, p0, q0, hargs, rfl, rfl, h0, r0⟩ := trodAll_cons hA
  obtain ⟨v1, vs1, d1, ds1, p1, q1, rfl, rfl, rfl, h1, r1⟩ := trodAll_cons r0
  obtain ⟨rfl, rfl, rfl⟩ := trodAll_nil r1
  obtain rfl : args = #[v0, v1] := by cases args; simp_all
  obtain ⟨rfl, rfl⟩ := trodVars_none hV
  have k0 := h0
  have lt0 : ∀ x ∈ p0, x.block < W.heap.size := by obtain ⟨m, hm⟩ := k0; exact DataW.trod_lt m _ _ _ hm
  obtain ⟨cs0, rfl, _⟩ := okWide_struct Try.underlying31 (hval 0 31 v0 rfl rfl)
  have rd0 : Rd Try.prog W 31 cs0.toList := by obtain ⟨m, hm⟩ := k0; exact ⟨H, enc, m, _, hm⟩
  have k1 := h1
  have lt1 : ∀ x ∈ p1, x.block < W.heap.size := by obtain ⟨m, hm⟩ := k1; exact DataW.trod_lt m _ _ _ hm
  obtain ⟨cs1, rfl, _⟩ := okWide_struct Try.underlying31 (hval 1 31 v1 rfl rfl)
  have rd1 : Rd Try.prog W 31 cs1.toList := by obtain ⟨m, hm⟩ := k1; exact ⟨H, enc, m, _, hm⟩
  clear hA0 hval0
  refine (exactAsksBetween_walk W cs0 rd0 cs1 rd1).mono fun e W' ⟨he, hm⟩ => ?_
  have bel := hm.below (Nat.le_refl _) fun _ _ h => h
  subst he
  exact ⟨_, rfl, _, _, _, [], _, [], hW', trodAll_mk1 (shut_bool Try.underlying4 _), (trodAll_cons_mk (Below.trod laidOut (by kernel_rfl) (of_decide_eq_true (by kernel_rfl)) k0 bel lt0) (trodAll_cons_mk (Below.trod laidOut (by kernel_rfl) (of_decide_eq_true (by kernel_rfl)) k1 bel lt1) trodAll_mk0)), rfl, bel.frame _, fun h => by cases h⟩

theorem over : Rows.fnExactAsksBetweenRow.holds Try.pinned (OpenSpec.ofChange Rows.fnExactAsksBetweenSpec) :=
  OpenClaim.holds_of_wide 3 Try.f3 rfl rfl rfl rfl rfl rfl rfl ⟨rfl, rfl, rfl, rfl, rfl⟩ rfl rfl rfl rfl rfl (by kernel_rfl) Try.func3 (by kernel_rfl)
    (of_decide_eq_true (by kernel_rfl)) (by unfold Func.isWrapper; first | (rw [if_pos (by decide +kernel)]; kernel_rfl) | (rw [if_neg (by decide +kernel)]; exact ⟨rfl, rfl⟩))
    (fun os started H enc _ => lifted os started H enc)

theorem proved : Rows.FnExactAsksBetweenSaid := over
#print axioms proved
end fnExactAsksBetween


end Go.Proofs.Ythffgbhphjkdeaa
