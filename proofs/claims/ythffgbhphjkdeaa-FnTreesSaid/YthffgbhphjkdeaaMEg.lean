/-
  PROVED: contracts of functions and words on memory, several texts put together: what each says stands at its theorems. Conditions: as told there.
-/
import Derived.Test.YthffgbhphjkdeaaMEf
set_option linter.unusedVariables false
set_option linter.unusedSimpArgs false
namespace Go.Proofs.Ythffgbhphjkdeaa
open Go.RowKit
set_option linter.unusedVariables false
set_option linter.unusedSimpArgs false

set_option maxRecDepth 100000 in
set_option maxHeartbeats 16000000 in
theorem insertKid_any (l : List Node) (n kid at_ : Int) (o : Bool) (a : Option Addr) (c : Nat) (R : Nat → Prop) (w : World) (hlen : l.length ≤ 1048576) (hfit : ∀ x ∈ l, x.fits 1048576) (h : NodeSlice o R w a l) (hcap : KidsCap w a l.length) :
    Calls Try.prog 19 #[.agg #[.slice a l.length c], .int .i64 n, .int .i64 kid, .int .i64 at_] w (NewTreeC (insertKid l n kid at_) w) := by
  have hT := fun w' (hm : Mod (fun _ => False) w w') => treeOk_any l o a c R w' hlen hfit (h.keep hm)
  refine calls_sx Try.func19 rfl rfl (fun a h1 h2 h3 => ((((Fr.nil h1 h2).arg (h3 3 _ rfl)).arg (h3 2 _ rfl)).arg (h3 1 _ rfl)).arg (h3 0 _ rfl)) ?_
  repeat (first | refine qan ?_ | refine qaj ?_ | refine qaf ?_ | refine qad ?_ | (refine qaw ?_; (refine qac (qal 1 rfl rfl rfl) rfl ?_ ?_ ?_); rfl; rfl) | (refine qam ?_; (refine qac (qah rfl) rfl ?_ ?_ ?_); rfl; rfl) | (refine qaM ?_; refine SXl.alloc ?_ ?_ (fun g => ?_); rfl; rfl) | (refine l_box ?_; refine qaK ?_ ?_ rfl rfl (fun g => ?_); rfl; rfl))
  rename_i g8
  revert g; intro g9
  refine qat ?_
  refine SXl.callO rfl rfl rfl (fun w' hl => copyTree_any l o a c R w' hlen hfit (h.keep hl.mod)) (fun q hq => ?_)
  have hql := TreeQ.len hq
  rw [List.append_nil]
  cases hv : treeOk l
  · have e : insertKid l n kid at_ = (l, 1) := by simp [insertKid, hv]
    rw [e]
    rw [hv] at hT
    repeat (first | refine qan ?_ | refine qaj ?_ | refine qaf ?_ | refine qad ?_ | refine SX.block ?_ | refine qaq rfl ?_ | (refine qaS rfl rfl rfl ?_) | (refine qat ?_; (refine qac (qao rfl (fun w hl => hT _ hl.mod)) rfl ?_ ?_ ?_); rfl; rfl) | (refine qaw ?_; (first | refine qac (qal 0 rfl rfl rfl) rfl ?_ ?_ ?_ | refine qac (qal 2 rfl rfl rfl) rfl ?_ ?_ ?_); rfl; rfl) | (refine qap ?_; (refine qac (qak rfl) rfl ?_ ?_ ?_); rfl; rfl) | (refine qam ?_; (refine qac (qah rfl) rfl ?_ ?_ ?_); rfl; rfl) | (refine l_not ?_; (refine qac (OpW.not rfl) rfl ?_ ?_ ?_); rfl; rfl) | (refine qaF ?_; (refine qac (qay rfl rfl rfl) rfl ?_ ?_ ?_); rfl; rfl) | (refine qaM ?_; refine SXl.alloc ?_ ?_ (fun g => ?_); rfl; rfl) | (refine qau ?_; first | ((first | refine qag 0 ?_ rfl rfl rfl rfl rfl rfl ?_ | refine qag 1 ?_ rfl rfl rfl rfl rfl rfl ?_ | refine qag 2 ?_ rfl rfl rfl rfl rfl rfl ?_); rfl; simp only [List.set_cons_zero, List.set_cons_succ]) | ((first | refine qaa 0 ?_ rfl rfl rfl rfl rfl rfl rfl ?_ | refine qaa 1 ?_ rfl rfl rfl rfl rfl rfl rfl ?_ | refine qaa 2 ?_ rfl rfl rfl rfl rfl rfl rfl ?_); rfl; simp only [List.set_cons_zero, List.set_cons_succ]) | ((first | refine qab 0 ?_ rfl rfl rfl rfl rfl rfl rfl ?_ | refine qab 1 ?_ rfl rfl rfl rfl rfl rfl rfl ?_ | refine qab 2 ?_ rfl rfl rfl rfl rfl rfl rfl ?_); rfl; simp only [over, List.set_cons_zero, List.set_cons_succ])) | refine qaA ?_ | refine qax ?_ | refine qaD ?_)
    refine qaQ 1 rfl rfl rfl rfl rfl (fun w' hl => ⟨q, rfl, hq, hl.owns, hl.mod⟩)
  rw [hv] at hT
  cases hn : inB n 1 l.length
  · have e : insertKid l n kid at_ = (l, 1) := by simp [insertKid, hn]
    rw [e]
    repeat (first | refine qan ?_ | refine qaj ?_ | refine qaf ?_ | refine qad ?_ | refine SX.block ?_ | refine qaq rfl ?_ | (refine qaS rfl rfl rfl ?_) | (refine qat ?_; (first | refine qac (qao rfl (fun w hl => hT _ hl.mod)) rfl ?_ ?_ ?_ | refine qac (qao (args := [.agg #[.slice a l.length c], .int .i64 n]) rfl (fun w hl => isNode_any _ _ _ _ _)) rfl ?_ ?_ ?_); rfl; rfl) | (refine qaw ?_; (first | refine qac (qal 0 rfl rfl rfl) rfl ?_ ?_ ?_ | refine qac (qal 2 rfl rfl rfl) rfl ?_ ?_ ?_); rfl; rfl) | (refine qap ?_; (refine qac (qak rfl) rfl ?_ ?_ ?_); rfl; rfl) | (refine qam ?_; (refine qac (qah rfl) rfl ?_ ?_ ?_); rfl; rfl) | (refine l_not ?_; (refine qac (OpW.not rfl) rfl ?_ ?_ ?_); rfl; rfl) | (refine qaF ?_; (refine qac (qay rfl rfl rfl) rfl ?_ ?_ ?_); rfl; rfl) | (refine qaM ?_; refine SXl.alloc ?_ ?_ (fun g => ?_); rfl; rfl) | (refine qau ?_; first | ((first | refine qag 0 ?_ rfl rfl rfl rfl rfl rfl ?_ | refine qag 1 ?_ rfl rfl rfl rfl rfl rfl ?_ | refine qag 2 ?_ rfl rfl rfl rfl rfl rfl ?_); rfl; simp only [List.set_cons_zero, List.set_cons_succ]) | ((first | refine qaa 0 ?_ rfl rfl rfl rfl rfl rfl rfl ?_ | refine qaa 1 ?_ rfl rfl rfl rfl rfl rfl rfl ?_ | refine qaa 2 ?_ rfl rfl rfl rfl rfl rfl rfl ?_); rfl; simp only [List.set_cons_zero, List.set_cons_succ]) | ((first | refine qab 0 ?_ rfl rfl rfl rfl rfl rfl rfl ?_ | refine qab 1 ?_ rfl rfl rfl rfl rfl rfl rfl ?_ | refine qab 2 ?_ rfl rfl rfl rfl rfl rfl rfl ?_); rfl; simp only [over, List.set_cons_zero, List.set_cons_succ])) | (rw [hn]) | refine qaA ?_ | refine qax ?_ | refine qaD ?_)
    refine qaQ 1 rfl rfl rfl rfl rfl (fun w' hl => ⟨q, rfl, hq, hl.owns, hl.mod⟩)
  cases hk : inB kid 1 l.length
  · have e : insertKid l n kid at_ = (l, 1) := by simp [insertKid, hk]
    rw [e]
    repeat (first | refine qan ?_ | refine qaj ?_ | refine qaf ?_ | refine qad ?_ | refine SX.block ?_ | refine qaq rfl ?_ | (refine qat ?_; (first | refine qac (qao rfl (fun w hl => hT _ hl.mod)) rfl ?_ ?_ ?_ | refine qac (qao rfl (fun w hl => isNode_any _ _ _ _ _)) rfl ?_ ?_ ?_); rfl; rfl) | (refine qaw ?_; (first | refine qac (qal 0 rfl rfl rfl) rfl ?_ ?_ ?_ | refine qac (qal 2 rfl rfl rfl) rfl ?_ ?_ ?_); rfl; rfl) | (refine qap ?_; (refine qac (qak rfl) rfl ?_ ?_ ?_); rfl; rfl) | (refine qam ?_; (refine qac (qah rfl) rfl ?_ ?_ ?_); rfl; rfl) | (refine l_not ?_; (refine qac (OpW.not rfl) rfl ?_ ?_ ?_); rfl; rfl) | (refine qaF ?_; (refine qac (qay rfl rfl rfl) rfl ?_ ?_ ?_); rfl; rfl) | (refine qaM ?_; refine SXl.alloc ?_ ?_ (fun g => ?_); rfl; rfl) | (refine qau ?_; first | ((first | refine qag 0 ?_ rfl rfl rfl rfl rfl rfl ?_ | refine qag 1 ?_ rfl rfl rfl rfl rfl rfl ?_ | refine qag 2 ?_ rfl rfl rfl rfl rfl rfl ?_); rfl; simp only [List.set_cons_zero, List.set_cons_succ]) | ((first | refine qaa 0 ?_ rfl rfl rfl rfl rfl rfl rfl ?_ | refine qaa 1 ?_ rfl rfl rfl rfl rfl rfl rfl ?_ | refine qaa 2 ?_ rfl rfl rfl rfl rfl rfl rfl ?_); rfl; simp only [List.set_cons_zero, List.set_cons_succ]) | ((first | refine qab 0 ?_ rfl rfl rfl rfl rfl rfl rfl ?_ | refine qab 1 ?_ rfl rfl rfl rfl rfl rfl rfl ?_ | refine qab 2 ?_ rfl rfl rfl rfl rfl rfl rfl ?_); rfl; simp only [over, List.set_cons_zero, List.set_cons_succ])) | (rw [hn]) | (rw [hk]) | refine qaA ?_ | refine qax ?_ | refine qaD ?_)
    refine qaQ 1 rfl rfl rfl rfl rfl (fun w' hl => ⟨q, rfl, hq, hl.owns, hl.mod⟩)
  have hU := fun w' (hm : Mod (fun _ => False) w w') => isUnder_any l n kid o a c R w' hv (h.keep hm)
  by_cases hne : kid = n
  · subst hne
    have e : insertKid l kid kid at_ = (l, 2) := by simp [insertKid, hv, hn]
    rw [e]
    repeat (first | refine qan ?_ | refine qaj ?_ | refine qaf ?_ | refine qad ?_ | refine SX.block ?_ | refine qaq rfl ?_ | refine qas rfl ?_ | (refine qaS rfl rfl rfl ?_) | (refine qat ?_; (first | refine qac (qao rfl (fun w hl => hT _ hl.mod)) rfl ?_ ?_ ?_ | refine qac (qao rfl (fun w hl => isNode_any _ _ _ _ _)) rfl ?_ ?_ ?_); rfl; rfl) | (refine qaw ?_; (first | refine qac (qal 0 rfl rfl rfl) rfl ?_ ?_ ?_ | refine qac (qal 2 rfl rfl rfl) rfl ?_ ?_ ?_); rfl; rfl) | (refine qap ?_; (refine qac (qak rfl) rfl ?_ ?_ ?_); rfl; rfl) | (refine qam ?_; (refine qac (qah rfl) rfl ?_ ?_ ?_); rfl; rfl) | (refine l_eql ?_; (refine qac (qaP rfl rfl (by omega)) rfl ?_ ?_ ?_); rfl; rfl) | (refine l_not ?_; (refine qac (OpW.not rfl) rfl ?_ ?_ ?_); rfl; rfl) | (refine qaF ?_; (refine qac (qay rfl rfl rfl) rfl ?_ ?_ ?_); rfl; rfl) | (refine qaM ?_; refine SXl.alloc ?_ ?_ (fun g => ?_); rfl; rfl) | (refine qau ?_; first | ((first | refine qag 0 ?_ rfl rfl rfl rfl rfl rfl ?_ | refine qag 1 ?_ rfl rfl rfl rfl rfl rfl ?_ | refine qag 2 ?_ rfl rfl rfl rfl rfl rfl ?_); rfl; simp only [List.set_cons_zero, List.set_cons_succ]) | ((first | refine qaa 0 ?_ rfl rfl rfl rfl rfl rfl rfl ?_ | refine qaa 1 ?_ rfl rfl rfl rfl rfl rfl rfl ?_ | refine qaa 2 ?_ rfl rfl rfl rfl rfl rfl rfl ?_); rfl; simp only [List.set_cons_zero, List.set_cons_succ]) | ((first | refine qab 0 ?_ rfl rfl rfl rfl rfl rfl rfl ?_ | refine qab 1 ?_ rfl rfl rfl rfl rfl rfl rfl ?_ | refine qab 2 ?_ rfl rfl rfl rfl rfl rfl rfl ?_); rfl; simp only [over, List.set_cons_zero, List.set_cons_succ])) | (rw [hn]) | refine qaA ?_ | refine qax ?_ | refine qaD ?_)
    refine qaQ 1 rfl rfl rfl rfl rfl (fun w' hl => ⟨q, rfl, hq, hl.owns, hl.mod⟩)
  cases hu : isUnder l n kid
  rotate_left
  · have e : insertKid l n kid at_ = (l, 2) := by simp [insertKid, hv, hn, hk, hu]
    rw [e]
    rw [hu] at hU
    repeat (first | refine qan ?_ | refine qaj ?_ | refine qaf ?_ | refine qad ?_ | refine SX.block ?_ | refine qaq rfl ?_ | refine qas rfl ?_ | (refine qat ?_; (first | refine qac (qao rfl (fun w hl => hT _ hl.mod)) rfl ?_ ?_ ?_ | refine qac (qao rfl (fun w hl => isNode_any _ _ _ _ _)) rfl ?_ ?_ ?_ | refine qac (qao rfl (fun w hl => hU _ hl.mod)) rfl ?_ ?_ ?_); rfl; rfl) | (refine qaw ?_; (first | refine qac (qal 0 rfl rfl rfl) rfl ?_ ?_ ?_ | refine qac (qal 2 rfl rfl rfl) rfl ?_ ?_ ?_); rfl; rfl) | (refine qap ?_; (refine qac (qak rfl) rfl ?_ ?_ ?_); rfl; rfl) | (refine qam ?_; (refine qac (qah rfl) rfl ?_ ?_ ?_); rfl; rfl) | (refine l_eql ?_; (refine qac (qaO rfl rfl (by omega)) rfl ?_ ?_ ?_); rfl; rfl) | (refine l_not ?_; (refine qac (OpW.not rfl) rfl ?_ ?_ ?_); rfl; rfl) | (refine qaF ?_; (refine qac (qay rfl rfl rfl) rfl ?_ ?_ ?_); rfl; rfl) | (refine qaM ?_; refine SXl.alloc ?_ ?_ (fun g => ?_); rfl; rfl) | (refine qau ?_; first | ((first | refine qag 0 ?_ rfl rfl rfl rfl rfl rfl ?_ | refine qag 1 ?_ rfl rfl rfl rfl rfl rfl ?_ | refine qag 2 ?_ rfl rfl rfl rfl rfl rfl ?_); rfl; simp only [List.set_cons_zero, List.set_cons_succ]) | ((first | refine qaa 0 ?_ rfl rfl rfl rfl rfl rfl rfl ?_ | refine qaa 1 ?_ rfl rfl rfl rfl rfl rfl rfl ?_ | refine qaa 2 ?_ rfl rfl rfl rfl rfl rfl rfl ?_); rfl; simp only [List.set_cons_zero, List.set_cons_succ]) | ((first | refine qab 0 ?_ rfl rfl rfl rfl rfl rfl rfl ?_ | refine qab 1 ?_ rfl rfl rfl rfl rfl rfl rfl ?_ | refine qab 2 ?_ rfl rfl rfl rfl rfl rfl rfl ?_); rfl; simp only [over, List.set_cons_zero, List.set_cons_succ])) | (rw [hn]) | (rw [hk]) | refine qaA ?_ | refine qax ?_ | refine qaD ?_)
    refine qaQ 1 rfl rfl rfl rfl rfl (fun w' hl => ⟨q, rfl, hq, hl.owns, hl.mod⟩)
  rw [hu] at hU
  obtain ⟨kn, x, rfl, hkn, hx, hnx⟩ := node_get hn
  obtain ⟨kk, y, rfl, hkk, hy, hny⟩ := node_get hk
  obtain ⟨p, hp⟩ := pnode_get hq hx
  obtain ⟨py, hpy⟩ := pnode_get hq hy
  obtain ⟨b1, o1, x1, r1, rfl, hR1, hb1, hxk, hr1, hl1, hc1⟩ := h.get hkn
  obtain rfl : x1 = x := Option.some.inj (hxk.out.symm.trans hx)
  obtain ⟨ka, kc, rra, rrc, rfl, hk1, ht1, _⟩ := hr1
  obtain ⟨b2, o2, y1, r2, e2, hR2, hb2, hyk, hr2, hl2, hc2⟩ := h.get hkk
  obtain ⟨rfl, rfl⟩ : b1 = b2 ∧ o1 = o2 := by simpa using e2
  obtain rfl : y1 = y := Option.some.inj (hyk.out.symm.trans hy)
  obtain ⟨kb, kd, rrb, rrd, rfl, _, _, _⟩ := hr2
  have hkc := hcap _ _ rfl kn hkn _ _ _ (hc1 1 _ (nodeRow_1 _ _ _ _ _ _ _ _ _))
  have hkl : x1.kids.length ≤ 12 := ok_kids_len hv hx
  by_cases h0 : y1.up = 0
  rotate_left
  · have e : insertKid l ((kn + 1 : Nat) : Int) ((kk + 1 : Nat) : Int) at_ = (l, 3) := by simp only [insertKid, hv, hn, hk, hu, hny, decide_eq_false hne, decide_eq_true h0]; rfl
    rw [e]
    repeat (first | refine qan ?_ | refine qaj ?_ | refine qaf ?_ | refine qad ?_ | refine SX.block ?_ | refine qaq rfl ?_ | refine qas rfl ?_ | (refine qaS rfl rfl rfl ?_) | (refine qat ?_; (first | refine qac (qao rfl (fun w hl => hT _ hl.mod)) rfl ?_ ?_ ?_ | refine qac (qao rfl (fun w hl => isNode_any _ _ _ _ _)) rfl ?_ ?_ ?_ | refine qac (qao rfl (fun w hl => hU _ hl.mod)) rfl ?_ ?_ ?_ | refine qac (qao (args := [.agg #[.slice (some ⟨b1, o1, none⟩) l.length c], .int .i64 ((kk + 1 : Nat) : Int)]) rfl (fun w hl => node_any _ _ _ _ kk _ _ _ _ _ _ _ _ _ w (by omega) hkk (fun j v hv => hl.old (hc2 j v hv) (fun h => h)))) rfl ?_ ?_ ?_); rfl; rfl) | (refine l_field ?_; (refine qac (OpW.field rfl (nodeRow_a0 _ _ _ _ _ _ _ _ _)) rfl ?_ ?_ ?_); rfl; rfl) | (refine qaw ?_; (first | refine qac (qal 0 rfl rfl rfl) rfl ?_ ?_ ?_ | refine qac (qal 2 rfl rfl rfl) rfl ?_ ?_ ?_); rfl; rfl) | (refine qap ?_; (refine qac (qak rfl) rfl ?_ ?_ ?_); rfl; rfl) | (refine qam ?_; (refine qac (qah rfl) rfl ?_ ?_ ?_); rfl; rfl) | (refine l_eql ?_; (refine qac (qaO rfl rfl (by omega)) rfl ?_ ?_ ?_); rfl; rfl) | (refine l_neq ?_; (refine qac (OpW.neqT rfl rfl (by omega)) rfl ?_ ?_ ?_); rfl; rfl) | (refine l_not ?_; (refine qac (OpW.not rfl) rfl ?_ ?_ ?_); rfl; rfl) | (refine qaF ?_; (refine qac (qay rfl rfl rfl) rfl ?_ ?_ ?_); rfl; rfl) | (refine qaM ?_; refine SXl.alloc ?_ ?_ (fun g => ?_); rfl; rfl) | (refine qau ?_; first | ((first | refine qag 0 ?_ rfl rfl rfl rfl rfl rfl ?_ | refine qag 1 ?_ rfl rfl rfl rfl rfl rfl ?_ | refine qag 2 ?_ rfl rfl rfl rfl rfl rfl ?_); rfl; simp only [List.set_cons_zero, List.set_cons_succ]) | ((first | refine qaa 0 ?_ rfl rfl rfl rfl rfl rfl rfl ?_ | refine qaa 1 ?_ rfl rfl rfl rfl rfl rfl rfl ?_ | refine qaa 2 ?_ rfl rfl rfl rfl rfl rfl rfl ?_); rfl; simp only [List.set_cons_zero, List.set_cons_succ]) | ((first | refine qab 0 ?_ rfl rfl rfl rfl rfl rfl rfl ?_ | refine qab 1 ?_ rfl rfl rfl rfl rfl rfl rfl ?_ | refine qab 2 ?_ rfl rfl rfl rfl rfl rfl rfl ?_); rfl; simp only [over, List.set_cons_zero, List.set_cons_succ])) | (rw [hn]) | (rw [hk]) | refine qaA ?_ | refine qax ?_ | refine qaD ?_)
    refine qaQ 1 rfl rfl rfl rfl rfl (fun w' hl => ⟨q, rfl, hq, hl.owns, hl.mod⟩)
  cases ha : inB at_ 0 x1.kids.length
  · have e : insertKid l ((kn + 1 : Nat) : Int) ((kk + 1 : Nat) : Int) at_ = (l, 3) := by simp only [insertKid, hv, hn, hk, hu, hny, hnx, decide_eq_false hne, ha]; simp
    rw [e]
    repeat (first | refine qan ?_ | refine qaj ?_ | refine qaf ?_ | refine qad ?_ | refine SX.block ?_ | refine qaq rfl ?_ | refine qas rfl ?_ | (refine qat ?_; (first | refine qac (qao rfl (fun w hl => hT _ hl.mod)) rfl ?_ ?_ ?_ | refine qac (qao rfl (fun w hl => isNode_any _ _ _ _ _)) rfl ?_ ?_ ?_ | refine qac (qao rfl (fun w hl => hU _ hl.mod)) rfl ?_ ?_ ?_ | refine qac (qao (args := [.agg #[.slice (some ⟨b1, o1, none⟩) l.length c], .int .i64 ((kk + 1 : Nat) : Int)]) rfl (fun w hl => node_any _ _ _ _ kk _ _ _ _ _ _ _ _ _ w (by omega) hkk (fun j v hv => hl.old (hc2 j v hv) (fun h => h)))) rfl ?_ ?_ ?_ | refine qac (qao (args := [.agg #[.slice (some ⟨b1, o1, none⟩) l.length c], .int .i64 ((kn + 1 : Nat) : Int)]) rfl (fun w hl => node_any _ _ _ _ kn _ _ _ _ _ _ _ _ _ w (by omega) hkn (fun j v hv => hl.old (hc1 j v hv) (fun h => h)))) rfl ?_ ?_ ?_ | refine qac (qaJ rfl (fun w _ => in_any _ _ _ _)) rfl ?_ ?_ ?_); rfl; rfl) | (refine l_field ?_; (first | refine qac (OpW.field rfl (nodeRow_a0 _ _ _ _ _ _ _ _ _)) rfl ?_ ?_ ?_ | refine qac (OpW.field rfl (nodeRow_a1 _ _ _ _ _ _ _ _ _)) rfl ?_ ?_ ?_); rfl; rfl) | (refine qaw ?_; (first | refine qac (qal 0 rfl rfl rfl) rfl ?_ ?_ ?_ | refine qac (qal 2 rfl rfl rfl) rfl ?_ ?_ ?_); rfl; rfl) | (refine qap ?_; (refine qac (qak rfl) rfl ?_ ?_ ?_); rfl; rfl) | (refine qam ?_; (refine qac (qah rfl) rfl ?_ ?_ ?_); rfl; rfl) | (refine l_len ?_; (refine qac (OpW.len rfl) rfl ?_ ?_ ?_); rfl; rfl) | (refine l_eql ?_; (refine qac (qaO rfl rfl (by omega)) rfl ?_ ?_ ?_); rfl; rfl) | (refine l_neq ?_; (refine qac (OpW.neqF rfl rfl (by omega)) rfl ?_ ?_ ?_); rfl; rfl) | (refine l_not ?_; (refine qac (OpW.not rfl) rfl ?_ ?_ ?_); rfl; rfl) | (refine qaF ?_; (refine qac (qay rfl rfl rfl) rfl ?_ ?_ ?_); rfl; rfl) | (refine qaM ?_; refine SXl.alloc ?_ ?_ (fun g => ?_); rfl; rfl) | (refine qau ?_; first | ((first | refine qag 0 ?_ rfl rfl rfl rfl rfl rfl ?_ | refine qag 1 ?_ rfl rfl rfl rfl rfl rfl ?_ | refine qag 2 ?_ rfl rfl rfl rfl rfl rfl ?_); rfl; simp only [List.set_cons_zero, List.set_cons_succ]) | ((first | refine qaa 0 ?_ rfl rfl rfl rfl rfl rfl rfl ?_ | refine qaa 1 ?_ rfl rfl rfl rfl rfl rfl rfl ?_ | refine qaa 2 ?_ rfl rfl rfl rfl rfl rfl rfl ?_); rfl; simp only [List.set_cons_zero, List.set_cons_succ]) | ((first | refine qab 0 ?_ rfl rfl rfl rfl rfl rfl rfl ?_ | refine qab 1 ?_ rfl rfl rfl rfl rfl rfl rfl ?_ | refine qab 2 ?_ rfl rfl rfl rfl rfl rfl rfl ?_); rfl; simp only [over, List.set_cons_zero, List.set_cons_succ])) | (rw [hn]) | (rw [hk]) | (rw [ha]) | refine qaA ?_ | refine qax ?_ | refine qaD ?_)
    refine qaQ 1 rfl rfl rfl rfl rfl (fun w' hl => ⟨q, rfl, hq, hl.owns, hl.mod⟩)
  cases hme : x1.measured
  rotate_left
  · have e : insertKid l ((kn + 1 : Nat) : Int) ((kk + 1 : Nat) : Int) at_ = (l, 6) := by simp only [insertKid, hv, hn, hk, hu, hny, hnx, decide_eq_false hne, ha, h0, hme]; simp
    rw [e]
    repeat (first | refine qan ?_ | refine qaj ?_ | refine qaf ?_ | refine qad ?_ | refine SX.block ?_ | refine qaq rfl ?_ | refine qas rfl ?_ | (refine qat ?_; (first | refine qac (qao rfl (fun w hl => hT _ hl.mod)) rfl ?_ ?_ ?_ | refine qac (qao rfl (fun w hl => isNode_any _ _ _ _ _)) rfl ?_ ?_ ?_ | refine qac (qao rfl (fun w hl => hU _ hl.mod)) rfl ?_ ?_ ?_ | refine qac (qao (args := [.agg #[.slice (some ⟨b1, o1, none⟩) l.length c], .int .i64 ((kk + 1 : Nat) : Int)]) rfl (fun w hl => node_any _ _ _ _ kk _ _ _ _ _ _ _ _ _ w (by omega) hkk (fun j v hv => hl.old (hc2 j v hv) (fun h => h)))) rfl ?_ ?_ ?_ | refine qac (qao (args := [.agg #[.slice (some ⟨b1, o1, none⟩) l.length c], .int .i64 ((kn + 1 : Nat) : Int)]) rfl (fun w hl => node_any _ _ _ _ kn _ _ _ _ _ _ _ _ _ w (by omega) hkn (fun j v hv => hl.old (hc1 j v hv) (fun h => h)))) rfl ?_ ?_ ?_ | refine qac (qaJ rfl (fun w _ => in_any _ _ _ _)) rfl ?_ ?_ ?_); rfl; rfl) | (refine l_field ?_; (first | refine qac (OpW.field rfl (nodeRow_a0 _ _ _ _ _ _ _ _ _)) rfl ?_ ?_ ?_ | refine qac (OpW.field rfl (nodeRow_a1 _ _ _ _ _ _ _ _ _)) rfl ?_ ?_ ?_ | refine qac (OpW.field rfl (nodeRow_a62 _ _ _ _ _ _ _ _ _)) rfl ?_ ?_ ?_); rfl; rfl) | (refine qaw ?_; (first | refine qac (qal 0 rfl rfl rfl) rfl ?_ ?_ ?_ | refine qac (qal 2 rfl rfl rfl) rfl ?_ ?_ ?_); rfl; rfl) | (refine qap ?_; (refine qac (qak rfl) rfl ?_ ?_ ?_); rfl; rfl) | (refine qam ?_; (refine qac (qah rfl) rfl ?_ ?_ ?_); rfl; rfl) | (refine l_len ?_; (refine qac (OpW.len rfl) rfl ?_ ?_ ?_); rfl; rfl) | (refine l_eql ?_; (refine qac (qaO rfl rfl (by omega)) rfl ?_ ?_ ?_); rfl; rfl) | (refine l_neq ?_; (refine qac (OpW.neqF rfl rfl (by omega)) rfl ?_ ?_ ?_); rfl; rfl) | (refine l_not ?_; (refine qac (OpW.not rfl) rfl ?_ ?_ ?_); rfl; rfl) | (refine qaF ?_; (refine qac (qay rfl rfl rfl) rfl ?_ ?_ ?_); rfl; rfl) | (refine qaM ?_; refine SXl.alloc ?_ ?_ (fun g => ?_); rfl; rfl) | (refine qau ?_; first | ((first | refine qag 0 ?_ rfl rfl rfl rfl rfl rfl ?_ | refine qag 1 ?_ rfl rfl rfl rfl rfl rfl ?_ | refine qag 2 ?_ rfl rfl rfl rfl rfl rfl ?_); rfl; simp only [List.set_cons_zero, List.set_cons_succ]) | ((first | refine qaa 0 ?_ rfl rfl rfl rfl rfl rfl rfl ?_ | refine qaa 1 ?_ rfl rfl rfl rfl rfl rfl rfl ?_ | refine qaa 2 ?_ rfl rfl rfl rfl rfl rfl rfl ?_); rfl; simp only [List.set_cons_zero, List.set_cons_succ]) | ((first | refine qab 0 ?_ rfl rfl rfl rfl rfl rfl rfl ?_ | refine qab 1 ?_ rfl rfl rfl rfl rfl rfl rfl ?_ | refine qab 2 ?_ rfl rfl rfl rfl rfl rfl rfl ?_); rfl; simp only [over, List.set_cons_zero, List.set_cons_succ])) | (rw [hn]) | (rw [hk]) | (rw [ha]) | (rw [hme]) | refine qaA ?_ | refine qax ?_ | refine qaD ?_)
    refine qaQ 1 rfl rfl rfl rfl rfl (fun w' hl => ⟨q, rfl, hq, hl.owns, hl.mod⟩)
  obtain ⟨i, rfl, hi⟩ : ∃ i : Nat, at_ = (i : Int) ∧ i ≤ x1.kids.length := by
    have := inB_eq.1 ha
    exact ⟨at_.toNat, by omega, by omega⟩
  have e : insertKid l ((kn + 1 : Nat) : Int) ((kk + 1 : Nat) : Int) (i : Int) = if treeOk (putKid l ((kn + 1 : Nat) : Int) ((kk + 1 : Nat) : Int) i) then (putKid l ((kn + 1 : Nat) : Int) ((kk + 1 : Nat) : Int) i, 0) else (l, 7) := by simp only [insertKid, hv, hn, hk, hu, hny, hnx, decide_eq_false hne, ha, h0, hme, Int.toNat_natCast]; simp
  rw [e]
  obtain ⟨ps, qa, qc⟩ := q
  simp only at hq hql hp hpy
  refine SXl.know (fun w hl => tree_addr (l := ps) (a := qa) (c := qc) hl.owns (by omega)) (fun ⟨gt, hgt⟩ => ?_)
  subst hgt
  have hkp : kn < ps.length := by omega
  repeat (first | refine qan ?_ | refine qaj ?_ | refine qaf ?_ | refine qad ?_ | refine SX.block ?_ | refine qaC ?_ | refine qas rfl ?_ | (refine qat ?_; (first | refine qac (qao rfl (fun w hl => hT _ hl.mod)) rfl ?_ ?_ ?_ | refine qac (qao rfl (fun w hl => isNode_any _ _ _ _ _)) rfl ?_ ?_ ?_ | refine qac (qao rfl (fun w hl => hU _ hl.mod)) rfl ?_ ?_ ?_ | refine qac (qao (args := [.agg #[.slice (some ⟨b1, o1, none⟩) l.length c], .int .i64 ((kk + 1 : Nat) : Int)]) rfl (fun w hl => node_any _ _ _ _ kk _ _ _ _ _ _ _ _ _ w (by omega) hkk (fun j v hv => hl.old (hc2 j v hv) (fun h => h)))) rfl ?_ ?_ ?_ | refine qac (qao (args := [.agg #[.slice (some ⟨b1, o1, none⟩) l.length c], .int .i64 ((kn + 1 : Nat) : Int)]) rfl (fun w hl => node_any _ _ _ _ kn _ _ _ _ _ _ _ _ _ w (by omega) hkn (fun j v hv => hl.old (hc1 j v hv) (fun h => h)))) rfl ?_ ?_ ?_ | refine qac (qaJ rfl (fun w _ => in_any _ _ _ _)) rfl ?_ ?_ ?_); rfl; rfl) | (refine l_field ?_; (first | refine qac (OpW.field rfl (nodeRow_a0 _ _ _ _ _ _ _ _ _)) rfl ?_ ?_ ?_ | refine qac (OpW.field rfl (nodeRow_a1 _ _ _ _ _ _ _ _ _)) rfl ?_ ?_ ?_ | refine qac (OpW.field rfl (nodeRow_a62 _ _ _ _ _ _ _ _ _)) rfl ?_ ?_ ?_); rfl; rfl) | (refine qaw ?_; (refine qac (qal 2 rfl rfl rfl) rfl ?_ ?_ ?_); rfl; rfl) | (refine qap ?_; (refine qac (qak rfl) rfl ?_ ?_ ?_); rfl; rfl) | (refine qam ?_; (refine qac (qah rfl) rfl ?_ ?_ ?_); rfl; rfl) | (refine l_len ?_; (refine qac (OpW.len rfl) rfl ?_ ?_ ?_); rfl; rfl) | (refine l_eql ?_; (refine qac (qaO rfl rfl (by omega)) rfl ?_ ?_ ?_); rfl; rfl) | (refine l_neq ?_; (refine qac (OpW.neqF rfl rfl (by omega)) rfl ?_ ?_ ?_); rfl; rfl) | (refine l_not ?_; (refine qac (OpW.not rfl) rfl ?_ ?_ ?_); rfl; rfl) | (refine qaF ?_; (refine qac (qay rfl rfl rfl) rfl ?_ ?_ ?_); rfl; rfl) | (refine qaM ?_; refine SXl.alloc ?_ ?_ (fun g => ?_); rfl; rfl) | (refine qau ?_; first | ((first | refine qag 0 ?_ rfl rfl rfl rfl rfl rfl ?_ | refine qag 1 ?_ rfl rfl rfl rfl rfl rfl ?_ | refine qag 2 ?_ rfl rfl rfl rfl rfl rfl ?_); rfl; simp only [List.set_cons_zero, List.set_cons_succ]) | ((first | refine qaa 0 ?_ rfl rfl rfl rfl rfl rfl rfl ?_ | refine qaa 1 ?_ rfl rfl rfl rfl rfl rfl rfl ?_ | refine qaa 2 ?_ rfl rfl rfl rfl rfl rfl rfl ?_); rfl; simp only [List.set_cons_zero, List.set_cons_succ]) | ((first | refine qab 0 ?_ rfl rfl rfl rfl rfl rfl rfl ?_ | refine qab 1 ?_ rfl rfl rfl rfl rfl rfl rfl ?_ | refine qab 2 ?_ rfl rfl rfl rfl rfl rfl rfl ?_); rfl; simp only [over, List.set_cons_zero, List.set_cons_succ])) | (rw [hn]) | (rw [hk]) | (rw [ha]) | (rw [hme]) | refine qar ?_)
  obtain ⟨A, B, hAB, hA⟩ : ∃ A B : List Int, x1.kids = A ++ B ∧ A.length = i := ⟨x1.kids.take i, x1.kids.drop i, (List.take_append_drop _ _).symm, by rw [List.length_take]; omega⟩
  have hAe : x1.kids.take i = A := by rw [hAB, ← hA, List.take_left]
  have hBe : x1.kids.drop i = B := by rw [hAB, ← hA, List.drop_left]
  have hBl : x1.kids.length - i = B.length := by rw [hAB, List.length_append]; omega
  have hkA := SliceAt.takeS hk1 i
  have hkB := SliceAt.dropS hk1 hkc i
  rw [hAe] at hkA
  rw [hBe] at hkB
  refine SX.drawnG (ζ := Ch3) 15 (fun d p => [⟨g, [.slice (some ⟨gt, 0, none⟩) ps.length qc], 37⟩, ⟨g9, [.slice none 0 0], 37⟩, ⟨g8, [.slice (some ⟨b1, o1, none⟩) l.length c], 37⟩] ++ (bif d 9 then [⟨p.g1, [.int .i64 ((kk + 1 : Nat) : Int)], 3⟩] else []))
    (fun d p => (bif d 7 then [bif d 14 then ch3O A ((kk + 1 : Nat) : Int) B p else bif d 10 then ch2O A ((kk + 1 : Nat) : Int) p else ch1O A p] else []) ++ treeO ps (some ⟨gt, 0, none⟩) qc) (fun _ _ => [])
    [(7, fun p v => v = .slice p.a1 A.length p.c1), (9, fun p v => v = .slice (some ⟨p.g1, 0, none⟩) 1 1), (10, fun p v => v = .slice p.a2 (A.length + 1) p.c2), (14, fun p v => v = .slice p.a3 (A.length + 1 + B.length) p.c3)] default (by kernel_rfl) (by kernel_rfl) (by kernel_rfl) ⟨rfl, rfl, rfl⟩ ?_
  repeat (first | (refine SXg.v0 (fun dn x p ha hK => ((OpW.sliceToS rfl rfl (by omega)))) rfl (fun _ => rfl) rfl (fun _ _ => ⟨rfl, rfl, rfl⟩) rfl ?_) | (refine SXg.v0 (fun dn x p ha hK => (qav 0 rfl rfl rfl)) rfl (fun _ => rfl) rfl (fun _ _ => ⟨rfl, rfl, rfl⟩) rfl ?_) | (refine SXg.v0 (fun dn x p ha hK => (qae rfl)) rfl (fun _ => rfl) rfl (fun _ _ => ⟨rfl, rfl, rfl⟩) rfl ?_) | (refine SXg.v0 (fun dn x p ha hK => (qak rfl)) rfl (fun _ => rfl) rfl (fun _ _ => ⟨rfl, rfl, rfl⟩) rfl ?_) | (refine SXg.v0 (fun dn x p ha hK => (OpW.subi rfl rfl (by omega) (by omega))) rfl (fun _ => rfl) rfl (fun _ _ => ⟨rfl, rfl, rfl⟩) rfl ?_))
  refine SXg.l rfl (fun _ => rfl) rfl (fun dn x p ha hk => ?_) ?_
  · have d10 : dn 10 = false := ha.later 10 (by kernel_rfl)
    have u10 : upd dn 7 10 = false := d10
    have d14 : dn 14 = false := ha.later 14 (by kernel_rfl)
    have u14 : upd dn 7 14 = false := d14
    have d7 : dn 7 = false := ha.not
    have u7 : upd dn 7 7 = true := rfl
    have u9 : upd dn 7 9 = dn 9 := rfl
    simp only [d10, d14, d7, cond_true, cond_false, List.append_nil, List.nil_append]
    refine SXl.callO rfl rfl rfl (fun w' hl => copyInts_any A ka i kc _ w' hA.symm (by omega) (SliceAt.flatKeep hkA hl.mod)) (fun q1 _ => ?_)
    refine qaj (SQ.g { p with a1 := q1.1, c1 := q1.2 } _ rfl (fun w hl => ?_) ⟨fun _ => rfl, hk.2.1, hk.2.2.1, hk.2.2.2.1, trivial⟩)
    simp only [u10, u14, u7, u9, cond_true, cond_false, List.append_nil, List.nil_append]
    exact hl
  repeat ((refine SXg.v0 (fun dn x p ha hK => (qak rfl)) rfl (fun _ => rfl) rfl (fun _ _ => ⟨rfl, rfl, rfl⟩) rfl ?_))
  refine SXg.l rfl (fun _ => rfl) rfl (fun dn x p ha hk => ?_) ?_
  · have d10 : dn 10 = false := ha.later 10 (by kernel_rfl)
    have u10 : upd dn 9 10 = false := d10
    have d14 : dn 14 = false := ha.later 14 (by kernel_rfl)
    have u14 : upd dn 9 14 = false := d14
    have d9 : dn 9 = false := ha.not
    have u9 : upd dn 9 9 = true := rfl
    have u7 : upd dn 9 7 = dn 7 := rfl
    simp only [d10, d14, d9, cond_true, cond_false, List.append_nil, List.nil_append]
    refine SXl.lit1 rfl rfl rfl rfl rfl (fun g => ?_)
    refine qaj (SQ.g { p with g1 := g } _ rfl (fun w hl => ?_) ⟨hk.1, fun _ => rfl, hk.2.2.1, hk.2.2.2.1, trivial⟩)
    simp only [u10, u14, u9, u7, cond_true, cond_false, List.append_nil, List.nil_append]
    exact hl.blkLast
  skip
  refine SXg.l rfl (fun _ => rfl) rfl (fun dn x p ha hk => ?_) ?_
  · have d7 : dn 7 = true := ha.done 7 (by kernel_rfl)
    have u7 : upd dn 10 7 = true := d7
    have d9 : dn 9 = true := ha.done 9 (by kernel_rfl)
    have u9 : upd dn 10 9 = true := d9
    have d14 : dn 14 = false := ha.later 14 (by kernel_rfl)
    have u14 : upd dn 10 14 = false := d14
    have d10 : dn 10 = false := ha.not
    have u10 : upd dn 10 10 = true := rfl
    simp only [d7, d9, d14, d10, cond_true, cond_false, List.append_nil, List.nil_append]
    have x7 : x 7 = .slice p.a1 A.length p.c1 := hk.1 d7
    have x9 : x 9 = .slice (some ⟨p.g1, 0, none⟩) 1 1 := hk.2.1 d9
    simp only [x7, x9]
    refine SXl.append 0 3 rfl rfl rfl rfl rfl rfl rfl rfl (by omega) (by omega) (fun a' c' => ?_)
    try simp only [List.set_cons_zero]
    refine qaj (SQ.g { p with a2 := a', c2 := c' } _ rfl (fun w hl => ?_) ⟨hk.1, hk.2.1, fun _ => rfl, hk.2.2.2.1, trivial⟩)
    simp only [u7, u9, u14, u10, cond_true, cond_false, List.append_nil, List.nil_append]
    exact hl
  repeat (first | (refine SXg.v0 (fun dn x p ha hK => ((OpW.sliceFromS rfl rfl (by omega)))) rfl (fun _ => rfl) rfl (fun _ _ => ⟨rfl, rfl, rfl⟩) rfl ?_) | (refine SXg.v0 (fun dn x p ha hK => (qak rfl)) rfl (fun _ => rfl) rfl (fun _ _ => ⟨rfl, rfl, rfl⟩) rfl ?_))
  refine SXg.l rfl (fun _ => rfl) rfl (fun dn x p ha hk => ?_) ?_
  · have d7 : dn 7 = true := ha.done 7 (by kernel_rfl)
    have u7 : upd dn 14 7 = true := d7
    have d9 : dn 9 = true := ha.done 9 (by kernel_rfl)
    have u9 : upd dn 14 9 = true := d9
    have d10 : dn 10 = true := ha.done 10 (by kernel_rfl)
    have u10 : upd dn 14 10 = true := d10
    have d14 : dn 14 = false := ha.not
    have u14 : upd dn 14 14 = true := rfl
    simp only [d7, d9, d10, d14, cond_true, cond_false, List.append_nil, List.nil_append]
    have x10 : x 10 = .slice p.a2 (A.length + 1) p.c2 := hk.2.2.1 d10
    simp only [x10]
    refine SXl.appendS (cs := icell) 0 B rfl rfl rfl rfl rfl hBl (fun _ => rfl) icell_one1 (fun w hl => ⟨_, SliceAt.flatKeep hkB hl.mod⟩) (by omega) (by omega) (fun a' c' => ?_)
    try simp only [List.set_cons_zero]
    refine qaj (SQ.g { p with a3 := a', c3 := c' } _ rfl (fun w hl => ?_) ⟨hk.1, hk.2.1, hk.2.2.1, fun _ => rfl, trivial⟩)
    simp only [u7, u9, u10, u14, cond_true, cond_false, List.append_nil, List.nil_append]
    exact hl
  refine SXg.tail (fun xq pq hkq => ?_)
  have x14 : xq 14 = .slice pq.a3 (A.length + 1 + B.length) pq.c3 := hkq.2.2.2.1 rfl
  simp only [x14]
  have hk3 : ch3O A ((kk + 1 : Nat) : Int) B pq = kidsO (({ x1 with kids := A ++ [((kk + 1 : Nat) : Int)] ++ B } : Node), ({ p with ka := pq.a3, kc := pq.c3 } : NodeP)) := by
    unfold ch3O kidsO
    rw [show A.length + 1 + B.length = (A ++ [((kk + 1 : Nat) : Int)] ++ B).length by simp only [List.length_append, List.length_singleton], List.map_append, List.map_append, List.flatten_append, List.flatten_append]
    rfl
  show SXl _ _ _ _ _ [_, _, _, _] (ch3O A ((kk + 1 : Nat) : Int) B pq :: treeO ps (some ⟨gt, 0, none⟩) qc) _ _ _ _
  rw [hk3]
  have hlAB : (A ++ [((kk + 1 : Nat) : Int)] ++ B).length = A.length + 1 + B.length := by simp only [List.length_append, List.length_singleton]
  repeat (first | (refine qaN ?_; (refine qac ((qaH (i := kn) hkp rfl (congrArg (fun i : Int => some (Value.int .i64 i)) (by omega : ((kn + 1 : Nat) : Int) - 1 = (kn : Int))))) rfl ?_ ?_ ?_); rfl; rfl) | (refine qai ?_; (refine qac (qae rfl) rfl ?_ ?_ ?_); rfl; rfl))
  refine SXl.treeKids0 (c := qc) (({ x1 with kids := A ++ [((kk + 1 : Nat) : Int)] ++ B } : Node), ({ p with ka := pq.a3, kc := pq.c3 } : NodeP)) hp rfl rfl rfl rfl (by rw [← hlAB]; rfl) rfl ?_
  have hkk2 : kk ≠ kn := by omega
  have hpy2 : (ps.set kn (({ x1 with kids := A ++ [((kk + 1 : Nat) : Int)] ++ B } : Node), ({ p with ka := pq.a3, kc := pq.c3 } : NodeP)))[kk]? = some (y1, py) := by rw [List.getElem?_set_ne (fun e => hkk2 e.symm)]; exact hpy
  have hkp2 : kk < ps.length := by omega
  repeat (first | refine qan ?_ | refine qaj ?_ | refine qaf ?_ | refine qad ?_ | (refine qaN ?_; (refine qac ((qaH (i := kk) hkp2 rfl (congrArg (fun i : Int => some (Value.int .i64 i)) (by omega : ((kk + 1 : Nat) : Int) - 1 = (kk : Int))))) rfl ?_ ?_ ?_); rfl; rfl) | (refine qaw ?_; (refine qac (qav 0 rfl rfl rfl) rfl ?_ ?_ ?_); rfl; rfl) | (refine qai ?_; (refine qac (qae rfl) rfl ?_ ?_ ?_); rfl; rfl) | (refine qap ?_; (refine qac (qak rfl) rfl ?_ ?_ ?_); rfl; rfl) | (refine l_sub ?_; (refine qac (OpW.subi rfl rfl (by omega) (by omega)) rfl ?_ ?_ ?_); rfl; rfl))
  refine SXl.treeCell0 (c := qc) ({ y1 with up := ((kn + 1 : Nat) : Int) }, py) hpy2 rfl rfl rfl rfl (by decide) rfl rfl rfl ?_
  obtain ⟨P2, hP2⟩ : ∃ P2, P2 = (ps.set kn (({ x1 with kids := A ++ [((kk + 1 : Nat) : Int)] ++ B } : Node), ({ p with ka := pq.a3, kc := pq.c3 } : NodeP))).set kk ({ y1 with up := ((kn + 1 : Nat) : Int) }, py) := ⟨_, rfl⟩
  rw [← hP2]
  have hb2 : bare P2 = putKid l ((kn + 1 : Nat) : Int) ((kk + 1 : Nat) : Int) i := by
    rw [hP2, bare_set, bare_set, hq]
    unfold putKid
    rw [hnx, hny, hAe, hBe, show (((kn + 1 : Nat) : Int) - 1).toNat = kn by omega, show (((kk + 1 : Nat) : Int) - 1).toNat = kk by omega]
  have hb2l : (bare P2).length = ps.length := by rw [hP2]; simp [bare]
  have hfit2 : ∀ z ∈ bare P2, z.fits 1048576 := fun z hz => by
    rw [hP2, bare_set, bare_set, hq] at hz
    have hfx := hfit x1 (List.mem_of_getElem? hx)
    have hfy := hfit y1 (List.mem_of_getElem? hy)
    rcases List.mem_or_eq_of_mem_set hz with hz | rfl
    · rcases List.mem_or_eq_of_mem_set hz with hz | rfl
      · exact hfit z hz
      · refine ⟨?_, hfx.2⟩
        show (A ++ [((kk + 1 : Nat) : Int)] ++ B).length ≤ _
        rw [hlAB]
        omega
    · exact hfy
  have hD := fun m w' h2 => depthOf_any (bare P2) m false (some ⟨gt, 0, none⟩) qc (fun k => w.heap.size ≤ k) w' (by omega) h2
  rw [hb2l, hb2] at hD
  have hPok := putKid_ok (i := i) hv hn hk hne hu (by rw [hny]; exact h0) (by rw [hnx]; exact hme)
  repeat (first | refine qan ?_ | refine qaj ?_ | refine qaf ?_ | refine qad ?_ | refine SX.block ?_ | (refine qaw ?_; (refine qac (qav 0 rfl rfl rfl) rfl ?_ ?_ ?_); rfl; rfl) | (refine qai ?_; (refine qac (qae rfl) rfl ?_ ?_ ?_); rfl; rfl) | (refine qap ?_; (refine qac (qak rfl) rfl ?_ ?_ ?_); rfl; rfl) | (refine l_len ?_; (refine qac (OpW.len rfl) rfl ?_ ?_ ?_); rfl; rfl))
  refine SX.loop3 (fun (j : Nat) (_ _ : Unit) => j ≤ ps.length ∧ ∀ m : Int, 1 ≤ m → m ≤ (j : Int) → dep (putKid l ((kn + 1 : Nat) : Int) ((kk + 1 : Nat) : Int) i) m ≤ 4) (fun j _ _ => ps.length - j) (fun _ _ _ => [⟨g, [.slice (some ⟨gt, 0, none⟩) ps.length qc], 37⟩, ⟨g9, [.slice none 0 0], 37⟩, ⟨g8, [.slice (some ⟨b1, o1, none⟩) l.length c], 37⟩]) (fun _ _ _ => treeO P2 (some ⟨gt, 0, none⟩) qc) (fun _ _ _ => []) (fun j _ _ => [(4, .pointer (some ⟨g8, 0, none⟩)), (8, .pointer (some ⟨g9, 0, none⟩)), (9, .int .i64 0), (10, .pointer (some ⟨g, 0, none⟩)), (96, .int .i64 ps.length), (97, .int .i64 j)]) 0 () () ⟨Nat.zero_le _, fun m h1 h2 => by omega⟩ ?_ (fun w hl => hl.blkTake 3) ?_
  · (repeat (first | exact subF_nil _ | (refine subF_cons rfl ?_) | (refine subF_consv rfl (by rfl) ?_)))
  rintro j _ _ ⟨hj, hall⟩
  by_cases hjl : j < ps.length
  rotate_left
  · have hok : treeOk (putKid l ((kn + 1 : Nat) : Int) ((kk + 1 : Nat) : Int) i) = true := hPok.2 fun m hm => by
      have := inB_eq.1 hm
      exact hall m this.1 (by omega)
    rw [if_pos hok]
    repeat (first | refine qan ?_ | refine qaj ?_ | refine qaf ?_ | refine qad ?_ | refine qas rfl ?_ | (refine qaw ?_; (refine qac (qal 0 rfl rfl rfl) rfl ?_ ?_ ?_); rfl; rfl) | (refine qam ?_; (refine qac (qah rfl) rfl ?_ ?_ ?_); rfl; rfl) | (refine l_lss ?_; (refine qac (OpW.lssF rfl rfl (by omega)) rfl ?_ ?_ ?_); rfl; rfl) | (refine qau ?_; first | ((first | refine qag 0 ?_ rfl rfl rfl rfl rfl rfl ?_ | refine qag 1 ?_ rfl rfl rfl rfl rfl rfl ?_ | refine qag 2 ?_ rfl rfl rfl rfl rfl rfl ?_); rfl; simp only [List.set_cons_zero, List.set_cons_succ]) | ((first | refine qaa 0 ?_ rfl rfl rfl rfl rfl rfl rfl ?_ | refine qaa 1 ?_ rfl rfl rfl rfl rfl rfl rfl ?_ | refine qaa 2 ?_ rfl rfl rfl rfl rfl rfl rfl ?_); rfl; simp only [List.set_cons_zero, List.set_cons_succ]) | ((first | refine qab 0 ?_ rfl rfl rfl rfl rfl rfl rfl ?_ | refine qab 1 ?_ rfl rfl rfl rfl rfl rfl rfl ?_ | refine qab 2 ?_ rfl rfl rfl rfl rfl rfl rfl ?_); rfl; simp only [over, List.set_cons_zero, List.set_cons_succ])) | refine qaA ?_ | refine SX.exit ?_ | refine qaL ?_ | refine qaI ?_)
    refine qaQ 1 rfl rfl rfl rfl rfl (fun w' hl => ⟨⟨P2, some ⟨gt, 0, none⟩, qc⟩, ?_, hb2, hl.owns, hl.mod⟩)
    rw [show ps.length = P2.length by rw [← hb2l, bare_len]]
    rfl
  have hDj := fun w' h2 => hD ((j + 1 : Nat) : Int) w' h2
  rw [show depthF (putKid l ((kn + 1 : Nat) : Int) ((kk + 1 : Nat) : Int) i) (ps.length + 1) ((j + 1 : Nat) : Int) 0 = dep (putKid l ((kn + 1 : Nat) : Int) ((kk + 1 : Nat) : Int) i) ((j + 1 : Nat) : Int) by unfold dep; rw [putKid_len, hql]] at hDj
  by_cases hd4 : dep (putKid l ((kn + 1 : Nat) : Int) ((kk + 1 : Nat) : Int) i) ((j + 1 : Nat) : Int) ≤ 4
  · repeat (first | refine qan ?_ | refine qaj ?_ | refine qaf ?_ | refine qad ?_ | refine SX.block ?_ | refine qaC ?_ | refine qaq rfl ?_ | refine qas rfl ?_ | (refine qat ?_; (refine qac (qao rfl (fun w hl => hDj _ (hb2 ▸ tree_in hl.owns))) rfl ?_ ?_ ?_); rfl; rfl) | (refine qaw ?_; (refine qac (qal 0 rfl rfl rfl) rfl ?_ ?_ ?_); rfl; rfl) | (refine qap ?_; (refine qac (qak rfl) rfl ?_ ?_ ?_); rfl; rfl) | (refine qam ?_; (refine qac (qah rfl) rfl ?_ ?_ ?_); rfl; rfl) | (refine l_add ?_; (refine qac (OpW.succ rfl rfl (by omega)) rfl ?_ ?_ ?_); rfl; rfl) | (refine l_gtr ?_; (refine qac (OpW.gtrF rfl rfl (by omega)) rfl ?_ ?_ ?_); rfl; rfl) | (refine l_lss ?_; (refine qac (OpW.lssT rfl rfl (by omega)) rfl ?_ ?_ ?_); rfl; rfl) | refine qar ?_)
    refine SQ.round3 (j + 1) () () ⟨by omega, fun m h1 h2 => ?_⟩ (by omega) ?_ (fun w hl => hl)
    · by_cases e : m = ((j + 1 : Nat) : Int)
      · rw [e]; exact hd4
      · exact hall m h1 (by omega)
    · (repeat (first | exact subF_nil _ | (refine subF_cons rfl ?_) | (refine subF_consv rfl (by rfl) ?_)))
  · rw [if_neg (fun h => hd4 (hPok.1 h _ (inB_true (by omega) (by omega))))]
    repeat (first | refine qan ?_ | refine qaj ?_ | refine qaf ?_ | refine qad ?_ | refine SX.block ?_ | refine qaC ?_ | refine qaq rfl ?_ | (refine qat ?_; (refine qac (qao rfl (fun w hl => hDj _ (hb2 ▸ tree_in hl.owns))) rfl ?_ ?_ ?_); rfl; rfl) | (refine qaw ?_; (first | refine qac (qal 0 rfl rfl rfl) rfl ?_ ?_ ?_ | refine qac (qal 2 rfl rfl rfl) rfl ?_ ?_ ?_); rfl; rfl) | (refine qap ?_; (refine qac (qak rfl) rfl ?_ ?_ ?_); rfl; rfl) | (refine qam ?_; (refine qac (qah rfl) rfl ?_ ?_ ?_); rfl; rfl) | (refine l_add ?_; (refine qac (OpW.succ rfl rfl (by omega)) rfl ?_ ?_ ?_); rfl; rfl) | (refine l_gtr ?_; (refine qac (OpW.gtrT rfl rfl (by omega)) rfl ?_ ?_ ?_); rfl; rfl) | (refine l_lss ?_; (refine qac (OpW.lssT rfl rfl (by omega)) rfl ?_ ?_ ?_); rfl; rfl))
    refine qat ?_
    refine SXl.callO rfl rfl rfl (fun w' hl => copyTree_any l o _ c R w' hlen hfit (h.keep hl.mod)) (fun q2 hq2 => ?_)
    repeat (first | refine qaj ?_ | refine qad ?_ | (refine qam ?_; (refine qac (qah rfl) rfl ?_ ?_ ?_); rfl; rfl) | (refine qau ?_; first | ((first | refine qag 0 ?_ rfl rfl rfl rfl rfl rfl ?_ | refine qag 1 ?_ rfl rfl rfl rfl rfl rfl ?_ | refine qag 2 ?_ rfl rfl rfl rfl rfl rfl ?_); rfl; simp only [List.set_cons_zero, List.set_cons_succ]) | ((first | refine qaa 0 ?_ rfl rfl rfl rfl rfl rfl rfl ?_ | refine qaa 1 ?_ rfl rfl rfl rfl rfl rfl rfl ?_ | refine qaa 2 ?_ rfl rfl rfl rfl rfl rfl rfl ?_); rfl; simp only [List.set_cons_zero, List.set_cons_succ]) | ((first | refine qab 0 ?_ rfl rfl rfl rfl rfl rfl rfl ?_ | refine qab 1 ?_ rfl rfl rfl rfl rfl rfl rfl ?_ | refine qab 2 ?_ rfl rfl rfl rfl rfl rfl rfl ?_); rfl; simp only [over, List.set_cons_zero, List.set_cons_succ])) | refine qaA ?_ | refine qax ?_ | refine qaD ?_)
    refine qaQ 1 rfl rfl rfl rfl rfl (fun w' hl => ⟨q2, rfl, hq2, hl.owns.left, hl.mod⟩)
end Go.Proofs.Ythffgbhphjkdeaa
namespace Go.Proofs.Ythffgbhphjkdeaa
open Go.RowKit
set_option linter.unusedVariables false
set_option linter.unusedSimpArgs false

set_option maxRecDepth 100000 in
set_option maxHeartbeats 8000000 in
theorem addNode_any (l : List Node) (s : Style) (o : Bool) (a : Option Addr) (c : Nat) (R : Nat → Prop) (w : World) (hlen : l.length ≤ 1048576) (hfit : ∀ x ∈ l, x.fits 1048576) (h : NodeSlice o R w a l) :
    Calls Try.prog 24 #[.agg #[.slice a l.length c], .agg s.cells.toArray] w (NewTreeC (addNode l s) w) := by
  have hT := fun w' (hm : Mod (fun _ => False) w w') => treeOk_any l o a c R w' hlen hfit (h.keep hm)
  have hS := fun w => styleC_any s w
  refine calls_sx Try.func24 rfl rfl (fun a h1 h2 h3 => ((Fr.nil h1 h2).arg (h3 1 _ rfl)).arg (h3 0 _ rfl)) ?_
  repeat (first | refine qan ?_ | refine qaj ?_ | refine qaf ?_ | refine qad ?_ | (refine qaw ?_; (refine qac (qal 2 rfl rfl rfl) rfl ?_ ?_ ?_); rfl; rfl) | (refine qam ?_; (refine qac (qah rfl) rfl ?_ ?_ ?_); rfl; rfl) | (refine qaM ?_; refine SXl.alloc ?_ ?_ (fun g => ?_); rfl; rfl) | (refine l_box ?_; refine qaK ?_ ?_ rfl rfl (fun g => ?_); rfl; rfl))
  refine qat ?_
  refine SXl.callO rfl rfl rfl (fun w' hl => copyTree_any l o a c R w' hlen hfit (h.keep hl.mod)) (fun q hq => ?_)
  have hql := TreeQ.len hq
  rw [List.append_nil]
  cases hv : treeOk l
  · have e : addNode l s = (l, 0) := by simp [addNode, hv]
    rw [e]
    rw [hv] at hT
    repeat (first | refine qan ?_ | refine qaj ?_ | refine qaf ?_ | refine qad ?_ | refine qaq rfl ?_ | (refine qaS rfl rfl rfl ?_) | (refine qat ?_; (refine qac (qao rfl (fun w hl => hT _ hl.mod)) rfl ?_ ?_ ?_); rfl; rfl) | (refine qaw ?_; (first | refine qac (qal 0 rfl rfl rfl) rfl ?_ ?_ ?_ | refine qac (qal 3 rfl rfl rfl) rfl ?_ ?_ ?_); rfl; rfl) | (refine qap ?_; (refine qac (qak rfl) rfl ?_ ?_ ?_); rfl; rfl) | (refine qam ?_; (refine qac (qah rfl) rfl ?_ ?_ ?_); rfl; rfl) | (refine l_not ?_; (refine qac (OpW.not rfl) rfl ?_ ?_ ?_); rfl; rfl) | (refine qaF ?_; (refine qac (qay rfl rfl rfl) rfl ?_ ?_ ?_); rfl; rfl) | (refine qaM ?_; refine SXl.alloc ?_ ?_ (fun g => ?_); rfl; rfl) | (refine qau ?_; first | ((first | refine qag 0 ?_ rfl rfl rfl rfl rfl rfl ?_ | refine qag 1 ?_ rfl rfl rfl rfl rfl rfl ?_ | refine qag 2 ?_ rfl rfl rfl rfl rfl rfl ?_); rfl; simp only [List.set_cons_zero, List.set_cons_succ]) | ((first | refine qaa 0 ?_ rfl rfl rfl rfl rfl rfl rfl ?_ | refine qaa 1 ?_ rfl rfl rfl rfl rfl rfl rfl ?_ | refine qaa 2 ?_ rfl rfl rfl rfl rfl rfl rfl ?_); rfl; simp only [List.set_cons_zero, List.set_cons_succ]) | ((first | refine qab 0 ?_ rfl rfl rfl rfl rfl rfl rfl ?_ | refine qab 1 ?_ rfl rfl rfl rfl rfl rfl rfl ?_ | refine qab 2 ?_ rfl rfl rfl rfl rfl rfl rfl ?_); rfl; simp only [over, List.set_cons_zero, List.set_cons_succ])) | refine qaA ?_ | refine qax ?_)
    refine qaQ 1 rfl rfl rfl rfl rfl (fun w' hl => ⟨q, rfl, hq, hl.owns, hl.mod⟩)
  cases hs : styleOk s
  · have e : addNode l s = (l, 0) := by simp [addNode, hs]
    rw [e]
    rw [hv] at hT
    rw [hs] at hS
    repeat (first | refine qan ?_ | refine qaj ?_ | refine qaf ?_ | refine qad ?_ | refine qaq rfl ?_ | (refine qaS rfl rfl rfl ?_) | (refine qat ?_; (first | refine qac (qao rfl (fun w hl => hT _ hl.mod)) rfl ?_ ?_ ?_ | refine qac (qao rfl (fun w hl => hS _)) rfl ?_ ?_ ?_); rfl; rfl) | (refine qaw ?_; (first | refine qac (qal 0 rfl rfl rfl) rfl ?_ ?_ ?_ | refine qac (qal 2 rfl rfl rfl) rfl ?_ ?_ ?_ | refine qac (qal 3 rfl rfl rfl) rfl ?_ ?_ ?_); rfl; rfl) | (refine qap ?_; (refine qac (qak rfl) rfl ?_ ?_ ?_); rfl; rfl) | (refine qam ?_; (refine qac (qah rfl) rfl ?_ ?_ ?_); rfl; rfl) | (refine l_not ?_; (refine qac (OpW.not rfl) rfl ?_ ?_ ?_); rfl; rfl) | (refine qaF ?_; (refine qac (qay rfl rfl rfl) rfl ?_ ?_ ?_); rfl; rfl) | (refine qaM ?_; refine SXl.alloc ?_ ?_ (fun g => ?_); rfl; rfl) | (refine qau ?_; first | ((first | refine qag 0 ?_ rfl rfl rfl rfl rfl rfl ?_ | refine qag 1 ?_ rfl rfl rfl rfl rfl rfl ?_ | refine qag 2 ?_ rfl rfl rfl rfl rfl rfl ?_); rfl; simp only [List.set_cons_zero, List.set_cons_succ]) | ((first | refine qaa 0 ?_ rfl rfl rfl rfl rfl rfl rfl ?_ | refine qaa 1 ?_ rfl rfl rfl rfl rfl rfl rfl ?_ | refine qaa 2 ?_ rfl rfl rfl rfl rfl rfl rfl ?_); rfl; simp only [List.set_cons_zero, List.set_cons_succ]) | ((first | refine qab 0 ?_ rfl rfl rfl rfl rfl rfl rfl ?_ | refine qab 1 ?_ rfl rfl rfl rfl rfl rfl rfl ?_ | refine qab 2 ?_ rfl rfl rfl rfl rfl rfl rfl ?_); rfl; simp only [over, List.set_cons_zero, List.set_cons_succ])) | refine qaA ?_ | refine qax ?_)
    refine qaQ 1 rfl rfl rfl rfl rfl (fun w' hl => ⟨q, rfl, hq, hl.owns, hl.mod⟩)
  rw [hv] at hT
  rw [hs] at hS
  by_cases hn : l.length < 12
  rotate_left
  · have e : addNode l s = (l, 0) := by simp [addNode, hn]
    rw [e]
    repeat (first | refine qan ?_ | refine qaj ?_ | refine qaf ?_ | refine qad ?_ | refine qaq rfl ?_ | (refine qat ?_; (first | refine qac (qao rfl (fun w hl => hT _ hl.mod)) rfl ?_ ?_ ?_ | refine qac (qao rfl (fun w hl => hS _)) rfl ?_ ?_ ?_); rfl; rfl) | (refine qaw ?_; (first | refine qac (qav 3 rfl rfl rfl) rfl ?_ ?_ ?_ | refine qac (qal 0 rfl rfl rfl) rfl ?_ ?_ ?_ | refine qac (qal 2 rfl rfl rfl) rfl ?_ ?_ ?_ | refine qac (qal 3 rfl rfl rfl) rfl ?_ ?_ ?_); rfl; rfl) | (refine qai ?_; (refine qac (qae rfl) rfl ?_ ?_ ?_); rfl; rfl) | (refine qap ?_; (refine qac (qak rfl) rfl ?_ ?_ ?_); rfl; rfl) | (refine qam ?_; (refine qac (qah rfl) rfl ?_ ?_ ?_); rfl; rfl) | (refine l_len ?_; (refine qac (OpW.len rfl) rfl ?_ ?_ ?_); rfl; rfl) | (refine l_geq ?_; (refine qac (OpW.geqT rfl rfl (by omega)) rfl ?_ ?_ ?_); rfl; rfl) | (refine l_not ?_; (refine qac (OpW.not rfl) rfl ?_ ?_ ?_); rfl; rfl) | (refine qaF ?_; (refine qac (qay rfl rfl rfl) rfl ?_ ?_ ?_); rfl; rfl) | (refine qaM ?_; refine SXl.alloc ?_ ?_ (fun g => ?_); rfl; rfl) | (refine qau ?_; first | ((first | refine qag 0 ?_ rfl rfl rfl rfl rfl rfl ?_ | refine qag 1 ?_ rfl rfl rfl rfl rfl rfl ?_ | refine qag 2 ?_ rfl rfl rfl rfl rfl rfl ?_); rfl; simp only [List.set_cons_zero, List.set_cons_succ]) | ((first | refine qaa 0 ?_ rfl rfl rfl rfl rfl rfl rfl ?_ | refine qaa 1 ?_ rfl rfl rfl rfl rfl rfl rfl ?_ | refine qaa 2 ?_ rfl rfl rfl rfl rfl rfl rfl ?_); rfl; simp only [List.set_cons_zero, List.set_cons_succ]) | ((first | refine qab 0 ?_ rfl rfl rfl rfl rfl rfl rfl ?_ | refine qab 1 ?_ rfl rfl rfl rfl rfl rfl rfl ?_ | refine qab 2 ?_ rfl rfl rfl rfl rfl rfl rfl ?_); rfl; simp only [over, List.set_cons_zero, List.set_cons_succ])) | refine qaA ?_ | refine qax ?_)
    refine qaQ 1 rfl rfl rfl rfl rfl (fun w' hl => ⟨q, rfl, hq, hl.owns, hl.mod⟩)
  have e : addNode l s = (l ++ [⟨0, [], s, false, []⟩], (l.length : Int) + 1) := by simp [addNode, hv, hs, hn]
  rw [e]
  repeat (first | refine qan ?_ | refine qaj ?_ | refine qaf ?_ | refine qad ?_ | refine qaC ?_ | refine qas rfl ?_ | (refine qat ?_; (first | refine qac (qao rfl (fun w hl => hT _ hl.mod)) rfl ?_ ?_ ?_ | refine qac (qao rfl (fun w hl => hS _)) rfl ?_ ?_ ?_); rfl; rfl) | (refine l_build ?_; (refine qac ((OpW.build (vals := [(2, .agg s.cells.toArray)]) (cells := rowP (⟨0, [], s, false, []⟩, ⟨none, 0, none, 0⟩)) rfl (by kernel_rfl))) rfl ?_ ?_ ?_); rfl; rfl) | (refine qaw ?_; (first | refine qac (qav 0 rfl rfl rfl) rfl ?_ ?_ ?_ | refine qac (qav 3 rfl rfl rfl) rfl ?_ ?_ ?_ | refine qac (qal 2 rfl rfl rfl) rfl ?_ ?_ ?_ | refine qac (qal 3 rfl rfl rfl) rfl ?_ ?_ ?_); rfl; rfl) | (refine qai ?_; (refine qac (qae rfl) rfl ?_ ?_ ?_); rfl; rfl) | (refine qap ?_; (refine qac (qak rfl) rfl ?_ ?_ ?_); rfl; rfl) | (refine l_len ?_; (refine qac (OpW.len rfl) rfl ?_ ?_ ?_); rfl; rfl) | (refine l_geq ?_; (refine qac (OpW.geqF rfl rfl (by omega)) rfl ?_ ?_ ?_); rfl; rfl) | (refine l_not ?_; (refine qac (OpW.not rfl) rfl ?_ ?_ ?_); rfl; rfl) | (refine qaF ?_; (refine qac (qay rfl rfl rfl) rfl ?_ ?_ ?_); rfl; rfl) | (refine qaM ?_; refine SXl.alloc ?_ ?_ (fun g => ?_); rfl; rfl) | (refine qau ?_; first | ((first | refine qag 0 ?_ rfl rfl rfl rfl rfl rfl ?_ | refine qag 1 ?_ rfl rfl rfl rfl rfl rfl ?_ | refine qag 2 ?_ rfl rfl rfl rfl rfl rfl ?_); rfl; simp only [List.set_cons_zero, List.set_cons_succ]) | ((first | refine qaa 0 ?_ rfl rfl rfl rfl rfl rfl rfl ?_ | refine qaa 1 ?_ rfl rfl rfl rfl rfl rfl rfl ?_ | refine qaa 2 ?_ rfl rfl rfl rfl rfl rfl rfl ?_); rfl; simp only [List.set_cons_zero, List.set_cons_succ]) | ((first | refine qab 0 ?_ rfl rfl rfl rfl rfl rfl rfl ?_ | refine qab 1 ?_ rfl rfl rfl rfl rfl rfl rfl ?_ | refine qab 2 ?_ rfl rfl rfl rfl rfl rfl rfl ?_); rfl; simp only [over, List.set_cons_zero, List.set_cons_succ])))
  refine qaT ?_
  refine SXl.litRow1 (sz := 64) (r := rowP (⟨0, [], s, false, []⟩, ⟨none, 0, none, 0⟩)) rfl rfl rfl rfl rfl (by decide) (by decide) (fun g5 => ?_)
  skip
  refine l_append ?_
  refine SXl.append 0 0 rfl rfl rfl rfl rfl rfl rfl (rowP_ones _) (by omega) (by omega) (fun a3 c3 => ?_)
  repeat (first | refine qan ?_ | refine qaj ?_ | refine qad ?_ | (refine qai ?_; (refine qac (qae rfl) rfl ?_ ?_ ?_); rfl; rfl) | (refine qau ?_; first | ((first | refine qag 0 ?_ rfl rfl rfl rfl rfl rfl ?_ | refine qag 1 ?_ rfl rfl rfl rfl rfl rfl ?_ | refine qag 2 ?_ rfl rfl rfl rfl rfl rfl ?_); rfl; simp only [List.set_cons_zero, List.set_cons_succ]) | ((first | refine qaa 0 ?_ rfl rfl rfl rfl rfl rfl rfl ?_ | refine qaa 1 ?_ rfl rfl rfl rfl rfl rfl rfl ?_ | refine qaa 2 ?_ rfl rfl rfl rfl rfl rfl rfl ?_); rfl; simp only [List.set_cons_zero, List.set_cons_succ]) | ((first | refine qab 0 ?_ rfl rfl rfl rfl rfl rfl rfl ?_ | refine qab 1 ?_ rfl rfl rfl rfl rfl rfl rfl ?_ | refine qab 2 ?_ rfl rfl rfl rfl rfl rfl rfl ?_); rfl; simp only [over, List.set_cons_zero, List.set_cons_succ])))
  refine SX.drawnP 2 [.slice a3 (q.ps.length + 1) c3] rfl rfl (by kernel_rfl) (by kernel_rfl) (fun hf => ?_)
  repeat (first | (refine SXp.storeRow hf rfl rfl rfl rfl rfl rfl rfl ?_) | (refine SXp.v (qav 1 rfl rfl rfl) rfl rfl rfl ?_) | (refine SXp.v (qal 1 rfl rfl rfl) rfl rfl rfl ?_) | (refine SXp.v (qae rfl) rfl rfl rfl ?_) | (refine SXp.v (qah rfl) rfl rfl rfl ?_) | (refine SXp.v (OpW.len rfl) rfl rfl rfl ?_))
  refine SXp.nil 4 hf (.head _) ?_
  repeat (first | refine qad ?_ | refine qaA ?_)
  refine qaQ 0 rfl rfl rfl rfl rfl (fun w' hl => ⟨⟨q.ps ++ [(⟨0, [], s, false, []⟩, ⟨none, 0, none, 0⟩)], a3, c3⟩, ?_, ?_, ?_, hl.mod⟩)
  · show _ = Ending.returned (.tuple #[.agg [.slice a3 (q.ps ++ [_]).length c3].toArray, _])
    rw [List.length_append, hql]; rfl
  · show bare (q.ps ++ [_]) = _
    rw [bare, List.map_append, ← hq]; rfl
  · exact (((hl.ownNil 3 1).ownNil 152 3).treePush (x := (⟨0, [], s, false, []⟩, ⟨none, 0, none, 0⟩))).owns
end Go.Proofs.Ythffgbhphjkdeaa
namespace Go.Proofs.Ythffgbhphjkdeaa
open Go.RowKit
set_option linter.unusedVariables false
set_option linter.unusedSimpArgs false

/-- The first j children, but one. -/
def restTo (kids : List Int) (kid : Int) (j : Nat) : List Int := (kids.take j).filter fun k => decide (k ≠ kid)
theorem restTo_succ {kids : List Int} {kid y : Int} {j : Nat} (h : kids[j]? = some y) : restTo kids kid (j + 1) = if y = kid then restTo kids kid j else restTo kids kid j ++ [y] := by
  unfold restTo
  rw [List.take_add_one, h, List.filter_append]
  by_cases e : y = kid
  · rw [if_pos e]; simp [e]
  · rw [if_neg e]; simp [e]
theorem restTo_len (kids : List Int) (kid : Int) (j : Nat) : (restTo kids kid j).length ≤ kids.length := Nat.le_trans (List.length_filter_le _ _) (by simp; omega)
theorem kids_push (l : List Int) (y : Int) (a : Option Addr) (c : Nat) : (⟨.slice a (l.length + 1) c, 3, 1, l.length + 1, (l.map icell).flatten ++ [.int .i64 y]⟩ : Own) = intsO (l ++ [y]) (a, c) := by
  unfold intsO
  rw [List.length_append, List.map_append, List.flatten_append]
  rfl
set_option maxRecDepth 100000 in
set_option maxHeartbeats 4000000 in
theorem hasKid_any (l : List Int) (n : Int) (a : Option Addr) (c : Nat) (R : Nat → Prop) (w : World) (hlen : l.length ≤ 1048576) (h : IntSlice R w a l) :
    Calls Try.prog 89 #[.slice a l.length c, .int .i64 n] w fun e w' => e = .returned (.bool (decide (n ∈ l))) ∧ Mod (fun _ => False) w w' := by
  refine calls_sx Try.func89 rfl rfl (fun a h1 h2 h3 => ((Fr.nil h1 h2).arg (h3 1 _ rfl)).arg (h3 0 _ rfl)) ?_
  repeat (first | refine qan ?_ | refine qaj ?_ | refine qaf ?_ | refine qad ?_ | refine SX.block ?_ | (refine qap ?_; (refine qac (qak rfl) rfl ?_ ?_ ?_); rfl; rfl) | (refine qam ?_; (refine qac (qah rfl) rfl ?_ ?_ ?_); rfl; rfl) | (refine l_len ?_; (refine qac (OpW.len rfl) rfl ?_ ?_ ?_); rfl; rfl))
  refine SX.loopi (fun k : Nat => k ≤ l.length ∧ n ∉ l.take k) (fun k => l.length - k) (fun _ => []) (fun _ => []) (fun _ => []) (fun k => [(1, .int .i64 n), (7, .slice a l.length c), (8, .int .i64 l.length), (9, .int .i64 k)]) 0 ⟨Nat.zero_le _, by simp⟩ ?_ (fun _ hl => hl) ?_
  · (repeat (first | exact subF_nil _ | (refine subF_cons rfl ?_) | (refine subF_consv rfl (by rfl) ?_)))
  rintro k ⟨hk, hn⟩
  by_cases hlt : k < l.length
  rotate_left
  · have hd : decide (n ∈ l) = false := by
      rw [List.take_of_length_le (by omega)] at hn
      exact decide_eq_false hn
    repeat (first | refine qan ?_ | refine qaj ?_ | refine qaf ?_ | refine qad ?_ | refine qas rfl ?_ | (refine qam ?_; (refine qac (qah rfl) rfl ?_ ?_ ?_); rfl; rfl) | (refine l_lss ?_; (refine qac (OpW.lssF rfl rfl (by omega)) rfl ?_ ?_ ?_); rfl; rfl) | refine qaA ?_ | refine SX.exit ?_ | refine qaL ?_ | refine qaI ?_)
    refine qaz rfl rfl (fun w' hl => ⟨by rw [hd], hl.mod⟩)
  obtain ⟨b1, o1, y, rfl, _, _, hyk, hc1⟩ := IntSlice.get h hlt
  replace hyk := hyk.out
  by_cases e : y = n
  · have hd : decide (n ∈ l) = true := decide_eq_true (e ▸ List.mem_of_getElem? hyk)
    repeat (first | refine qan ?_ | refine qaj ?_ | refine qaf ?_ | refine qad ?_ | refine SX.block ?_ | refine qaC ?_ | refine qaq rfl ?_ | (refine qaw ?_; (refine qac (OpW.loadOld rfl (by assumption) (fun h => h)) rfl ?_ ?_ ?_); rfl; rfl) | (refine qap ?_; (refine qac (qak rfl) rfl ?_ ?_ ?_); rfl; rfl) | (refine qam ?_; (refine qac (qah rfl) rfl ?_ ?_ ?_); rfl; rfl) | (refine l_eql ?_; (refine qac (qaP rfl rfl (by omega)) rfl ?_ ?_ ?_); rfl; rfl) | (refine l_lss ?_; (refine qac (OpW.lssT rfl rfl (by omega)) rfl ?_ ?_ ?_); rfl; rfl) | (refine qaN ?_; (refine qac (OpW.indexAddr1 (by omega) rfl rfl) rfl ?_ ?_ ?_); rfl; rfl) | refine qaA ?_ | refine qax ?_ | refine qaD ?_)
    refine qaz rfl rfl (fun w' hl => ⟨by rw [hd], hl.mod⟩)
  · repeat (first | refine qan ?_ | refine qaj ?_ | refine qaf ?_ | refine qad ?_ | refine SX.block ?_ | refine qaC ?_ | refine qaq rfl ?_ | refine qas rfl ?_ | (refine qaw ?_; (refine qac (OpW.loadOld rfl (by assumption) (fun h => h)) rfl ?_ ?_ ?_); rfl; rfl) | (refine qap ?_; (refine qac (qak rfl) rfl ?_ ?_ ?_); rfl; rfl) | (refine qam ?_; (refine qac (qah rfl) rfl ?_ ?_ ?_); rfl; rfl) | (refine l_add ?_; (refine qac (OpW.succ rfl rfl (by omega)) rfl ?_ ?_ ?_); rfl; rfl) | (refine l_eql ?_; (refine qac (qaO rfl rfl (by omega)) rfl ?_ ?_ ?_); rfl; rfl) | (refine l_lss ?_; (refine qac (OpW.lssT rfl rfl (by omega)) rfl ?_ ?_ ?_); rfl; rfl) | (refine qaN ?_; (refine qac (OpW.indexAddr1 (by omega) rfl rfl) rfl ?_ ?_ ?_); rfl; rfl) | refine qar ?_)
    refine SQ.roundi (k + 1) ⟨by omega, ?_⟩ (by omega) ?_ (fun _ hl => hl)
    · rw [List.take_add_one, hyk]
      simp only [Option.toList, List.mem_append, List.mem_singleton, not_or]
      exact ⟨hn, fun h => e h.symm⟩
    · (repeat (first | exact subF_nil _ | (refine subF_cons rfl ?_) | (refine subF_consv rfl (by rfl) ?_)))

set_option maxRecDepth 100000 in
set_option maxHeartbeats 16000000 in
theorem removeKid_any (l : List Node) (n kid : Int) (o : Bool) (a : Option Addr) (c : Nat) (R : Nat → Prop) (w : World) (hlen : l.length ≤ 1048576) (hfit : ∀ x ∈ l, x.fits 1048576) (h : NodeSlice o R w a l) :
    Calls Try.prog 26 #[.agg #[.slice a l.length c], .int .i64 n, .int .i64 kid] w (NewTreeC (removeKid l n kid) w) := by
  have hT := fun w' (hm : Mod (fun _ => False) w w') => treeOk_any l o a c R w' hlen hfit (h.keep hm)
  refine calls_sx Try.func26 rfl rfl (fun a h1 h2 h3 => (((Fr.nil h1 h2).arg (h3 2 _ rfl)).arg (h3 1 _ rfl)).arg (h3 0 _ rfl)) ?_
  repeat (first | refine qan ?_ | refine qaj ?_ | refine qaf ?_ | refine qad ?_ | (refine qaw ?_; (refine qac (qal 1 rfl rfl rfl) rfl ?_ ?_ ?_); rfl; rfl) | (refine qam ?_; (refine qac (qah rfl) rfl ?_ ?_ ?_); rfl; rfl) | (refine qaM ?_; refine SXl.alloc ?_ ?_ (fun g => ?_); rfl; rfl) | (refine l_box ?_; refine qaK ?_ ?_ rfl rfl (fun g => ?_); rfl; rfl))
  rename_i g8
  revert g; intro g9
  refine qat ?_
  refine SXl.callO rfl rfl rfl (fun w' hl => copyTree_any l o a c R w' hlen hfit (h.keep hl.mod)) (fun q hq => ?_)
  have hql := TreeQ.len hq
  rw [List.append_nil]
  cases hv : treeOk l
  · have e : removeKid l n kid = (l, 1) := by simp [removeKid, hv]
    rw [e]
    rw [hv] at hT
    repeat (first | refine qan ?_ | refine qaj ?_ | refine qaf ?_ | refine qad ?_ | refine SX.block ?_ | refine qaq rfl ?_ | (refine qaS rfl rfl rfl ?_) | (refine qat ?_; (refine qac (qao rfl (fun w hl => hT _ hl.mod)) rfl ?_ ?_ ?_); rfl; rfl) | (refine qaw ?_; (first | refine qac (qal 0 rfl rfl rfl) rfl ?_ ?_ ?_ | refine qac (qal 2 rfl rfl rfl) rfl ?_ ?_ ?_); rfl; rfl) | (refine qap ?_; (refine qac (qak rfl) rfl ?_ ?_ ?_); rfl; rfl) | (refine qam ?_; (refine qac (qah rfl) rfl ?_ ?_ ?_); rfl; rfl) | (refine l_not ?_; (refine qac (OpW.not rfl) rfl ?_ ?_ ?_); rfl; rfl) | (refine qaF ?_; (refine qac (qay rfl rfl rfl) rfl ?_ ?_ ?_); rfl; rfl) | (refine qaM ?_; refine SXl.alloc ?_ ?_ (fun g => ?_); rfl; rfl) | (refine qau ?_; first | ((first | refine qag 0 ?_ rfl rfl rfl rfl rfl rfl ?_ | refine qag 1 ?_ rfl rfl rfl rfl rfl rfl ?_ | refine qag 2 ?_ rfl rfl rfl rfl rfl rfl ?_); rfl; simp only [List.set_cons_zero, List.set_cons_succ]) | ((first | refine qaa 0 ?_ rfl rfl rfl rfl rfl rfl rfl ?_ | refine qaa 1 ?_ rfl rfl rfl rfl rfl rfl rfl ?_ | refine qaa 2 ?_ rfl rfl rfl rfl rfl rfl rfl ?_); rfl; simp only [List.set_cons_zero, List.set_cons_succ]) | ((first | refine qab 0 ?_ rfl rfl rfl rfl rfl rfl rfl ?_ | refine qab 1 ?_ rfl rfl rfl rfl rfl rfl rfl ?_ | refine qab 2 ?_ rfl rfl rfl rfl rfl rfl rfl ?_); rfl; simp only [over, List.set_cons_zero, List.set_cons_succ])) | refine qaA ?_ | refine qax ?_ | refine qaD ?_)
    refine qaQ 1 rfl rfl rfl rfl rfl (fun w' hl => ⟨q, rfl, hq, hl.owns, hl.mod⟩)
  rw [hv] at hT
  cases hn : inB n 1 l.length
  · have e : removeKid l n kid = (l, 1) := by simp [removeKid, hn]
    rw [e]
    repeat (first | refine qan ?_ | refine qaj ?_ | refine qaf ?_ | refine qad ?_ | refine SX.block ?_ | refine qaq rfl ?_ | (refine qaS rfl rfl rfl ?_) | (refine qat ?_; (first | refine qac (qao rfl (fun w hl => hT _ hl.mod)) rfl ?_ ?_ ?_ | refine qac (qao (args := [.agg #[.slice a l.length c], .int .i64 n]) rfl (fun w hl => isNode_any _ _ _ _ _)) rfl ?_ ?_ ?_); rfl; rfl) | (refine qaw ?_; (first | refine qac (qal 0 rfl rfl rfl) rfl ?_ ?_ ?_ | refine qac (qal 2 rfl rfl rfl) rfl ?_ ?_ ?_); rfl; rfl) | (refine qap ?_; (refine qac (qak rfl) rfl ?_ ?_ ?_); rfl; rfl) | (refine qam ?_; (refine qac (qah rfl) rfl ?_ ?_ ?_); rfl; rfl) | (refine l_not ?_; (refine qac (OpW.not rfl) rfl ?_ ?_ ?_); rfl; rfl) | (refine qaF ?_; (refine qac (qay rfl rfl rfl) rfl ?_ ?_ ?_); rfl; rfl) | (refine qaM ?_; refine SXl.alloc ?_ ?_ (fun g => ?_); rfl; rfl) | (refine qau ?_; first | ((first | refine qag 0 ?_ rfl rfl rfl rfl rfl rfl ?_ | refine qag 1 ?_ rfl rfl rfl rfl rfl rfl ?_ | refine qag 2 ?_ rfl rfl rfl rfl rfl rfl ?_); rfl; simp only [List.set_cons_zero, List.set_cons_succ]) | ((first | refine qaa 0 ?_ rfl rfl rfl rfl rfl rfl rfl ?_ | refine qaa 1 ?_ rfl rfl rfl rfl rfl rfl rfl ?_ | refine qaa 2 ?_ rfl rfl rfl rfl rfl rfl rfl ?_); rfl; simp only [List.set_cons_zero, List.set_cons_succ]) | ((first | refine qab 0 ?_ rfl rfl rfl rfl rfl rfl rfl ?_ | refine qab 1 ?_ rfl rfl rfl rfl rfl rfl rfl ?_ | refine qab 2 ?_ rfl rfl rfl rfl rfl rfl rfl ?_); rfl; simp only [over, List.set_cons_zero, List.set_cons_succ])) | (rw [hn]) | refine qaA ?_ | refine qax ?_ | refine qaD ?_)
    refine qaQ 1 rfl rfl rfl rfl rfl (fun w' hl => ⟨q, rfl, hq, hl.owns, hl.mod⟩)
  cases hk : inB kid 1 l.length
  · have e : removeKid l n kid = (l, 1) := by simp [removeKid, hk]
    rw [e]
    repeat (first | refine qan ?_ | refine qaj ?_ | refine qaf ?_ | refine qad ?_ | refine SX.block ?_ | refine qaq rfl ?_ | (refine qat ?_; (first | refine qac (qao rfl (fun w hl => hT _ hl.mod)) rfl ?_ ?_ ?_ | refine qac (qao rfl (fun w hl => isNode_any _ _ _ _ _)) rfl ?_ ?_ ?_); rfl; rfl) | (refine qaw ?_; (first | refine qac (qal 0 rfl rfl rfl) rfl ?_ ?_ ?_ | refine qac (qal 2 rfl rfl rfl) rfl ?_ ?_ ?_); rfl; rfl) | (refine qap ?_; (refine qac (qak rfl) rfl ?_ ?_ ?_); rfl; rfl) | (refine qam ?_; (refine qac (qah rfl) rfl ?_ ?_ ?_); rfl; rfl) | (refine l_not ?_; (refine qac (OpW.not rfl) rfl ?_ ?_ ?_); rfl; rfl) | (refine qaF ?_; (refine qac (qay rfl rfl rfl) rfl ?_ ?_ ?_); rfl; rfl) | (refine qaM ?_; refine SXl.alloc ?_ ?_ (fun g => ?_); rfl; rfl) | (refine qau ?_; first | ((first | refine qag 0 ?_ rfl rfl rfl rfl rfl rfl ?_ | refine qag 1 ?_ rfl rfl rfl rfl rfl rfl ?_ | refine qag 2 ?_ rfl rfl rfl rfl rfl rfl ?_); rfl; simp only [List.set_cons_zero, List.set_cons_succ]) | ((first | refine qaa 0 ?_ rfl rfl rfl rfl rfl rfl rfl ?_ | refine qaa 1 ?_ rfl rfl rfl rfl rfl rfl rfl ?_ | refine qaa 2 ?_ rfl rfl rfl rfl rfl rfl rfl ?_); rfl; simp only [List.set_cons_zero, List.set_cons_succ]) | ((first | refine qab 0 ?_ rfl rfl rfl rfl rfl rfl rfl ?_ | refine qab 1 ?_ rfl rfl rfl rfl rfl rfl rfl ?_ | refine qab 2 ?_ rfl rfl rfl rfl rfl rfl rfl ?_); rfl; simp only [over, List.set_cons_zero, List.set_cons_succ])) | (rw [hn]) | (rw [hk]) | refine qaA ?_ | refine qax ?_ | refine qaD ?_)
    refine qaQ 1 rfl rfl rfl rfl rfl (fun w' hl => ⟨q, rfl, hq, hl.owns, hl.mod⟩)
  have hmem := ok_mem hv hn hk
  obtain ⟨kn, x, rfl, hkn, hx, hnx⟩ := node_get hn
  obtain ⟨kk, y, rfl, hkk, hy, hny⟩ := node_get hk
  rw [hnx, hny] at hmem
  obtain ⟨p, hp⟩ := pnode_get hq hx
  obtain ⟨py, hpy⟩ := pnode_get hq hy
  obtain ⟨b1, o1, x1, r1, rfl, hR1, hb1, hxk, hr1, hl1, hc1⟩ := h.get hkn
  obtain rfl : x1 = x := Option.some.inj (hxk.out.symm.trans hx)
  obtain ⟨ka, kc, rra, rrc, rfl, hk1, ht1, _⟩ := hr1
  have hkl : x1.kids.length ≤ 12 := ok_kids_len hv hx
  have hH := fun w' (hm : Mod (fun _ => False) w w') => hasKid_any x1.kids ((kk + 1 : Nat) : Int) ka kc R w' (by omega) (SliceAt.flatKeep hk1 hm)
  by_cases hup : y.up = ((kn + 1 : Nat) : Int)
  rotate_left
  · have e : removeKid l ((kn + 1 : Nat) : Int) ((kk + 1 : Nat) : Int) = (l, 3) := by simp only [removeKid, hv, hn, hk, hny, decide_eq_true hup]; rfl
    rw [e]
    rw [decide_eq_false (fun h => hup (hmem.1 h))] at hH
    repeat (first | refine qan ?_ | refine qaj ?_ | refine qaf ?_ | refine qad ?_ | refine SX.block ?_ | refine qaq rfl ?_ | refine qas rfl ?_ | (refine qat ?_; (first | refine qac (qao rfl (fun w hl => hT _ hl.mod)) rfl ?_ ?_ ?_ | refine qac (qao rfl (fun w hl => isNode_any _ _ _ _ _)) rfl ?_ ?_ ?_ | refine qac (qao rfl (fun w hl => node_any _ _ _ _ kn _ _ _ _ _ _ _ _ _ w (by omega) hkn (fun j v hv => hl.old (hc1 j v hv) (fun h => h)))) rfl ?_ ?_ ?_ | refine qac (qao rfl (fun w hl => hH _ hl.mod)) rfl ?_ ?_ ?_); rfl; rfl) | (refine l_field ?_; (refine qac (OpW.field rfl (nodeRow_a1 _ _ _ _ _ _ _ _ _)) rfl ?_ ?_ ?_); rfl; rfl) | (refine qaw ?_; (first | refine qac (qal 0 rfl rfl rfl) rfl ?_ ?_ ?_ | refine qac (qal 2 rfl rfl rfl) rfl ?_ ?_ ?_); rfl; rfl) | (refine qap ?_; (refine qac (qak rfl) rfl ?_ ?_ ?_); rfl; rfl) | (refine qam ?_; (refine qac (qah rfl) rfl ?_ ?_ ?_); rfl; rfl) | (refine l_not ?_; (refine qac (OpW.not rfl) rfl ?_ ?_ ?_); rfl; rfl) | (refine qaF ?_; (refine qac (qay rfl rfl rfl) rfl ?_ ?_ ?_); rfl; rfl) | (refine qaM ?_; refine SXl.alloc ?_ ?_ (fun g => ?_); rfl; rfl) | (refine qau ?_; first | ((first | refine qag 0 ?_ rfl rfl rfl rfl rfl rfl ?_ | refine qag 1 ?_ rfl rfl rfl rfl rfl rfl ?_ | refine qag 2 ?_ rfl rfl rfl rfl rfl rfl ?_); rfl; simp only [List.set_cons_zero, List.set_cons_succ]) | ((first | refine qaa 0 ?_ rfl rfl rfl rfl rfl rfl rfl ?_ | refine qaa 1 ?_ rfl rfl rfl rfl rfl rfl rfl ?_ | refine qaa 2 ?_ rfl rfl rfl rfl rfl rfl rfl ?_); rfl; simp only [List.set_cons_zero, List.set_cons_succ]) | ((first | refine qab 0 ?_ rfl rfl rfl rfl rfl rfl rfl ?_ | refine qab 1 ?_ rfl rfl rfl rfl rfl rfl rfl ?_ | refine qab 2 ?_ rfl rfl rfl rfl rfl rfl rfl ?_); rfl; simp only [over, List.set_cons_zero, List.set_cons_succ])) | (rw [hn]) | (rw [hk]) | refine qaA ?_ | refine qax ?_ | refine qaD ?_)
    refine qaQ 1 rfl rfl rfl rfl rfl (fun w' hl => ⟨q, rfl, hq, hl.owns, hl.mod⟩)
  have e : removeKid l ((kn + 1 : Nat) : Int) ((kk + 1 : Nat) : Int) = (takeKid l ((kn + 1 : Nat) : Int) ((kk + 1 : Nat) : Int), 0) := by simp only [removeKid, hv, hn, hk, hny, hup]; simp
  rw [e]
  rw [decide_eq_true (hmem.2 hup)] at hH
  obtain ⟨ps, qa, qc⟩ := q
  simp only at hq hql hp hpy
  refine SXl.know (fun w hl => tree_addr (l := ps) (a := qa) (c := qc) hl.owns (by omega)) (fun ⟨gt, hgt⟩ => ?_)
  subst hgt
  have hkp : kn < ps.length := by omega
  repeat (first | refine qan ?_ | refine qaj ?_ | refine qaf ?_ | refine qad ?_ | refine SX.block ?_ | refine qaC ?_ | refine qas rfl ?_ | (refine qat ?_; (first | refine qac (qao rfl (fun w hl => hT _ hl.mod)) rfl ?_ ?_ ?_ | refine qac (qao rfl (fun w hl => isNode_any _ _ _ _ _)) rfl ?_ ?_ ?_ | refine qac (qao rfl (fun w hl => node_any _ _ _ _ kn _ _ _ _ _ _ _ _ _ w (by omega) hkn (fun j v hv => hl.old (hc1 j v hv) (fun h => h)))) rfl ?_ ?_ ?_ | refine qac (qao rfl (fun w hl => hH _ hl.mod)) rfl ?_ ?_ ?_); rfl; rfl) | (refine l_field ?_; (refine qac (OpW.field rfl (nodeRow_a1 _ _ _ _ _ _ _ _ _)) rfl ?_ ?_ ?_); rfl; rfl) | (refine qaw ?_; (refine qac (qal 2 rfl rfl rfl) rfl ?_ ?_ ?_); rfl; rfl) | (refine qap ?_; (refine qac (qak rfl) rfl ?_ ?_ ?_); rfl; rfl) | (refine qam ?_; (refine qac (qah rfl) rfl ?_ ?_ ?_); rfl; rfl) | (refine l_len ?_; (refine qac (OpW.len rfl) rfl ?_ ?_ ?_); rfl; rfl) | (refine l_not ?_; (refine qac (OpW.not rfl) rfl ?_ ?_ ?_); rfl; rfl) | (refine qaF ?_; (refine qac (qay rfl rfl rfl) rfl ?_ ?_ ?_); rfl; rfl) | (refine qaM ?_; refine SXl.alloc ?_ ?_ (fun g => ?_); rfl; rfl) | (refine qau ?_; first | ((first | refine qag 0 ?_ rfl rfl rfl rfl rfl rfl ?_ | refine qag 1 ?_ rfl rfl rfl rfl rfl rfl ?_ | refine qag 2 ?_ rfl rfl rfl rfl rfl rfl ?_); rfl; simp only [List.set_cons_zero, List.set_cons_succ]) | ((first | refine qaa 0 ?_ rfl rfl rfl rfl rfl rfl rfl ?_ | refine qaa 1 ?_ rfl rfl rfl rfl rfl rfl rfl ?_ | refine qaa 2 ?_ rfl rfl rfl rfl rfl rfl rfl ?_); rfl; simp only [List.set_cons_zero, List.set_cons_succ]) | ((first | refine qab 0 ?_ rfl rfl rfl rfl rfl rfl rfl ?_ | refine qab 1 ?_ rfl rfl rfl rfl rfl rfl rfl ?_ | refine qab 2 ?_ rfl rfl rfl rfl rfl rfl rfl ?_); rfl; simp only [over, List.set_cons_zero, List.set_cons_succ])) | (rw [hn]) | (rw [hk]) | refine qar ?_)
  refine SX.ownNil 3 1 ?_
  refine SX.loop3 (fun (j : Nat) (_ : Option Addr × Nat) (_ : Unit) => j ≤ x1.kids.length) (fun j _ _ => x1.kids.length - j) (fun _ _ _ => [⟨g, [.slice (some ⟨gt, 0, none⟩) ps.length qc], 37⟩, ⟨g9, [.slice none 0 0], 37⟩, ⟨g8, [.slice (some ⟨b1, o1, none⟩) l.length c], 37⟩]) (fun j q _ => intsO (restTo x1.kids ((kk + 1 : Nat) : Int) j) q :: treeO ps (some ⟨gt, 0, none⟩) qc) (fun _ _ _ => []) (fun j q _ => [(1, .int .i64 ((kn + 1 : Nat) : Int)), (2, .int .i64 ((kk + 1 : Nat) : Int)), (6, .pointer (some ⟨g9, 0, none⟩)), (8, .pointer (some ⟨g, 0, none⟩)), (9, .slice q.1 (restTo x1.kids ((kk + 1 : Nat) : Int) j).length q.2), (43, .slice ka x1.kids.length kc), (44, .int .i64 x1.kids.length), (45, .int .i64 j)]) 0 (none, 0) () (Nat.zero_le _) ?_ (fun w hl => hl) ?_
  · (repeat (first | exact subF_nil _ | (refine subF_cons rfl ?_) | (refine subF_consv rfl (by rfl) ?_)))
  rintro j q _ hj
  have hrl := restTo_len x1.kids ((kk + 1 : Nat) : Int) j
  by_cases hjl : j < x1.kids.length
  rotate_left
  · skip
    have hall : restTo x1.kids ((kk + 1 : Nat) : Int) j = x1.kids.filter fun k => decide (k ≠ ((kk + 1 : Nat) : Int)) := by unfold restTo; rw [List.take_of_length_le (by omega)]
    generalize hRe : restTo x1.kids ((kk + 1 : Nat) : Int) j = Rk at *
    repeat (first | refine qan ?_ | refine qaj ?_ | refine qaf ?_ | refine qad ?_ | refine qas rfl ?_ | (refine qaN ?_; (refine qac ((qaH (i := kn) hkp rfl (congrArg (fun i : Int => some (Value.int .i64 i)) (by omega : ((kn + 1 : Nat) : Int) - 1 = (kn : Int))))) rfl ?_ ?_ ?_); rfl; rfl) | (refine qaw ?_; (refine qac (qav 0 rfl rfl rfl) rfl ?_ ?_ ?_); rfl; rfl) | (refine qai ?_; (refine qac (qae rfl) rfl ?_ ?_ ?_); rfl; rfl) | (refine qap ?_; (refine qac (qak rfl) rfl ?_ ?_ ?_); rfl; rfl) | (refine l_lss ?_; (refine qac (OpW.lssF rfl rfl (by omega)) rfl ?_ ?_ ?_); rfl; rfl) | (refine l_sub ?_; (refine qac (OpW.subi rfl rfl (by omega) (by omega)) rfl ?_ ?_ ?_); rfl; rfl) | refine SX.exit ?_ | refine qaL ?_ | refine qaI ?_)
    change SXl _ _ _ _ _ _ (kidsO (({ x1 with kids := Rk } : Node), ({ p with ka := q.1, kc := q.2 } : NodeP)) :: treeO ps (some ⟨gt, 0, none⟩) qc) _ _ _ _
    refine qau ?_
    refine SXl.treeKids0 (c := qc) (({ x1 with kids := Rk } : Node), ({ p with ka := q.1, kc := q.2 } : NodeP)) hp rfl rfl rfl rfl rfl rfl ?_
    have hkk2 : kk ≠ kn := fun e => by
      subst e
      have hc := ((ok_is hv hn).kids _ (by rw [hnx]; exact hmem.2 hup)).2
      have d1 := ok_dep hv hn
      have d2 := ((ok_deep hv).next _ hn (by rw [hny, hup]; omega)).2.1
      rw [hny, hup] at d2
      omega
    have hpy2 : (ps.set kn (({ x1 with kids := Rk } : Node), ({ p with ka := q.1, kc := q.2 } : NodeP)))[kk]? = some (y, py) := by rw [List.getElem?_set_ne (fun e => hkk2 e.symm)]; exact hpy
    have hkp2 : kk < ps.length := by omega
    repeat (first | refine qan ?_ | refine qaj ?_ | refine qaf ?_ | refine qad ?_ | (refine qaN ?_; (refine qac ((qaH (i := kk) hkp2 rfl (congrArg (fun i : Int => some (Value.int .i64 i)) (by omega : ((kk + 1 : Nat) : Int) - 1 = (kk : Int))))) rfl ?_ ?_ ?_); rfl; rfl) | (refine qaw ?_; (refine qac (qav 0 rfl rfl rfl) rfl ?_ ?_ ?_); rfl; rfl) | (refine qai ?_; (refine qac (qae rfl) rfl ?_ ?_ ?_); rfl; rfl) | (refine qap ?_; (refine qac (qak rfl) rfl ?_ ?_ ?_); rfl; rfl) | (refine l_sub ?_; (refine qac (OpW.subi rfl rfl (by omega) (by omega)) rfl ?_ ?_ ?_); rfl; rfl))
    refine qau ?_
    refine SXl.treeCell0 (c := qc) ({ y with up := 0 }, py) hpy2 rfl rfl rfl rfl (by decide) rfl rfl rfl ?_
    repeat (first | refine qan ?_ | refine qaj ?_ | refine qaf ?_ | refine qad ?_ | (refine qaw ?_; (refine qac (qal 0 rfl rfl rfl) rfl ?_ ?_ ?_); rfl; rfl) | (refine qam ?_; (refine qac (qah rfl) rfl ?_ ?_ ?_); rfl; rfl) | (refine qau ?_; first | ((first | refine qag 0 ?_ rfl rfl rfl rfl rfl rfl ?_ | refine qag 1 ?_ rfl rfl rfl rfl rfl rfl ?_ | refine qag 2 ?_ rfl rfl rfl rfl rfl rfl ?_); rfl; simp only [List.set_cons_zero, List.set_cons_succ]) | ((first | refine qaa 0 ?_ rfl rfl rfl rfl rfl rfl rfl ?_ | refine qaa 1 ?_ rfl rfl rfl rfl rfl rfl rfl ?_ | refine qaa 2 ?_ rfl rfl rfl rfl rfl rfl rfl ?_); rfl; simp only [List.set_cons_zero, List.set_cons_succ]) | ((first | refine qab 0 ?_ rfl rfl rfl rfl rfl rfl rfl ?_ | refine qab 1 ?_ rfl rfl rfl rfl rfl rfl rfl ?_ | refine qab 2 ?_ rfl rfl rfl rfl rfl rfl rfl ?_); rfl; simp only [over, List.set_cons_zero, List.set_cons_succ])) | refine qaA ?_)
    refine qaQ 1 rfl rfl rfl rfl rfl (fun w' hl => ⟨⟨(ps.set kn (({ x1 with kids := Rk } : Node), ({ p with ka := q.1, kc := q.2 } : NodeP))).set kk ({ y with up := 0 }, py), some ⟨gt, 0, none⟩, qc⟩, by simp [TreeQ.v], ?_, hl.owns, hl.mod⟩)
    show bare _ = takeKid l _ _
    rw [bare_set, bare_set, hq]
    unfold takeKid
    rw [hnx, hny, ← hall, show (((kn + 1 : Nat) : Int) - 1).toNat = kn by omega, show (((kk + 1 : Nat) : Int) - 1).toNat = kk by omega]
  obtain ⟨b3, o3, z, e3, hR3, hb3, hzk, hc3⟩ := IntSlice.get hk1 hjl
  subst e3
  replace hzk := hzk.out
  have hs := restTo_succ (kid := ((kk + 1 : Nat) : Int)) hzk
  by_cases ez : z = ((kk + 1 : Nat) : Int)
  · rw [if_pos ez] at hs
    repeat (first | refine qan ?_ | refine qaj ?_ | refine qaf ?_ | refine qad ?_ | refine SX.block ?_ | refine qaC ?_ | refine qaq rfl ?_ | refine qas rfl ?_ | (refine qaw ?_; (refine qac (OpW.loadOld rfl (by assumption) (fun h => h)) rfl ?_ ?_ ?_); rfl; rfl) | (refine qap ?_; (refine qac (qak rfl) rfl ?_ ?_ ?_); rfl; rfl) | (refine qam ?_; (refine qac (qah rfl) rfl ?_ ?_ ?_); rfl; rfl) | (refine l_add ?_; (refine qac (OpW.succ rfl rfl (by omega)) rfl ?_ ?_ ?_); rfl; rfl) | (refine l_lss ?_; (refine qac (OpW.lssT rfl rfl (by omega)) rfl ?_ ?_ ?_); rfl; rfl) | (refine l_neq ?_; (refine qac (OpW.neqF rfl rfl (by omega)) rfl ?_ ?_ ?_); rfl; rfl) | (refine qaN ?_; (refine qac (OpW.indexAddr1 (by omega) rfl rfl) rfl ?_ ?_ ?_); rfl; rfl) | refine qar ?_)
    refine SQ.round3 (j + 1) q () (by omega) (by omega) ?_ (fun w hl => by rw [hs]; exact hl)
    (repeat (first | exact subF_nil _ | (refine subF_cons rfl ?_) | (refine subF_consv rfl (by rw [hs]) ?_)))
  · rw [if_neg ez] at hs
    repeat (first | refine qan ?_ | refine qaj ?_ | refine qaf ?_ | refine qad ?_ | refine SX.block ?_ | refine qaC ?_ | refine qaq rfl ?_ | (refine qaw ?_; (refine qac (OpW.loadOld rfl (by assumption) (fun h => h)) rfl ?_ ?_ ?_); rfl; rfl) | (refine qap ?_; (refine qac (qak rfl) rfl ?_ ?_ ?_); rfl; rfl) | (refine qam ?_; (refine qac (qah rfl) rfl ?_ ?_ ?_); rfl; rfl) | (refine l_add ?_; (refine qac (OpW.succ rfl rfl (by omega)) rfl ?_ ?_ ?_); rfl; rfl) | (refine l_lss ?_; (refine qac (OpW.lssT rfl rfl (by omega)) rfl ?_ ?_ ?_); rfl; rfl) | (refine l_neq ?_; (refine qac (OpW.neqT rfl rfl (by omega)) rfl ?_ ?_ ?_); rfl; rfl) | (refine qaN ?_; (refine qac (OpW.indexAddr1 (by omega) rfl rfl) rfl ?_ ?_ ?_); rfl; rfl) | (refine qaT ?_; first | (refine SXl.lit1 ?_ ?_ rfl rfl rfl (fun g => ?_); rfl; rfl) | (refine SXl.lit0 ?_ ?_ (fun _ h => h) rfl (fun g => ?_); rfl; rfl)) | (refine l_append ?_; first | (refine SXl.append 0 0 rfl rfl rfl rfl rfl rfl rfl rfl (by omega) (by omega) (fun a c => ?_); simp only [List.set_cons_zero, List.set_cons_succ]) | (refine SXl.append 1 0 rfl rfl rfl rfl rfl rfl rfl rfl (by omega) (by omega) (fun a c => ?_); simp only [List.set_cons_zero, List.set_cons_succ])) | refine qar ?_)
    refine SQ.round3 (j + 1) (a, c) () (by omega) (by omega) ?_ (fun w hl => by rw [hs, ← kids_push]; exact hl.drop1)
    (repeat (first | exact subF_nil _ | (refine subF_cons rfl ?_) | (refine subF_consv rfl (by rw [hs, List.length_append]; rfl) ?_)))
end Go.Proofs.Ythffgbhphjkdeaa
namespace Go.Proofs.Ythffgbhphjkdeaa
open Go.RowKit
set_option linter.unusedVariables false
set_option linter.unusedSimpArgs false

def plainStyle : Style := { newStyle with dir := 1 }
theorem one_add : addNode [] plainStyle = ([⟨0, [], plainStyle, false, []⟩], 1) := by
  have h0 : treeOk [] = true := by decide
  have h1 : styleOk plainStyle = true := by decide
  simp [addNode, h0, h1]
set_option maxRecDepth 100000 in
theorem plain_any (w : World) : Calls Try.prog 25 #[] w fun e w' => e = .returned (.agg plainStyle.cells.toArray) ∧ Mod (fun _ => False) w w' := by
  refine calls_sx Try.func25 rfl rfl (fun a h1 h2 h3 => (Fr.nil h1 h2)) ?_
  repeat (first | refine qan ?_ | refine qaj ?_ | refine qaf ?_ | refine qad ?_ | refine SX.block ?_ | refine qaC ?_ | refine qaq rfl ?_ | refine qas rfl ?_ | (refine qat ?_; (first | refine qac (qao rfl (fun w hl => sstyleNew_any _)) rfl ?_ ?_ ?_ | refine qac (qao rfl (fun w hl => sstyleNew_any _)) rfl ?_ ?_ ?_); rfl; rfl) | (refine qaw ?_; (first | refine qac (qal 0 rfl rfl rfl) rfl ?_ ?_ ?_ | refine qac (qal 1 rfl rfl rfl) rfl ?_ ?_ ?_ | refine qac (qal 2 rfl rfl rfl) rfl ?_ ?_ ?_ | refine qac (qal 3 rfl rfl rfl) rfl ?_ ?_ ?_ | refine qac (qaE 0 rfl rfl rfl rfl) rfl ?_ ?_ ?_ | refine qac (qaE 1 rfl rfl rfl rfl) rfl ?_ ?_ ?_ | refine qac (qaE 2 rfl rfl rfl rfl) rfl ?_ ?_ ?_ | refine qac (qaE 3 rfl rfl rfl rfl) rfl ?_ ?_ ?_); rfl; rfl) | (refine qai ?_; (first | refine qac (qae rfl) rfl ?_ ?_ ?_); rfl; rfl) | (refine qaM ?_; refine SXl.alloc ?_ ?_ (fun g => ?_); rfl; rfl) | (refine qau ?_; first | ((first | refine qag 0 ?_ rfl rfl rfl rfl rfl rfl ?_ | refine qag 1 ?_ rfl rfl rfl rfl rfl rfl ?_ | refine qag 2 ?_ rfl rfl rfl rfl rfl rfl ?_); rfl; simp only [List.set_cons_zero, List.set_cons_succ]) | ((first | refine qaa 0 ?_ rfl rfl rfl rfl rfl rfl rfl ?_ | refine qaa 1 ?_ rfl rfl rfl rfl rfl rfl rfl ?_ | refine qaa 2 ?_ rfl rfl rfl rfl rfl rfl rfl ?_); rfl; simp only [List.set_cons_zero, List.set_cons_succ]) | ((first | refine qab 0 ?_ rfl rfl rfl rfl rfl rfl rfl ?_ | refine qab 1 ?_ rfl rfl rfl rfl rfl rfl rfl ?_ | refine qab 2 ?_ rfl rfl rfl rfl rfl rfl rfl ?_); rfl; simp only [over, List.set_cons_zero, List.set_cons_succ])) | refine qaA ?_ | refine SX.exit ?_ | refine qax ?_ | refine qaL ?_ | refine qar ?_ | refine qaD ?_ | refine qaI ?_ | refine SQ.blockOther rfl ?_)
  refine qaG 1 rfl rfl rfl rfl (fun w' hl => ⟨rfl, hl.mod⟩)
end Go.Proofs.Ythffgbhphjkdeaa
