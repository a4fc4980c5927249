/-
  PROVED: contracts of functions and words on memory, several texts put together: what each says stands at its theorems. Conditions: as told there.
-/
import Derived.Test.YthffgbhphjkdeaaMFf
set_option linter.unusedVariables false
set_option linter.unusedSimpArgs false
namespace Go.Proofs.Ythffgbhphjkdeaa
open Go.RowKit
set_option linter.unusedVariables false
set_option linter.unusedSimpArgs false

set_option maxRecDepth 100000 in
set_option maxHeartbeats 8000000 in
theorem setStyle_any (l : List Node) (n : Int) (s : Style) (o : Bool) (a : Option Addr) (c : Nat) (R : Nat → Prop) (w : World) (hlen : l.length ≤ 1048576) (hfit : ∀ x ∈ l, x.fits 1048576) (h : NodeSlice o R w a l) :
    Calls Try.prog 30 #[.agg #[.slice a l.length c], .int .i64 n, .agg s.cells.toArray] w (NewTreeC (setStyle l n s) w) := by
  have hT := fun w' (hm : Mod (fun _ => False) w w') => treeOk_any l o a c R w' hlen hfit (h.keep hm)
  have hS := fun w => styleC_any s w
  refine calls_sx Try.func30 rfl rfl (fun a h1 h2 h3 => (((Fr.nil h1 h2).arg (h3 2 _ rfl)).arg (h3 1 _ rfl)).arg (h3 0 _ rfl)) ?_
  repeat (first | refine qan ?_ | refine qaj ?_ | refine qaf ?_ | refine qad ?_ | (refine qaw ?_; (refine qac (qal 2 rfl rfl rfl) rfl ?_ ?_ ?_); rfl; rfl) | (refine qam ?_; (refine qac (qah rfl) rfl ?_ ?_ ?_); rfl; rfl) | (refine qaH ?_; refine SXl.alloc ?_ ?_ (fun g => ?_); rfl; rfl) | (refine l_box ?_; refine qaM ?_ ?_ rfl rfl (fun g => ?_); rfl; rfl))
  refine qau ?_
  refine SXl.callO rfl rfl rfl (fun w' hl => copyTree_any l o a c R w' hlen hfit (h.keep hl.mod)) (fun q hq => ?_)
  have hql := TreeQ.len hq
  rw [List.append_nil]
  cases hv : treeOk l
  · have e : setStyle l n s = (l, 1) := by simp [setStyle, hv]
    rw [e]
    rw [hv] at hT
    repeat (first | refine qan ?_ | refine qaj ?_ | refine qaf ?_ | refine qad ?_ | refine SX.block ?_ | refine qaq rfl ?_ | (refine qaS rfl rfl rfl ?_) | (refine qau ?_; (refine qac (qao rfl (fun w hl => hT _ hl.mod)) rfl ?_ ?_ ?_); rfl; rfl) | (refine qaw ?_; (first | refine qac (qal 0 rfl rfl rfl) rfl ?_ ?_ ?_ | refine qac (qal 3 rfl rfl rfl) rfl ?_ ?_ ?_); rfl; rfl) | (refine qap ?_; (refine qac (qak rfl) rfl ?_ ?_ ?_); rfl; rfl) | (refine qam ?_; (refine qac (qah rfl) rfl ?_ ?_ ?_); rfl; rfl) | (refine l_not ?_; (refine qac (OpW.not rfl) rfl ?_ ?_ ?_); rfl; rfl) | (refine qaG ?_; (refine qac (qay rfl rfl rfl) rfl ?_ ?_ ?_); rfl; rfl) | (refine qaH ?_; refine SXl.alloc ?_ ?_ (fun g => ?_); rfl; rfl) | (refine qas ?_; first | ((first | refine qaa 0 ?_ rfl rfl rfl rfl rfl rfl rfl ?_ | refine qaa 1 ?_ rfl rfl rfl rfl rfl rfl rfl ?_ | refine qaa 2 ?_ rfl rfl rfl rfl rfl rfl rfl ?_); rfl; simp only [List.set_cons_zero, List.set_cons_succ]) | ((first | refine qab 0 ?_ rfl rfl rfl rfl rfl rfl rfl ?_ | refine qab 1 ?_ rfl rfl rfl rfl rfl rfl rfl ?_ | refine qab 2 ?_ rfl rfl rfl rfl rfl rfl rfl ?_); rfl; simp only [over, List.set_cons_zero, List.set_cons_succ])) | refine qaz ?_ | refine qax ?_ | refine qaD ?_)
    refine qaL 1 rfl rfl rfl rfl rfl (fun w' hl => ⟨q, rfl, hq, hl.owns, hl.mod⟩)
  rw [hv] at hT
  cases hn : inB n 1 l.length
  · have e : setStyle l n s = (l, 1) := by simp [setStyle, hn]
    rw [e]
    repeat (first | refine qan ?_ | refine qaj ?_ | refine qaf ?_ | refine qad ?_ | refine SX.block ?_ | refine qaq rfl ?_ | (refine qau ?_; (first | refine qac (qao rfl (fun w hl => hT _ hl.mod)) rfl ?_ ?_ ?_ | refine qac (qao rfl (fun w hl => isNode_any _ _ _ _ _)) rfl ?_ ?_ ?_); rfl; rfl) | (refine qaw ?_; (first | refine qac (qal 0 rfl rfl rfl) rfl ?_ ?_ ?_ | refine qac (qal 3 rfl rfl rfl) rfl ?_ ?_ ?_); rfl; rfl) | (refine qap ?_; (refine qac (qak rfl) rfl ?_ ?_ ?_); rfl; rfl) | (refine qam ?_; (refine qac (qah rfl) rfl ?_ ?_ ?_); rfl; rfl) | (refine l_not ?_; (refine qac (OpW.not rfl) rfl ?_ ?_ ?_); rfl; rfl) | (refine qaG ?_; (refine qac (qay rfl rfl rfl) rfl ?_ ?_ ?_); rfl; rfl) | (refine qaH ?_; refine SXl.alloc ?_ ?_ (fun g => ?_); rfl; rfl) | (refine qas ?_; first | ((first | refine qaa 0 ?_ rfl rfl rfl rfl rfl rfl rfl ?_ | refine qaa 1 ?_ rfl rfl rfl rfl rfl rfl rfl ?_ | refine qaa 2 ?_ rfl rfl rfl rfl rfl rfl rfl ?_); rfl; simp only [List.set_cons_zero, List.set_cons_succ]) | ((first | refine qab 0 ?_ rfl rfl rfl rfl rfl rfl rfl ?_ | refine qab 1 ?_ rfl rfl rfl rfl rfl rfl rfl ?_ | refine qab 2 ?_ rfl rfl rfl rfl rfl rfl rfl ?_); rfl; simp only [over, List.set_cons_zero, List.set_cons_succ])) | (rw [hn]) | refine qaz ?_ | refine qax ?_ | refine qaD ?_)
    refine qaL 1 rfl rfl rfl rfl rfl (fun w' hl => ⟨q, rfl, hq, hl.owns, hl.mod⟩)
  cases hs : styleOk s
  · have e : setStyle l n s = (l, 4) := by simp [setStyle, hv, hn, hs]
    rw [e]
    rw [hs] at hS
    repeat (first | refine qan ?_ | refine qaj ?_ | refine qaf ?_ | refine qad ?_ | refine SX.block ?_ | refine qaq rfl ?_ | refine qat rfl ?_ | (refine qau ?_; (first | refine qac (qao rfl (fun w hl => hT _ hl.mod)) rfl ?_ ?_ ?_ | refine qac (qao rfl (fun w hl => isNode_any _ _ _ _ _)) rfl ?_ ?_ ?_ | refine qac (qao rfl (fun w hl => hS _)) rfl ?_ ?_ ?_); rfl; rfl) | (refine qaw ?_; (first | refine qac (qal 0 rfl rfl rfl) rfl ?_ ?_ ?_ | refine qac (qal 2 rfl rfl rfl) rfl ?_ ?_ ?_ | refine qac (qal 3 rfl rfl rfl) rfl ?_ ?_ ?_); rfl; rfl) | (refine qap ?_; (refine qac (qak rfl) rfl ?_ ?_ ?_); rfl; rfl) | (refine qam ?_; (refine qac (qah rfl) rfl ?_ ?_ ?_); rfl; rfl) | (refine l_not ?_; (refine qac (OpW.not rfl) rfl ?_ ?_ ?_); rfl; rfl) | (refine qaG ?_; (refine qac (qay rfl rfl rfl) rfl ?_ ?_ ?_); rfl; rfl) | (refine qaH ?_; refine SXl.alloc ?_ ?_ (fun g => ?_); rfl; rfl) | (refine qas ?_; first | ((first | refine qaa 0 ?_ rfl rfl rfl rfl rfl rfl rfl ?_ | refine qaa 1 ?_ rfl rfl rfl rfl rfl rfl rfl ?_ | refine qaa 2 ?_ rfl rfl rfl rfl rfl rfl rfl ?_); rfl; simp only [List.set_cons_zero, List.set_cons_succ]) | ((first | refine qab 0 ?_ rfl rfl rfl rfl rfl rfl rfl ?_ | refine qab 1 ?_ rfl rfl rfl rfl rfl rfl rfl ?_ | refine qab 2 ?_ rfl rfl rfl rfl rfl rfl rfl ?_); rfl; simp only [over, List.set_cons_zero, List.set_cons_succ])) | (rw [hn]) | refine qaz ?_ | refine qax ?_ | refine qaD ?_)
    refine qaL 1 rfl rfl rfl rfl rfl (fun w' hl => ⟨q, rfl, hq, hl.owns, hl.mod⟩)
  rw [hs] at hS
  have e : setStyle l n s = (putStyle l n s, 0) := by simp [setStyle, hv, hn, hs]
  rw [e]
  obtain ⟨k, x, rfl, hk, hx, hnx⟩ := node_get hn
  obtain ⟨p, hp⟩ := pnode_get hq hx
  obtain ⟨ps, qa, qc⟩ := q
  simp only at hq hql hp
  refine SXl.know (fun w hl => tree_addr (l := ps) (a := qa) (c := qc) hl.owns (by omega)) (fun ⟨gt, hgt⟩ => ?_)
  subst hgt
  have hkp : k < ps.length := by omega
  repeat (first | refine qan ?_ | refine qaj ?_ | refine qaf ?_ | refine qad ?_ | refine SX.block ?_ | refine qaC ?_ | refine qat rfl ?_ | (refine qau ?_; (first | refine qac (qao rfl (fun w hl => hT _ hl.mod)) rfl ?_ ?_ ?_ | refine qac (qao rfl (fun w hl => isNode_any _ _ _ _ _)) rfl ?_ ?_ ?_ | refine qac (qao rfl (fun w hl => hS _)) rfl ?_ ?_ ?_); rfl; rfl) | (refine qaI ?_; (refine qac ((qaF (i := k) hkp rfl (congrArg (fun i : Int => some (Value.int .i64 i)) (by omega : ((k + 1 : Nat) : Int) - 1 = (k : Int))))) rfl ?_ ?_ ?_); rfl; rfl) | (refine qaw ?_; (first | refine qac (qav 0 rfl rfl rfl) rfl ?_ ?_ ?_ | refine qac (qal 2 rfl rfl rfl) rfl ?_ ?_ ?_ | refine qac (qal 3 rfl rfl rfl) rfl ?_ ?_ ?_); rfl; rfl) | (refine qai ?_; (refine qac (qae rfl) rfl ?_ ?_ ?_); rfl; rfl) | (refine qap ?_; (refine qac (qak rfl) rfl ?_ ?_ ?_); rfl; rfl) | (refine qam ?_; (refine qac (qah rfl) rfl ?_ ?_ ?_); rfl; rfl) | (refine l_not ?_; (refine qac (OpW.not rfl) rfl ?_ ?_ ?_); rfl; rfl) | (refine l_sub ?_; (refine qac (OpW.subi rfl rfl (by omega) (by omega)) rfl ?_ ?_ ?_); rfl; rfl) | (refine qaG ?_; (refine qac (qay rfl rfl rfl) rfl ?_ ?_ ?_); rfl; rfl) | (refine qaH ?_; refine SXl.alloc ?_ ?_ (fun g => ?_); rfl; rfl) | (refine qas ?_; first | ((first | refine qaa 0 ?_ rfl rfl rfl rfl rfl rfl rfl ?_ | refine qaa 1 ?_ rfl rfl rfl rfl rfl rfl rfl ?_ | refine qaa 2 ?_ rfl rfl rfl rfl rfl rfl rfl ?_); rfl; simp only [List.set_cons_zero, List.set_cons_succ]) | ((first | refine qab 0 ?_ rfl rfl rfl rfl rfl rfl rfl ?_ | refine qab 1 ?_ rfl rfl rfl rfl rfl rfl rfl ?_ | refine qab 2 ?_ rfl rfl rfl rfl rfl rfl rfl ?_); rfl; simp only [over, List.set_cons_zero, List.set_cons_succ])) | (rw [hn]) | refine qar ?_)
  refine SXl.treeRow0 (c := qc) (m := 60) (r := s.cells) ({ x with style := s }, p) hp rfl rfl rfl (by kernel_rfl) rfl (by decide) (by decide) (by kernel_rfl) rfl rfl ?_
  repeat (first | refine qan ?_ | refine qaj ?_ | refine qaf ?_ | refine qad ?_ | (refine qaw ?_; (refine qac (qal 0 rfl rfl rfl) rfl ?_ ?_ ?_); rfl; rfl) | (refine qam ?_; (refine qac (qah rfl) rfl ?_ ?_ ?_); rfl; rfl) | (refine qas ?_; first | ((first | refine qaa 0 ?_ rfl rfl rfl rfl rfl rfl rfl ?_ | refine qaa 1 ?_ rfl rfl rfl rfl rfl rfl rfl ?_ | refine qaa 2 ?_ rfl rfl rfl rfl rfl rfl rfl ?_); rfl; simp only [List.set_cons_zero, List.set_cons_succ]) | ((first | refine qab 0 ?_ rfl rfl rfl rfl rfl rfl rfl ?_ | refine qab 1 ?_ rfl rfl rfl rfl rfl rfl rfl ?_ | refine qab 2 ?_ rfl rfl rfl rfl rfl rfl rfl ?_); rfl; simp only [over, List.set_cons_zero, List.set_cons_succ])) | refine qaz ?_)
  refine qaL 1 rfl rfl rfl rfl rfl (fun w' hl => ⟨⟨ps.set k ({ x with style := s }, p), some ⟨gt, 0, none⟩, qc⟩, ?_, ?_, hl.owns, hl.mod⟩)
  · simp [TreeQ.v, List.length_set]
  · show bare _ = putStyle l _ s
    rw [bare_set, hq]
    unfold putStyle
    rw [hnx, show (((k + 1 : Nat) : Int) - 1).toNat = k by omega]
set_option maxRecDepth 100000 in
set_option maxHeartbeats 8000000 in
theorem ssetStyle_any (l : List Node) (n : Int) (s : Style) (o : Bool) (a : Option Addr) (c : Nat) (R : Nat → Prop) (w : World) (hlen : l.length ≤ 1048576) (hfit : ∀ x ∈ l, x.fits 1048576) (h : NodeSlice o R w a l) :
    Calls Try.prog 31 #[.agg #[.slice a l.length c], .int .i64 n, .agg s.cells.toArray] w (NewTreeC (setStyle l n s) w) := by
  have hT := fun w' (hm : Mod (fun _ => False) w w') => streeOk_any l o a c R w' hlen hfit (h.keep hm)
  have hS := fun w => sstyleC_any s w
  refine calls_sx Try.func31 rfl rfl (fun a h1 h2 h3 => (((Fr.nil h1 h2).arg (h3 2 _ rfl)).arg (h3 1 _ rfl)).arg (h3 0 _ rfl)) ?_
  repeat (first | refine qan ?_ | refine qaj ?_ | refine qaf ?_ | refine qad ?_ | (refine qaw ?_; (refine qac (qal 2 rfl rfl rfl) rfl ?_ ?_ ?_); rfl; rfl) | (refine qam ?_; (refine qac (qah rfl) rfl ?_ ?_ ?_); rfl; rfl) | (refine qaH ?_; refine SXl.alloc ?_ ?_ (fun g => ?_); rfl; rfl) | (refine l_box ?_; refine qaM ?_ ?_ rfl rfl (fun g => ?_); rfl; rfl))
  refine qau ?_
  refine SXl.callO rfl rfl rfl (fun w' hl => scopyTree_any l o a c R w' hlen hfit (h.keep hl.mod)) (fun q hq => ?_)
  have hql := TreeQ.len hq
  rw [List.append_nil]
  cases hv : treeOk l
  · have e : setStyle l n s = (l, 1) := by simp [setStyle, hv]
    rw [e]
    rw [hv] at hT
    repeat (first | refine qan ?_ | refine qaj ?_ | refine qaf ?_ | refine qad ?_ | refine qaq rfl ?_ | (refine qaS rfl rfl rfl ?_) | (refine qau ?_; (refine qac (qao rfl (fun w hl => hT _ hl.mod)) rfl ?_ ?_ ?_); rfl; rfl) | (refine qaw ?_; (first | refine qac (qal 0 rfl rfl rfl) rfl ?_ ?_ ?_ | refine qac (qal 3 rfl rfl rfl) rfl ?_ ?_ ?_); rfl; rfl) | (refine qap ?_; (refine qac (qak rfl) rfl ?_ ?_ ?_); rfl; rfl) | (refine qam ?_; (refine qac (qah rfl) rfl ?_ ?_ ?_); rfl; rfl) | (refine l_not ?_; (refine qac (OpW.not rfl) rfl ?_ ?_ ?_); rfl; rfl) | (refine qaG ?_; (refine qac (qay rfl rfl rfl) rfl ?_ ?_ ?_); rfl; rfl) | (refine qaH ?_; refine SXl.alloc ?_ ?_ (fun g => ?_); rfl; rfl) | (refine qas ?_; first | ((first | refine qaa 0 ?_ rfl rfl rfl rfl rfl rfl rfl ?_ | refine qaa 1 ?_ rfl rfl rfl rfl rfl rfl rfl ?_ | refine qaa 2 ?_ rfl rfl rfl rfl rfl rfl rfl ?_); rfl; simp only [List.set_cons_zero, List.set_cons_succ]) | ((first | refine qab 0 ?_ rfl rfl rfl rfl rfl rfl rfl ?_ | refine qab 1 ?_ rfl rfl rfl rfl rfl rfl rfl ?_ | refine qab 2 ?_ rfl rfl rfl rfl rfl rfl rfl ?_); rfl; simp only [over, List.set_cons_zero, List.set_cons_succ])) | refine qaz ?_ | refine qax ?_)
    refine qaL 1 rfl rfl rfl rfl rfl (fun w' hl => ⟨q, rfl, hq, hl.owns, hl.mod⟩)
  rw [hv] at hT
  cases hn : inB n 1 l.length
  · have e : setStyle l n s = (l, 1) := by simp [setStyle, hn]
    rw [e]
    repeat (first | refine qan ?_ | refine qaj ?_ | refine qaf ?_ | refine qad ?_ | refine qaq rfl ?_ | (refine qau ?_; (first | refine qac (qao rfl (fun w hl => hT _ hl.mod)) rfl ?_ ?_ ?_ | refine qac (qao rfl (fun w hl => sisNode_any _ _ _ _ _)) rfl ?_ ?_ ?_); rfl; rfl) | (refine qaw ?_; (first | refine qac (qal 0 rfl rfl rfl) rfl ?_ ?_ ?_ | refine qac (qal 3 rfl rfl rfl) rfl ?_ ?_ ?_); rfl; rfl) | (refine qap ?_; (refine qac (qak rfl) rfl ?_ ?_ ?_); rfl; rfl) | (refine qam ?_; (refine qac (qah rfl) rfl ?_ ?_ ?_); rfl; rfl) | (refine l_not ?_; (refine qac (OpW.not rfl) rfl ?_ ?_ ?_); rfl; rfl) | (refine qaG ?_; (refine qac (qay rfl rfl rfl) rfl ?_ ?_ ?_); rfl; rfl) | (refine qaH ?_; refine SXl.alloc ?_ ?_ (fun g => ?_); rfl; rfl) | (refine qas ?_; first | ((first | refine qaa 0 ?_ rfl rfl rfl rfl rfl rfl rfl ?_ | refine qaa 1 ?_ rfl rfl rfl rfl rfl rfl rfl ?_ | refine qaa 2 ?_ rfl rfl rfl rfl rfl rfl rfl ?_); rfl; simp only [List.set_cons_zero, List.set_cons_succ]) | ((first | refine qab 0 ?_ rfl rfl rfl rfl rfl rfl rfl ?_ | refine qab 1 ?_ rfl rfl rfl rfl rfl rfl rfl ?_ | refine qab 2 ?_ rfl rfl rfl rfl rfl rfl rfl ?_); rfl; simp only [over, List.set_cons_zero, List.set_cons_succ])) | (rw [hn]) | refine qaz ?_ | refine qax ?_)
    refine qaL 1 rfl rfl rfl rfl rfl (fun w' hl => ⟨q, rfl, hq, hl.owns, hl.mod⟩)
  cases hs : styleOk s
  · have e : setStyle l n s = (l, 4) := by simp [setStyle, hv, hn, hs]
    rw [e]
    rw [hs] at hS
    repeat (first | refine qan ?_ | refine qaj ?_ | refine qaf ?_ | refine qad ?_ | refine qaC ?_ | refine qaq rfl ?_ | refine qat rfl ?_ | (refine qau ?_; (first | refine qac (qao rfl (fun w hl => hT _ hl.mod)) rfl ?_ ?_ ?_ | refine qac (qao rfl (fun w hl => sisNode_any _ _ _ _ _)) rfl ?_ ?_ ?_ | refine qac (qao rfl (fun w hl => hS _)) rfl ?_ ?_ ?_); rfl; rfl) | (refine qaw ?_; (first | refine qac (qal 0 rfl rfl rfl) rfl ?_ ?_ ?_ | refine qac (qal 2 rfl rfl rfl) rfl ?_ ?_ ?_ | refine qac (qal 3 rfl rfl rfl) rfl ?_ ?_ ?_); rfl; rfl) | (refine qap ?_; (refine qac (qak rfl) rfl ?_ ?_ ?_); rfl; rfl) | (refine qam ?_; (refine qac (qah rfl) rfl ?_ ?_ ?_); rfl; rfl) | (refine l_not ?_; (refine qac (OpW.not rfl) rfl ?_ ?_ ?_); rfl; rfl) | (refine qaG ?_; (refine qac (qay rfl rfl rfl) rfl ?_ ?_ ?_); rfl; rfl) | (refine qaH ?_; refine SXl.alloc ?_ ?_ (fun g => ?_); rfl; rfl) | (refine qas ?_; first | ((first | refine qaa 0 ?_ rfl rfl rfl rfl rfl rfl rfl ?_ | refine qaa 1 ?_ rfl rfl rfl rfl rfl rfl rfl ?_ | refine qaa 2 ?_ rfl rfl rfl rfl rfl rfl rfl ?_); rfl; simp only [List.set_cons_zero, List.set_cons_succ]) | ((first | refine qab 0 ?_ rfl rfl rfl rfl rfl rfl rfl ?_ | refine qab 1 ?_ rfl rfl rfl rfl rfl rfl rfl ?_ | refine qab 2 ?_ rfl rfl rfl rfl rfl rfl rfl ?_); rfl; simp only [over, List.set_cons_zero, List.set_cons_succ])) | (rw [hn]) | refine qaz ?_ | refine qax ?_)
    refine qaL 1 rfl rfl rfl rfl rfl (fun w' hl => ⟨q, rfl, hq, hl.owns, hl.mod⟩)
  rw [hs] at hS
  have e : setStyle l n s = (putStyle l n s, 0) := by simp [setStyle, hv, hn, hs]
  rw [e]
  obtain ⟨k, x, rfl, hk, hx, hnx⟩ := node_get hn
  obtain ⟨p, hp⟩ := pnode_get hq hx
  obtain ⟨ps, qa, qc⟩ := q
  simp only at hq hql hp
  refine SXl.know (fun w hl => tree_addr (l := ps) (a := qa) (c := qc) hl.owns (by omega)) (fun ⟨gt, hgt⟩ => ?_)
  subst hgt
  have hkp : k < ps.length := by omega
  repeat (first | refine qan ?_ | refine qaj ?_ | refine qaf ?_ | refine qad ?_ | refine qaC ?_ | refine qat rfl ?_ | (refine qau ?_; (first | refine qac (qao rfl (fun w hl => hT _ hl.mod)) rfl ?_ ?_ ?_ | refine qac (qao rfl (fun w hl => sisNode_any _ _ _ _ _)) rfl ?_ ?_ ?_ | refine qac (qao rfl (fun w hl => hS _)) rfl ?_ ?_ ?_); rfl; rfl) | (refine qaI ?_; (refine qac ((qaF (i := k) hkp rfl (congrArg (fun i : Int => some (Value.int .i64 i)) (by omega : ((k + 1 : Nat) : Int) - 1 = (k : Int))))) rfl ?_ ?_ ?_); rfl; rfl) | (refine qaw ?_; (first | refine qac (qav 0 rfl rfl rfl) rfl ?_ ?_ ?_ | refine qac (qal 2 rfl rfl rfl) rfl ?_ ?_ ?_ | refine qac (qal 3 rfl rfl rfl) rfl ?_ ?_ ?_); rfl; rfl) | (refine qai ?_; (refine qac (qae rfl) rfl ?_ ?_ ?_); rfl; rfl) | (refine qap ?_; (refine qac (qak rfl) rfl ?_ ?_ ?_); rfl; rfl) | (refine l_not ?_; (refine qac (OpW.not rfl) rfl ?_ ?_ ?_); rfl; rfl) | (refine l_sub ?_; (refine qac (OpW.subi rfl rfl (by omega) (by omega)) rfl ?_ ?_ ?_); rfl; rfl) | (refine qaG ?_; (refine qac (qay rfl rfl rfl) rfl ?_ ?_ ?_); rfl; rfl) | (refine qaH ?_; refine SXl.alloc ?_ ?_ (fun g => ?_); rfl; rfl) | (refine qas ?_; first | ((first | refine qaa 0 ?_ rfl rfl rfl rfl rfl rfl rfl ?_ | refine qaa 1 ?_ rfl rfl rfl rfl rfl rfl rfl ?_ | refine qaa 2 ?_ rfl rfl rfl rfl rfl rfl rfl ?_); rfl; simp only [List.set_cons_zero, List.set_cons_succ]) | ((first | refine qab 0 ?_ rfl rfl rfl rfl rfl rfl rfl ?_ | refine qab 1 ?_ rfl rfl rfl rfl rfl rfl rfl ?_ | refine qab 2 ?_ rfl rfl rfl rfl rfl rfl rfl ?_); rfl; simp only [over, List.set_cons_zero, List.set_cons_succ])) | (rw [hn]))
  refine SXl.treeRow0 (c := qc) (m := 60) (r := s.cells) ({ x with style := s }, p) hp rfl rfl rfl (by kernel_rfl) rfl (by decide) (by decide) (by kernel_rfl) rfl rfl ?_
  repeat (first | refine qan ?_ | refine qaj ?_ | refine qaf ?_ | refine qad ?_ | (refine qaw ?_; (refine qac (qal 0 rfl rfl rfl) rfl ?_ ?_ ?_); rfl; rfl) | (refine qam ?_; (refine qac (qah rfl) rfl ?_ ?_ ?_); rfl; rfl) | (refine qas ?_; first | ((first | refine qaa 0 ?_ rfl rfl rfl rfl rfl rfl rfl ?_ | refine qaa 1 ?_ rfl rfl rfl rfl rfl rfl rfl ?_ | refine qaa 2 ?_ rfl rfl rfl rfl rfl rfl rfl ?_); rfl; simp only [List.set_cons_zero, List.set_cons_succ]) | ((first | refine qab 0 ?_ rfl rfl rfl rfl rfl rfl rfl ?_ | refine qab 1 ?_ rfl rfl rfl rfl rfl rfl rfl ?_ | refine qab 2 ?_ rfl rfl rfl rfl rfl rfl rfl ?_); rfl; simp only [over, List.set_cons_zero, List.set_cons_succ])) | refine qaz ?_)
  refine qaL 1 rfl rfl rfl rfl rfl (fun w' hl => ⟨⟨ps.set k ({ x with style := s }, p), some ⟨gt, 0, none⟩, qc⟩, ?_, ?_, hl.owns, hl.mod⟩)
  · simp [TreeQ.v, List.length_set]
  · show bare _ = putStyle l _ s
    rw [bare_set, hq]
    unfold putStyle
    rw [hnx, show (((k + 1 : Nat) : Int) - 1).toNat = k by omega]
end Go.Proofs.Ythffgbhphjkdeaa
namespace Go.Proofs.Ythffgbhphjkdeaa
open Go.RowKit
set_option linter.unusedVariables false
set_option linter.unusedSimpArgs false

set_option maxRecDepth 100000 in
set_option maxHeartbeats 16000000 in
theorem setTable_any (l : List Node) (n : Int) (r : List Rule) (o : Bool) (a ra : Option Addr) (c rc : Nat) (R R2 : Nat → Prop) (w : World) (hlen : l.length ≤ 1048576) (hfit : ∀ x ∈ l, x.fits 1048576) (h : NodeSlice o R w a l) (hrl : r.length ≤ 1048576) (hr : SliceAt (Flat Rule.cells) 3 R2 w ra r) :
    Calls Try.prog 33 #[.agg #[.slice a l.length c], .int .i64 n, .agg #[.slice ra r.length rc]] w (NewTreeC (setTable l n r) w) := by
  have hT := fun w' (hm : Mod (fun _ => False) w w') => treeOk_any l o a c R w' hlen hfit (h.keep hm)
  have hS := fun w' (hm : Mod (fun _ => False) w w') => tableOk_any r ra rc R2 w' hrl (SliceAt.flatKeep hr hm)
  refine calls_sx Try.func33 rfl rfl (fun a h1 h2 h3 => (((Fr.nil h1 h2).arg (h3 2 _ rfl)).arg (h3 1 _ rfl)).arg (h3 0 _ rfl)) ?_
  repeat (first | refine qan ?_ | refine qaj ?_ | refine qaf ?_ | refine qad ?_ | (refine qaw ?_; (refine qac (qal 2 rfl rfl rfl) rfl ?_ ?_ ?_); rfl; rfl) | (refine qam ?_; (refine qac (qah rfl) rfl ?_ ?_ ?_); rfl; rfl) | (refine qaH ?_; refine SXl.alloc ?_ ?_ (fun g => ?_); rfl; rfl) | (refine l_box ?_; refine qaM ?_ ?_ rfl rfl (fun g => ?_); rfl; rfl))
  rename_i g3 g5
  revert g; intro g6
  refine qau ?_
  refine SXl.callO rfl rfl rfl (fun w' hl => copyTree_any l o a c R w' hlen hfit (h.keep hl.mod)) (fun q hq => ?_)
  have hql := TreeQ.len hq
  rw [List.append_nil]
  cases hv : treeOk l
  · have e : setTable l n r = (l, 1) := by simp [setTable, hv]
    rw [e]
    rw [hv] at hT
    by_cases hr0 : r.length = 0
    · repeat (first | refine qan ?_ | refine qaj ?_ | refine qaf ?_ | refine qad ?_ | refine SX.block ?_ | refine qaq rfl ?_ | (refine qaS rfl rfl rfl ?_) | (refine qau ?_; (refine qac (qao rfl (fun w hl => hT _ hl.mod)) rfl ?_ ?_ ?_); rfl; rfl) | (refine qaw ?_; (first | refine qac (qav 2 rfl rfl rfl) rfl ?_ ?_ ?_ | refine qac (qal 0 rfl rfl rfl) rfl ?_ ?_ ?_ | refine qac (qal 3 rfl rfl rfl) rfl ?_ ?_ ?_); rfl; rfl) | (refine qai ?_; (refine qac (qae rfl) rfl ?_ ?_ ?_); rfl; rfl) | (refine qap ?_; (refine qac (qak rfl) rfl ?_ ?_ ?_); rfl; rfl) | (refine qam ?_; (refine qac (qah rfl) rfl ?_ ?_ ?_); rfl; rfl) | (refine l_len ?_; (refine qac (OpW.len rfl) rfl ?_ ?_ ?_); rfl; rfl) | (refine l_gtr ?_; (refine qac (OpW.gtrF rfl rfl (by omega)) rfl ?_ ?_ ?_); rfl; rfl) | (refine l_not ?_; (refine qac (OpW.not rfl) rfl ?_ ?_ ?_); rfl; rfl) | (refine qaG ?_; (refine qac (qay rfl rfl rfl) rfl ?_ ?_ ?_); rfl; rfl) | (refine qaH ?_; refine SXl.alloc ?_ ?_ (fun g => ?_); rfl; rfl) | (refine qas ?_; first | ((first | refine qag 0 ?_ rfl rfl rfl rfl rfl rfl ?_ | refine qag 1 ?_ rfl rfl rfl rfl rfl rfl ?_ | refine qag 2 ?_ rfl rfl rfl rfl rfl rfl ?_); rfl; simp only [List.set_cons_zero, List.set_cons_succ]) | ((first | refine qaa 0 ?_ rfl rfl rfl rfl rfl rfl rfl ?_ | refine qaa 1 ?_ rfl rfl rfl rfl rfl rfl rfl ?_ | refine qaa 2 ?_ rfl rfl rfl rfl rfl rfl rfl ?_); rfl; simp only [List.set_cons_zero, List.set_cons_succ]) | ((first | refine qab 0 ?_ rfl rfl rfl rfl rfl rfl rfl ?_ | refine qab 1 ?_ rfl rfl rfl rfl rfl rfl rfl ?_ | refine qab 2 ?_ rfl rfl rfl rfl rfl rfl rfl ?_); rfl; simp only [over, List.set_cons_zero, List.set_cons_succ])) | refine qaz ?_ | refine qax ?_ | refine qaD ?_)
      refine qaL 1 rfl rfl rfl rfl rfl (fun w' hl => ⟨q, rfl, hq, hl.owns, hl.mod⟩)
    · repeat (first | refine qan ?_ | refine qaj ?_ | refine qaf ?_ | refine qad ?_ | refine SX.block ?_ | refine qaq rfl ?_ | (refine qaS rfl rfl rfl ?_) | (refine qau ?_; (refine qac (qao rfl (fun w hl => hT _ hl.mod)) rfl ?_ ?_ ?_); rfl; rfl) | (refine qaw ?_; (first | refine qac (qav 2 rfl rfl rfl) rfl ?_ ?_ ?_ | refine qac (qal 0 rfl rfl rfl) rfl ?_ ?_ ?_ | refine qac (qal 3 rfl rfl rfl) rfl ?_ ?_ ?_); rfl; rfl) | (refine qai ?_; (refine qac (qae rfl) rfl ?_ ?_ ?_); rfl; rfl) | (refine qap ?_; (refine qac (qak rfl) rfl ?_ ?_ ?_); rfl; rfl) | (refine qam ?_; (refine qac (qah rfl) rfl ?_ ?_ ?_); rfl; rfl) | (refine l_len ?_; (refine qac (OpW.len rfl) rfl ?_ ?_ ?_); rfl; rfl) | (refine l_gtr ?_; (refine qac (OpW.gtrT rfl rfl (by omega)) rfl ?_ ?_ ?_); rfl; rfl) | (refine l_not ?_; (refine qac (OpW.not rfl) rfl ?_ ?_ ?_); rfl; rfl) | (refine qaG ?_; (refine qac (qay rfl rfl rfl) rfl ?_ ?_ ?_); rfl; rfl) | (refine qaH ?_; refine SXl.alloc ?_ ?_ (fun g => ?_); rfl; rfl) | (refine qas ?_; first | ((first | refine qag 0 ?_ rfl rfl rfl rfl rfl rfl ?_ | refine qag 1 ?_ rfl rfl rfl rfl rfl rfl ?_ | refine qag 2 ?_ rfl rfl rfl rfl rfl rfl ?_); rfl; simp only [List.set_cons_zero, List.set_cons_succ]) | ((first | refine qaa 0 ?_ rfl rfl rfl rfl rfl rfl rfl ?_ | refine qaa 1 ?_ rfl rfl rfl rfl rfl rfl rfl ?_ | refine qaa 2 ?_ rfl rfl rfl rfl rfl rfl rfl ?_); rfl; simp only [List.set_cons_zero, List.set_cons_succ]) | ((first | refine qab 0 ?_ rfl rfl rfl rfl rfl rfl rfl ?_ | refine qab 1 ?_ rfl rfl rfl rfl rfl rfl rfl ?_ | refine qab 2 ?_ rfl rfl rfl rfl rfl rfl rfl ?_); rfl; simp only [over, List.set_cons_zero, List.set_cons_succ])) | refine qaz ?_ | refine qax ?_ | refine qaD ?_)
      refine qaL 1 rfl rfl rfl rfl rfl (fun w' hl => ⟨q, rfl, hq, hl.owns, hl.mod⟩)
  rw [hv] at hT
  cases hn : inB n 1 l.length
  · have e : setTable l n r = (l, 1) := by simp [setTable, hn]
    rw [e]
    by_cases hr0 : r.length = 0
    · repeat (first | refine qan ?_ | refine qaj ?_ | refine qaf ?_ | refine qad ?_ | refine SX.block ?_ | refine qaq rfl ?_ | (refine qau ?_; (first | refine qac (qao rfl (fun w hl => hT _ hl.mod)) rfl ?_ ?_ ?_ | refine qac (qao rfl (fun w hl => isNode_any _ _ _ _ _)) rfl ?_ ?_ ?_); rfl; rfl) | (refine qaw ?_; (first | refine qac (qav 2 rfl rfl rfl) rfl ?_ ?_ ?_ | refine qac (qal 0 rfl rfl rfl) rfl ?_ ?_ ?_ | refine qac (qal 3 rfl rfl rfl) rfl ?_ ?_ ?_); rfl; rfl) | (refine qai ?_; (refine qac (qae rfl) rfl ?_ ?_ ?_); rfl; rfl) | (refine qap ?_; (refine qac (qak rfl) rfl ?_ ?_ ?_); rfl; rfl) | (refine qam ?_; (refine qac (qah rfl) rfl ?_ ?_ ?_); rfl; rfl) | (refine l_len ?_; (refine qac (OpW.len rfl) rfl ?_ ?_ ?_); rfl; rfl) | (refine l_gtr ?_; (refine qac (OpW.gtrF rfl rfl (by omega)) rfl ?_ ?_ ?_); rfl; rfl) | (refine l_not ?_; (refine qac (OpW.not rfl) rfl ?_ ?_ ?_); rfl; rfl) | (refine qaG ?_; (refine qac (qay rfl rfl rfl) rfl ?_ ?_ ?_); rfl; rfl) | (refine qaH ?_; refine SXl.alloc ?_ ?_ (fun g => ?_); rfl; rfl) | (refine qas ?_; first | ((first | refine qag 0 ?_ rfl rfl rfl rfl rfl rfl ?_ | refine qag 1 ?_ rfl rfl rfl rfl rfl rfl ?_ | refine qag 2 ?_ rfl rfl rfl rfl rfl rfl ?_); rfl; simp only [List.set_cons_zero, List.set_cons_succ]) | ((first | refine qaa 0 ?_ rfl rfl rfl rfl rfl rfl rfl ?_ | refine qaa 1 ?_ rfl rfl rfl rfl rfl rfl rfl ?_ | refine qaa 2 ?_ rfl rfl rfl rfl rfl rfl rfl ?_); rfl; simp only [List.set_cons_zero, List.set_cons_succ]) | ((first | refine qab 0 ?_ rfl rfl rfl rfl rfl rfl rfl ?_ | refine qab 1 ?_ rfl rfl rfl rfl rfl rfl rfl ?_ | refine qab 2 ?_ rfl rfl rfl rfl rfl rfl rfl ?_); rfl; simp only [over, List.set_cons_zero, List.set_cons_succ])) | (rw [hn]) | refine qaz ?_ | refine qax ?_ | refine qaD ?_)
      refine qaL 1 rfl rfl rfl rfl rfl (fun w' hl => ⟨q, rfl, hq, hl.owns, hl.mod⟩)
    · repeat (first | refine qan ?_ | refine qaj ?_ | refine qaf ?_ | refine qad ?_ | refine SX.block ?_ | refine qaq rfl ?_ | (refine qau ?_; (first | refine qac (qao rfl (fun w hl => hT _ hl.mod)) rfl ?_ ?_ ?_ | refine qac (qao rfl (fun w hl => isNode_any _ _ _ _ _)) rfl ?_ ?_ ?_); rfl; rfl) | (refine qaw ?_; (first | refine qac (qav 2 rfl rfl rfl) rfl ?_ ?_ ?_ | refine qac (qal 0 rfl rfl rfl) rfl ?_ ?_ ?_ | refine qac (qal 3 rfl rfl rfl) rfl ?_ ?_ ?_); rfl; rfl) | (refine qai ?_; (refine qac (qae rfl) rfl ?_ ?_ ?_); rfl; rfl) | (refine qap ?_; (refine qac (qak rfl) rfl ?_ ?_ ?_); rfl; rfl) | (refine qam ?_; (refine qac (qah rfl) rfl ?_ ?_ ?_); rfl; rfl) | (refine l_len ?_; (refine qac (OpW.len rfl) rfl ?_ ?_ ?_); rfl; rfl) | (refine l_gtr ?_; (refine qac (OpW.gtrT rfl rfl (by omega)) rfl ?_ ?_ ?_); rfl; rfl) | (refine l_not ?_; (refine qac (OpW.not rfl) rfl ?_ ?_ ?_); rfl; rfl) | (refine qaG ?_; (refine qac (qay rfl rfl rfl) rfl ?_ ?_ ?_); rfl; rfl) | (refine qaH ?_; refine SXl.alloc ?_ ?_ (fun g => ?_); rfl; rfl) | (refine qas ?_; first | ((first | refine qag 0 ?_ rfl rfl rfl rfl rfl rfl ?_ | refine qag 1 ?_ rfl rfl rfl rfl rfl rfl ?_ | refine qag 2 ?_ rfl rfl rfl rfl rfl rfl ?_); rfl; simp only [List.set_cons_zero, List.set_cons_succ]) | ((first | refine qaa 0 ?_ rfl rfl rfl rfl rfl rfl rfl ?_ | refine qaa 1 ?_ rfl rfl rfl rfl rfl rfl rfl ?_ | refine qaa 2 ?_ rfl rfl rfl rfl rfl rfl rfl ?_); rfl; simp only [List.set_cons_zero, List.set_cons_succ]) | ((first | refine qab 0 ?_ rfl rfl rfl rfl rfl rfl rfl ?_ | refine qab 1 ?_ rfl rfl rfl rfl rfl rfl rfl ?_ | refine qab 2 ?_ rfl rfl rfl rfl rfl rfl rfl ?_); rfl; simp only [over, List.set_cons_zero, List.set_cons_succ])) | (rw [hn]) | refine qaz ?_ | refine qax ?_ | refine qaD ?_)
      refine qaL 1 rfl rfl rfl rfl rfl (fun w' hl => ⟨q, rfl, hq, hl.owns, hl.mod⟩)
  obtain ⟨k, x, rfl, hk, hx, hnx⟩ := node_get hn
  obtain ⟨p, hp⟩ := pnode_get hq hx
  obtain ⟨b1, o1, x1, r1, rfl, hR1, hb1, hxk, hr1, hl1, hc1⟩ := h.get hk
  obtain rfl : x1 = x := Option.some.inj (hxk.out.symm.trans hx)
  obtain ⟨ka, kc, rra, rrc, rfl, hk1, ht1, _⟩ := hr1
  obtain ⟨ps, qa, qc⟩ := q
  simp only at hq hql hp
  refine SXl.know (fun w hl => tree_addr (l := ps) (a := qa) (c := qc) hl.owns (by omega)) (fun ⟨gt, hgt⟩ => ?_)
  subst hgt
  have hkp : k < ps.length := by omega
  by_cases hr0 : r.length = 0
  · have hre : r = [] := List.eq_nil_of_length_eq_zero hr0
    have e : setTable l ((k + 1 : Nat) : Int) r = (putTable l ((k + 1 : Nat) : Int) r, 0) := by simp only [setTable, hv, hn, hre]; rfl
    rw [e]
    have hkp' : k < (ps.set k ({ x1 with measured := false }, p)).length := by rw [List.length_set]; exact hkp
    repeat (first | refine qan ?_ | refine qaj ?_ | refine qaf ?_ | refine qad ?_ | refine SX.block ?_ | refine qaC ?_ | refine qat rfl ?_ | (refine qaS rfl rfl rfl ?_) | (refine qau ?_; (first | refine qac (qao rfl (fun w hl => hT _ hl.mod)) rfl ?_ ?_ ?_ | refine qac (qao rfl (fun w hl => isNode_any _ _ _ _ _)) rfl ?_ ?_ ?_); rfl; rfl) | (refine qaI ?_; (refine qac ((qaF (i := k) hkp rfl (congrArg (fun i : Int => some (Value.int .i64 i)) (by omega : ((k + 1 : Nat) : Int) - 1 = (k : Int))))) rfl ?_ ?_ ?_); rfl; rfl) | (refine qaw ?_; (first | refine qac (qav 0 rfl rfl rfl) rfl ?_ ?_ ?_ | refine qac (qav 2 rfl rfl rfl) rfl ?_ ?_ ?_ | refine qac (qal 3 rfl rfl rfl) rfl ?_ ?_ ?_); rfl; rfl) | (refine qai ?_; (refine qac (qae rfl) rfl ?_ ?_ ?_); rfl; rfl) | (refine qap ?_; (refine qac (qak rfl) rfl ?_ ?_ ?_); rfl; rfl) | (refine qam ?_; (refine qac (qah rfl) rfl ?_ ?_ ?_); rfl; rfl) | (refine l_len ?_; (refine qac (OpW.len rfl) rfl ?_ ?_ ?_); rfl; rfl) | (refine l_gtr ?_; (refine qac (OpW.gtrF rfl rfl (by omega)) rfl ?_ ?_ ?_); rfl; rfl) | (refine l_not ?_; (refine qac (OpW.not rfl) rfl ?_ ?_ ?_); rfl; rfl) | (refine l_sub ?_; (refine qac (OpW.subi rfl rfl (by omega) (by omega)) rfl ?_ ?_ ?_); rfl; rfl) | (refine qaG ?_; (refine qac (qay rfl rfl rfl) rfl ?_ ?_ ?_); rfl; rfl) | (refine qaH ?_; refine SXl.alloc ?_ ?_ (fun g => ?_); rfl; rfl) | (refine qas ?_; first | ((first | refine qag 0 ?_ rfl rfl rfl rfl rfl rfl ?_ | refine qag 1 ?_ rfl rfl rfl rfl rfl rfl ?_ | refine qag 2 ?_ rfl rfl rfl rfl rfl rfl ?_); rfl; simp only [List.set_cons_zero, List.set_cons_succ]) | ((first | refine qaa 0 ?_ rfl rfl rfl rfl rfl rfl rfl ?_ | refine qaa 1 ?_ rfl rfl rfl rfl rfl rfl rfl ?_ | refine qaa 2 ?_ rfl rfl rfl rfl rfl rfl rfl ?_); rfl; simp only [List.set_cons_zero, List.set_cons_succ]) | ((first | refine qab 0 ?_ rfl rfl rfl rfl rfl rfl rfl ?_ | refine qab 1 ?_ rfl rfl rfl rfl rfl rfl rfl ?_ | refine qab 2 ?_ rfl rfl rfl rfl rfl rfl rfl ?_); rfl; simp only [over, List.set_cons_zero, List.set_cons_succ])) | (rw [hn]) | refine qar ?_)
    refine SXl.treeCell0 (c := qc) ({ x1 with measured := false }, p) hp rfl rfl rfl rfl (by decide) rfl rfl rfl ?_
    repeat (first | refine qan ?_ | refine qaj ?_ | refine qad ?_)
    refine SX.drawnG (ζ := Option Addr × Nat) 6 (fun _ _ => [⟨g, [.slice (some ⟨gt, 0, none⟩) ps.length qc], 37⟩, ⟨g6, [.slice none 0 0], 37⟩, ⟨g5, [.slice ra r.length rc], 76⟩, ⟨g3, [.slice (some ⟨b1, o1, none⟩) l.length c], 37⟩]) (fun d q => (bif d 5 then [rulesOf r q] else []) ++ treeO (ps.set k ({ x1 with measured := false }, p)) (some ⟨gt, 0, none⟩) qc) (fun _ _ => []) [(5, fun q v => v = .agg [.slice q.1 r.length q.2].toArray)] (none, 0) (by kernel_rfl) (by kernel_rfl) (by kernel_rfl) ⟨rfl, rfl, rfl⟩ ?_
    repeat (first | (refine SXg.v0 (fun dn x p ha hK => (qal 2 rfl rfl rfl)) rfl (fun _ => rfl) rfl (fun _ _ => ⟨rfl, rfl, rfl⟩) rfl ?_) | (refine SXg.v0 (fun dn x p ha hK => (qav 0 rfl rfl rfl)) rfl (fun _ => rfl) rfl (fun _ _ => ⟨rfl, rfl, rfl⟩) rfl ?_) | (refine SXg.v0 (fun dn x p ha hK => (qae rfl)) rfl (fun _ => rfl) rfl (fun _ _ => ⟨rfl, rfl, rfl⟩) rfl ?_) | (refine SXg.v0 (fun dn x p ha hK => (qak rfl)) rfl (fun _ => rfl) rfl (fun _ _ => ⟨rfl, rfl, rfl⟩) rfl ?_) | (refine SXg.v0 (fun dn x p ha hK => (OpW.subi rfl rfl (by omega) (by omega))) rfl (fun _ => rfl) rfl (fun _ _ => ⟨rfl, rfl, rfl⟩) rfl ?_))
    refine SXg.l rfl (fun _ => rfl) rfl (fun dn x q ha hk => ?_) ?_
    · have d5 : dn 5 = false := ha.not
      have u5 : upd dn 5 5 = true := rfl
      simp only [d5, cond_true, cond_false, List.append_nil, List.nil_append]
      refine SXl.callO rfl rfl rfl (fun w' hl => copyTable_any r ra rc R2 w' hrl (SliceAt.flatKeep hr hl.mod)) (fun q2 _ => ?_)
      refine qaj (SQ.g q2 _ rfl (fun w hl => ?_) ⟨fun _ => rfl, trivial⟩)
      simp only [u5, cond_true, cond_false, List.append_nil, List.nil_append]
      exact hl
    refine SXg.tail (fun xq q hkq => ?_)
    have x5 : xq 5 = .agg [.slice q.1 r.length q.2].toArray := hkq.1 rfl
    simp only [x5]
    change SXl _ _ _ _ _ [⟨g, [.slice (some ⟨gt, 0, none⟩) ps.length qc], 37⟩, ⟨g6, [.slice none 0 0], 37⟩, ⟨g5, [.slice ra r.length rc], 76⟩, ⟨g3, [.slice (some ⟨b1, o1, none⟩) l.length c], 37⟩] (rulesO (({ x1 with measured := false, rules := r } : Node), ({ p with ra := q.1, rc := q.2 } : NodeP)) :: treeO (ps.set k ({ x1 with measured := false }, p)) (some ⟨gt, 0, none⟩) qc) [] _ _ _
    repeat (first | (refine qaI ?_; (refine qac ((qaF (i := k) hkp rfl (congrArg (fun i : Int => some (Value.int .i64 i)) (by omega : ((k + 1 : Nat) : Int) - 1 = (k : Int))))) rfl ?_ ?_ ?_); rfl; rfl) | (refine qai ?_; (refine qac (qae rfl) rfl ?_ ?_ ?_); rfl; rfl))
    refine qas ?_
    refine SXl.treeRules0 (c := qc) ({ x1 with measured := false, rules := r }, { p with ra := q.1, rc := q.2 }) (List.getElem?_set_self hkp) rfl rfl rfl rfl rfl rfl rfl ?_
    repeat (first | refine qan ?_ | refine qaj ?_ | refine qaf ?_ | refine qad ?_ | (refine qaw ?_; (refine qac (qal 0 rfl rfl rfl) rfl ?_ ?_ ?_); rfl; rfl) | (refine qam ?_; (refine qac (qah rfl) rfl ?_ ?_ ?_); rfl; rfl) | (refine qas ?_; first | ((first | refine qag 0 ?_ rfl rfl rfl rfl rfl rfl ?_ | refine qag 1 ?_ rfl rfl rfl rfl rfl rfl ?_ | refine qag 2 ?_ rfl rfl rfl rfl rfl rfl ?_); rfl; simp only [List.set_cons_zero, List.set_cons_succ]) | ((first | refine qaa 0 ?_ rfl rfl rfl rfl rfl rfl rfl ?_ | refine qaa 1 ?_ rfl rfl rfl rfl rfl rfl rfl ?_ | refine qaa 2 ?_ rfl rfl rfl rfl rfl rfl rfl ?_); rfl; simp only [List.set_cons_zero, List.set_cons_succ]) | ((first | refine qab 0 ?_ rfl rfl rfl rfl rfl rfl rfl ?_ | refine qab 1 ?_ rfl rfl rfl rfl rfl rfl rfl ?_ | refine qab 2 ?_ rfl rfl rfl rfl rfl rfl rfl ?_); rfl; simp only [over, List.set_cons_zero, List.set_cons_succ])) | refine qaz ?_)
    refine qaL 1 rfl rfl rfl rfl rfl (fun w' hl => ⟨⟨(ps.set k ({ x1 with measured := false }, p)).set k ({ x1 with measured := false, rules := r }, { p with ra := q.1, rc := q.2 }), some ⟨gt, 0, none⟩, qc⟩, ?_, ?_, hl.owns, hl.mod⟩)
    · simp [TreeQ.v, List.length_set]
    · show bare _ = putTable l _ r
      rw [bare_set, bare_set, hq, List.set_set]
      unfold putTable
      rw [hnx, show (((k + 1 : Nat) : Int) - 1).toNat = k by omega, hre]
      rfl
  · have hrne : r ≠ [] := fun e => hr0 (by rw [e]; rfl)
    cases ht : tableOk r
    · have e : setTable l ((k + 1 : Nat) : Int) r = (l, 6) := by simp only [setTable, hv, hn, ht, decide_eq_true hrne]; rfl
      rw [e]
      rw [ht] at hS
      repeat (first | refine qan ?_ | refine qaj ?_ | refine qaf ?_ | refine qad ?_ | refine SX.block ?_ | refine qaq rfl ?_ | refine qat rfl ?_ | (refine qaS rfl rfl rfl ?_) | (refine qau ?_; (first | refine qac (qao rfl (fun w hl => hT _ hl.mod)) rfl ?_ ?_ ?_ | refine qac (qao rfl (fun w hl => isNode_any _ _ _ _ _)) rfl ?_ ?_ ?_ | refine qac (qao rfl (fun w hl => hS _ hl.mod)) rfl ?_ ?_ ?_); rfl; rfl) | (refine qaw ?_; (first | refine qac (qav 2 rfl rfl rfl) rfl ?_ ?_ ?_ | refine qac (qal 0 rfl rfl rfl) rfl ?_ ?_ ?_ | refine qac (qal 2 rfl rfl rfl) rfl ?_ ?_ ?_ | refine qac (qal 3 rfl rfl rfl) rfl ?_ ?_ ?_); rfl; rfl) | (refine qai ?_; (refine qac (qae rfl) rfl ?_ ?_ ?_); rfl; rfl) | (refine qap ?_; (refine qac (qak rfl) rfl ?_ ?_ ?_); rfl; rfl) | (refine qam ?_; (refine qac (qah rfl) rfl ?_ ?_ ?_); rfl; rfl) | (refine l_len ?_; (refine qac (OpW.len rfl) rfl ?_ ?_ ?_); rfl; rfl) | (refine l_gtr ?_; (refine qac (OpW.gtrT rfl rfl (by omega)) rfl ?_ ?_ ?_); rfl; rfl) | (refine l_not ?_; (refine qac (OpW.not rfl) rfl ?_ ?_ ?_); rfl; rfl) | (refine qaG ?_; (refine qac (qay rfl rfl rfl) rfl ?_ ?_ ?_); rfl; rfl) | (refine qaH ?_; refine SXl.alloc ?_ ?_ (fun g => ?_); rfl; rfl) | (refine qas ?_; first | ((first | refine qag 0 ?_ rfl rfl rfl rfl rfl rfl ?_ | refine qag 1 ?_ rfl rfl rfl rfl rfl rfl ?_ | refine qag 2 ?_ rfl rfl rfl rfl rfl rfl ?_); rfl; simp only [List.set_cons_zero, List.set_cons_succ]) | ((first | refine qaa 0 ?_ rfl rfl rfl rfl rfl rfl rfl ?_ | refine qaa 1 ?_ rfl rfl rfl rfl rfl rfl rfl ?_ | refine qaa 2 ?_ rfl rfl rfl rfl rfl rfl rfl ?_); rfl; simp only [List.set_cons_zero, List.set_cons_succ]) | ((first | refine qab 0 ?_ rfl rfl rfl rfl rfl rfl rfl ?_ | refine qab 1 ?_ rfl rfl rfl rfl rfl rfl rfl ?_ | refine qab 2 ?_ rfl rfl rfl rfl rfl rfl rfl ?_); rfl; simp only [over, List.set_cons_zero, List.set_cons_succ])) | (rw [hn]) | refine qaz ?_ | refine qax ?_ | refine qaD ?_)
      refine qaL 1 rfl rfl rfl rfl rfl (fun w' hl => ⟨⟨ps, _, qc⟩, rfl, hq, hl.owns, hl.mod⟩)
    rw [ht] at hS
    by_cases hk0 : x1.kids.length = 0
    rotate_left
    · have hkne : x1.kids ≠ [] := fun e => hk0 (by rw [e]; rfl)
      have e : setTable l ((k + 1 : Nat) : Int) r = (l, 6) := by simp only [setTable, hv, hn, ht, decide_eq_true hrne, hnx, decide_eq_true hkne]; rfl
      rw [e]
      repeat (first | refine qan ?_ | refine qaj ?_ | refine qaf ?_ | refine qad ?_ | refine SX.block ?_ | refine qaq rfl ?_ | refine qat rfl ?_ | (refine qau ?_; (first | refine qac (qao rfl (fun w hl => hT _ hl.mod)) rfl ?_ ?_ ?_ | refine qac (qao rfl (fun w hl => isNode_any _ _ _ _ _)) rfl ?_ ?_ ?_ | refine qac (qao rfl (fun w hl => hS _ hl.mod)) rfl ?_ ?_ ?_ | refine qac (qao rfl (fun w hl => node_any _ _ _ _ k _ _ _ _ _ _ _ _ _ w (by omega) hk (fun j v hv => hl.old (hc1 j v hv) (fun h => h)))) rfl ?_ ?_ ?_); rfl; rfl) | (refine l_field ?_; (refine qac (OpW.field rfl (nodeRow_a1 _ _ _ _ _ _ _ _ _)) rfl ?_ ?_ ?_); rfl; rfl) | (refine qaw ?_; (first | refine qac (qav 2 rfl rfl rfl) rfl ?_ ?_ ?_ | refine qac (qal 0 rfl rfl rfl) rfl ?_ ?_ ?_ | refine qac (qal 2 rfl rfl rfl) rfl ?_ ?_ ?_ | refine qac (qal 3 rfl rfl rfl) rfl ?_ ?_ ?_); rfl; rfl) | (refine qai ?_; (refine qac (qae rfl) rfl ?_ ?_ ?_); rfl; rfl) | (refine qap ?_; (refine qac (qak rfl) rfl ?_ ?_ ?_); rfl; rfl) | (refine qam ?_; (refine qac (qah rfl) rfl ?_ ?_ ?_); rfl; rfl) | (refine l_len ?_; (refine qac (OpW.len rfl) rfl ?_ ?_ ?_); rfl; rfl) | (refine l_gtr ?_; (refine qac (OpW.gtrT rfl rfl (by omega)) rfl ?_ ?_ ?_); rfl; rfl) | (refine l_not ?_; (refine qac (OpW.not rfl) rfl ?_ ?_ ?_); rfl; rfl) | (refine qaG ?_; (refine qac (qay rfl rfl rfl) rfl ?_ ?_ ?_); rfl; rfl) | (refine qaH ?_; refine SXl.alloc ?_ ?_ (fun g => ?_); rfl; rfl) | (refine qas ?_; first | ((first | refine qag 0 ?_ rfl rfl rfl rfl rfl rfl ?_ | refine qag 1 ?_ rfl rfl rfl rfl rfl rfl ?_ | refine qag 2 ?_ rfl rfl rfl rfl rfl rfl ?_); rfl; simp only [List.set_cons_zero, List.set_cons_succ]) | ((first | refine qaa 0 ?_ rfl rfl rfl rfl rfl rfl rfl ?_ | refine qaa 1 ?_ rfl rfl rfl rfl rfl rfl rfl ?_ | refine qaa 2 ?_ rfl rfl rfl rfl rfl rfl rfl ?_); rfl; simp only [List.set_cons_zero, List.set_cons_succ]) | ((first | refine qab 0 ?_ rfl rfl rfl rfl rfl rfl rfl ?_ | refine qab 1 ?_ rfl rfl rfl rfl rfl rfl rfl ?_ | refine qab 2 ?_ rfl rfl rfl rfl rfl rfl rfl ?_); rfl; simp only [over, List.set_cons_zero, List.set_cons_succ])) | (rw [hn]) | refine qaz ?_ | refine qax ?_ | refine qaD ?_)
      refine qaL 1 rfl rfl rfl rfl rfl (fun w' hl => ⟨⟨ps, _, qc⟩, rfl, hq, hl.owns, hl.mod⟩)
    have hke : x1.kids = [] := List.eq_nil_of_length_eq_zero hk0
    have e : setTable l ((k + 1 : Nat) : Int) r = (putTable l ((k + 1 : Nat) : Int) r, 0) := by simp only [setTable, hv, hn, ht, decide_eq_true hrne, hnx, hke]; rfl
    rw [e]
    have hkp' : k < (ps.set k ({ x1 with measured := true }, p)).length := by rw [List.length_set]; exact hkp
    repeat (first | refine qan ?_ | refine qaj ?_ | refine qaf ?_ | refine qad ?_ | refine SX.block ?_ | refine qaC ?_ | refine qat rfl ?_ | (refine qau ?_; (first | refine qac (qao rfl (fun w hl => hT _ hl.mod)) rfl ?_ ?_ ?_ | refine qac (qao rfl (fun w hl => isNode_any _ _ _ _ _)) rfl ?_ ?_ ?_ | refine qac (qao rfl (fun w hl => hS _ hl.mod)) rfl ?_ ?_ ?_ | refine qac (qao rfl (fun w hl => node_any _ _ _ _ k _ _ _ _ _ _ _ _ _ w (by omega) hk (fun j v hv => hl.old (hc1 j v hv) (fun h => h)))) rfl ?_ ?_ ?_); rfl; rfl) | (refine l_field ?_; (refine qac (OpW.field rfl (nodeRow_a1 _ _ _ _ _ _ _ _ _)) rfl ?_ ?_ ?_); rfl; rfl) | (refine qaI ?_; (refine qac ((qaF (i := k) hkp rfl (congrArg (fun i : Int => some (Value.int .i64 i)) (by omega : ((k + 1 : Nat) : Int) - 1 = (k : Int))))) rfl ?_ ?_ ?_); rfl; rfl) | (refine qaw ?_; (first | refine qac (qav 0 rfl rfl rfl) rfl ?_ ?_ ?_ | refine qac (qav 2 rfl rfl rfl) rfl ?_ ?_ ?_ | refine qac (qal 2 rfl rfl rfl) rfl ?_ ?_ ?_ | refine qac (qal 3 rfl rfl rfl) rfl ?_ ?_ ?_); rfl; rfl) | (refine qai ?_; (refine qac (qae rfl) rfl ?_ ?_ ?_); rfl; rfl) | (refine qap ?_; (refine qac (qak rfl) rfl ?_ ?_ ?_); rfl; rfl) | (refine qam ?_; (refine qac (qah rfl) rfl ?_ ?_ ?_); rfl; rfl) | (refine l_len ?_; (refine qac (OpW.len rfl) rfl ?_ ?_ ?_); rfl; rfl) | (refine l_gtr ?_; (first | refine qac (OpW.gtrT rfl rfl (by omega)) rfl ?_ ?_ ?_ | refine qac (OpW.gtrF rfl rfl (by omega)) rfl ?_ ?_ ?_); rfl; rfl) | (refine l_not ?_; (refine qac (OpW.not rfl) rfl ?_ ?_ ?_); rfl; rfl) | (refine l_sub ?_; (refine qac (OpW.subi rfl rfl (by omega) (by omega)) rfl ?_ ?_ ?_); rfl; rfl) | (refine qaG ?_; (refine qac (qay rfl rfl rfl) rfl ?_ ?_ ?_); rfl; rfl) | (refine qaH ?_; refine SXl.alloc ?_ ?_ (fun g => ?_); rfl; rfl) | (refine qas ?_; first | ((first | refine qag 0 ?_ rfl rfl rfl rfl rfl rfl ?_ | refine qag 1 ?_ rfl rfl rfl rfl rfl rfl ?_ | refine qag 2 ?_ rfl rfl rfl rfl rfl rfl ?_); rfl; simp only [List.set_cons_zero, List.set_cons_succ]) | ((first | refine qaa 0 ?_ rfl rfl rfl rfl rfl rfl rfl ?_ | refine qaa 1 ?_ rfl rfl rfl rfl rfl rfl rfl ?_ | refine qaa 2 ?_ rfl rfl rfl rfl rfl rfl rfl ?_); rfl; simp only [List.set_cons_zero, List.set_cons_succ]) | ((first | refine qab 0 ?_ rfl rfl rfl rfl rfl rfl rfl ?_ | refine qab 1 ?_ rfl rfl rfl rfl rfl rfl rfl ?_ | refine qab 2 ?_ rfl rfl rfl rfl rfl rfl rfl ?_); rfl; simp only [over, List.set_cons_zero, List.set_cons_succ])) | (rw [hn]) | refine qar ?_)
    refine SXl.treeCell0 (c := qc) ({ x1 with measured := true }, p) hp rfl rfl rfl rfl (by decide) rfl rfl rfl ?_
    repeat (first | refine qan ?_ | refine qaj ?_ | refine qad ?_)
    refine SX.drawnG (ζ := Option Addr × Nat) 6 (fun _ _ => [⟨g, [.slice (some ⟨gt, 0, none⟩) ps.length qc], 37⟩, ⟨g6, [.slice none 0 0], 37⟩, ⟨g5, [.slice ra r.length rc], 76⟩, ⟨g3, [.slice (some ⟨b1, o1, none⟩) l.length c], 37⟩]) (fun d q => (bif d 5 then [rulesOf r q] else []) ++ treeO (ps.set k ({ x1 with measured := true }, p)) (some ⟨gt, 0, none⟩) qc) (fun _ _ => []) [(5, fun q v => v = .agg [.slice q.1 r.length q.2].toArray)] (none, 0) (by kernel_rfl) (by kernel_rfl) (by kernel_rfl) ⟨rfl, rfl, rfl⟩ ?_
    repeat (first | (refine SXg.v0 (fun dn x p ha hK => (qal 2 rfl rfl rfl)) rfl (fun _ => rfl) rfl (fun _ _ => ⟨rfl, rfl, rfl⟩) rfl ?_) | (refine SXg.v0 (fun dn x p ha hK => (qav 0 rfl rfl rfl)) rfl (fun _ => rfl) rfl (fun _ _ => ⟨rfl, rfl, rfl⟩) rfl ?_) | (refine SXg.v0 (fun dn x p ha hK => (qae rfl)) rfl (fun _ => rfl) rfl (fun _ _ => ⟨rfl, rfl, rfl⟩) rfl ?_) | (refine SXg.v0 (fun dn x p ha hK => (qak rfl)) rfl (fun _ => rfl) rfl (fun _ _ => ⟨rfl, rfl, rfl⟩) rfl ?_) | (refine SXg.v0 (fun dn x p ha hK => (OpW.subi rfl rfl (by omega) (by omega))) rfl (fun _ => rfl) rfl (fun _ _ => ⟨rfl, rfl, rfl⟩) rfl ?_))
    refine SXg.l rfl (fun _ => rfl) rfl (fun dn x q ha hk => ?_) ?_
    · have d5 : dn 5 = false := ha.not
      have u5 : upd dn 5 5 = true := rfl
      simp only [d5, cond_true, cond_false, List.append_nil, List.nil_append]
      refine SXl.callO rfl rfl rfl (fun w' hl => copyTable_any r ra rc R2 w' hrl (SliceAt.flatKeep hr hl.mod)) (fun q2 _ => ?_)
      refine qaj (SQ.g q2 _ rfl (fun w hl => ?_) ⟨fun _ => rfl, trivial⟩)
      simp only [u5, cond_true, cond_false, List.append_nil, List.nil_append]
      exact hl
    refine SXg.tail (fun xq q hkq => ?_)
    have x5 : xq 5 = .agg [.slice q.1 r.length q.2].toArray := hkq.1 rfl
    simp only [x5]
    change SXl _ _ _ _ _ [⟨g, [.slice (some ⟨gt, 0, none⟩) ps.length qc], 37⟩, ⟨g6, [.slice none 0 0], 37⟩, ⟨g5, [.slice ra r.length rc], 76⟩, ⟨g3, [.slice (some ⟨b1, o1, none⟩) l.length c], 37⟩] (rulesO (({ x1 with measured := true, rules := r } : Node), ({ p with ra := q.1, rc := q.2 } : NodeP)) :: treeO (ps.set k ({ x1 with measured := true }, p)) (some ⟨gt, 0, none⟩) qc) [] _ _ _
    repeat (first | (refine qaI ?_; (refine qac ((qaF (i := k) hkp rfl (congrArg (fun i : Int => some (Value.int .i64 i)) (by omega : ((k + 1 : Nat) : Int) - 1 = (k : Int))))) rfl ?_ ?_ ?_); rfl; rfl) | (refine qai ?_; (refine qac (qae rfl) rfl ?_ ?_ ?_); rfl; rfl))
    refine qas ?_
    refine SXl.treeRules0 (c := qc) ({ x1 with measured := true, rules := r }, { p with ra := q.1, rc := q.2 }) (List.getElem?_set_self hkp) rfl rfl rfl rfl rfl rfl rfl ?_
    repeat (first | refine qan ?_ | refine qaj ?_ | refine qaf ?_ | refine qad ?_ | (refine qaw ?_; (refine qac (qal 0 rfl rfl rfl) rfl ?_ ?_ ?_); rfl; rfl) | (refine qam ?_; (refine qac (qah rfl) rfl ?_ ?_ ?_); rfl; rfl) | (refine qas ?_; first | ((first | refine qag 0 ?_ rfl rfl rfl rfl rfl rfl ?_ | refine qag 1 ?_ rfl rfl rfl rfl rfl rfl ?_ | refine qag 2 ?_ rfl rfl rfl rfl rfl rfl ?_); rfl; simp only [List.set_cons_zero, List.set_cons_succ]) | ((first | refine qaa 0 ?_ rfl rfl rfl rfl rfl rfl rfl ?_ | refine qaa 1 ?_ rfl rfl rfl rfl rfl rfl rfl ?_ | refine qaa 2 ?_ rfl rfl rfl rfl rfl rfl rfl ?_); rfl; simp only [List.set_cons_zero, List.set_cons_succ]) | ((first | refine qab 0 ?_ rfl rfl rfl rfl rfl rfl rfl ?_ | refine qab 1 ?_ rfl rfl rfl rfl rfl rfl rfl ?_ | refine qab 2 ?_ rfl rfl rfl rfl rfl rfl rfl ?_); rfl; simp only [over, List.set_cons_zero, List.set_cons_succ])) | refine qaz ?_)
    refine qaL 1 rfl rfl rfl rfl rfl (fun w' hl => ⟨⟨(ps.set k ({ x1 with measured := true }, p)).set k ({ x1 with measured := true, rules := r }, { p with ra := q.1, rc := q.2 }), some ⟨gt, 0, none⟩, qc⟩, ?_, ?_, hl.owns, hl.mod⟩)
    · simp [TreeQ.v, List.length_set]
    · show bare _ = putTable l _ r
      rw [bare_set, bare_set, hq, List.set_set]
      unfold putTable
      rw [hnx, show (((k + 1 : Nat) : Int) - 1).toNat = k by omega, decide_eq_true hrne]
end Go.Proofs.Ythffgbhphjkdeaa
namespace Go.Proofs.Ythffgbhphjkdeaa
open Go.RowKit
set_option linter.unusedVariables false
set_option linter.unusedSimpArgs false

set_option maxRecDepth 100000 in
set_option maxHeartbeats 16000000 in
theorem sremoveKid_any (l : List Node) (n kid : Int) (o : Bool) (a : Option Addr) (c : Nat) (R : Nat → Prop) (w : World) (hlen : l.length ≤ 1048576) (hfit : ∀ x ∈ l, x.fits 1048576) (h : NodeSlice o R w a l) :
    Calls Try.prog 36 #[.agg #[.slice a l.length c], .int .i64 n, .int .i64 kid] w (NewTreeC (removeKid l n kid) w) := by
  have hT := fun w' (hm : Mod (fun _ => False) w w') => streeOk_any l o a c R w' hlen hfit (h.keep hm)
  refine calls_sx Try.func36 rfl rfl (fun a h1 h2 h3 => (((Fr.nil h1 h2).arg (h3 2 _ rfl)).arg (h3 1 _ rfl)).arg (h3 0 _ rfl)) ?_
  repeat (first | refine qan ?_ | refine qaj ?_ | refine qaf ?_ | refine qad ?_ | (refine qaw ?_; (refine qac (qal 1 rfl rfl rfl) rfl ?_ ?_ ?_); rfl; rfl) | (refine qam ?_; (refine qac (qah rfl) rfl ?_ ?_ ?_); rfl; rfl) | (refine qaH ?_; refine SXl.alloc ?_ ?_ (fun g => ?_); rfl; rfl) | (refine l_box ?_; refine qaM ?_ ?_ rfl rfl (fun g => ?_); rfl; rfl))
  rename_i g8
  revert g; intro g9
  refine qau ?_
  refine SXl.callO rfl rfl rfl (fun w' hl => scopyTree_any l o a c R w' hlen hfit (h.keep hl.mod)) (fun q hq => ?_)
  have hql := TreeQ.len hq
  rw [List.append_nil]
  cases hv : treeOk l
  · have e : removeKid l n kid = (l, 1) := by simp [removeKid, hv]
    rw [e]
    rw [hv] at hT
    repeat (first | refine qan ?_ | refine qaj ?_ | refine qaf ?_ | refine qad ?_ | refine qaq rfl ?_ | (refine qaS rfl rfl rfl ?_) | (refine qau ?_; (refine qac (qao rfl (fun w hl => hT _ hl.mod)) rfl ?_ ?_ ?_); rfl; rfl) | (refine qaw ?_; (first | refine qac (qal 0 rfl rfl rfl) rfl ?_ ?_ ?_ | refine qac (qal 2 rfl rfl rfl) rfl ?_ ?_ ?_); rfl; rfl) | (refine qap ?_; (refine qac (qak rfl) rfl ?_ ?_ ?_); rfl; rfl) | (refine qam ?_; (refine qac (qah rfl) rfl ?_ ?_ ?_); rfl; rfl) | (refine l_not ?_; (refine qac (OpW.not rfl) rfl ?_ ?_ ?_); rfl; rfl) | (refine qaG ?_; (refine qac (qay rfl rfl rfl) rfl ?_ ?_ ?_); rfl; rfl) | (refine qaH ?_; refine SXl.alloc ?_ ?_ (fun g => ?_); rfl; rfl) | (refine qas ?_; first | ((first | refine qag 0 ?_ rfl rfl rfl rfl rfl rfl ?_ | refine qag 1 ?_ rfl rfl rfl rfl rfl rfl ?_ | refine qag 2 ?_ rfl rfl rfl rfl rfl rfl ?_); rfl; simp only [List.set_cons_zero, List.set_cons_succ]) | ((first | refine qaa 0 ?_ rfl rfl rfl rfl rfl rfl rfl ?_ | refine qaa 1 ?_ rfl rfl rfl rfl rfl rfl rfl ?_ | refine qaa 2 ?_ rfl rfl rfl rfl rfl rfl rfl ?_); rfl; simp only [List.set_cons_zero, List.set_cons_succ]) | ((first | refine qab 0 ?_ rfl rfl rfl rfl rfl rfl rfl ?_ | refine qab 1 ?_ rfl rfl rfl rfl rfl rfl rfl ?_ | refine qab 2 ?_ rfl rfl rfl rfl rfl rfl rfl ?_); rfl; simp only [over, List.set_cons_zero, List.set_cons_succ])) | refine qaz ?_ | refine qax ?_)
    refine qaL 1 rfl rfl rfl rfl rfl (fun w' hl => ⟨q, rfl, hq, hl.owns, hl.mod⟩)
  rw [hv] at hT
  cases hn : inB n 1 l.length
  · have e : removeKid l n kid = (l, 1) := by simp [removeKid, hn]
    rw [e]
    repeat (first | refine qan ?_ | refine qaj ?_ | refine qaf ?_ | refine qad ?_ | refine qaq rfl ?_ | (refine qaS rfl rfl rfl ?_) | (refine qau ?_; (first | refine qac (qao rfl (fun w hl => hT _ hl.mod)) rfl ?_ ?_ ?_ | refine qac (qao (args := [.agg #[.slice a l.length c], .int .i64 n]) rfl (fun w hl => sisNode_any _ _ _ _ _)) rfl ?_ ?_ ?_); rfl; rfl) | (refine qaw ?_; (first | refine qac (qal 0 rfl rfl rfl) rfl ?_ ?_ ?_ | refine qac (qal 2 rfl rfl rfl) rfl ?_ ?_ ?_); rfl; rfl) | (refine qap ?_; (refine qac (qak rfl) rfl ?_ ?_ ?_); rfl; rfl) | (refine qam ?_; (refine qac (qah rfl) rfl ?_ ?_ ?_); rfl; rfl) | (refine l_not ?_; (refine qac (OpW.not rfl) rfl ?_ ?_ ?_); rfl; rfl) | (refine qaG ?_; (refine qac (qay rfl rfl rfl) rfl ?_ ?_ ?_); rfl; rfl) | (refine qaH ?_; refine SXl.alloc ?_ ?_ (fun g => ?_); rfl; rfl) | (refine qas ?_; first | ((first | refine qag 0 ?_ rfl rfl rfl rfl rfl rfl ?_ | refine qag 1 ?_ rfl rfl rfl rfl rfl rfl ?_ | refine qag 2 ?_ rfl rfl rfl rfl rfl rfl ?_); rfl; simp only [List.set_cons_zero, List.set_cons_succ]) | ((first | refine qaa 0 ?_ rfl rfl rfl rfl rfl rfl rfl ?_ | refine qaa 1 ?_ rfl rfl rfl rfl rfl rfl rfl ?_ | refine qaa 2 ?_ rfl rfl rfl rfl rfl rfl rfl ?_); rfl; simp only [List.set_cons_zero, List.set_cons_succ]) | ((first | refine qab 0 ?_ rfl rfl rfl rfl rfl rfl rfl ?_ | refine qab 1 ?_ rfl rfl rfl rfl rfl rfl rfl ?_ | refine qab 2 ?_ rfl rfl rfl rfl rfl rfl rfl ?_); rfl; simp only [over, List.set_cons_zero, List.set_cons_succ])) | (rw [hn]) | refine qaz ?_ | refine qax ?_)
    refine qaL 1 rfl rfl rfl rfl rfl (fun w' hl => ⟨q, rfl, hq, hl.owns, hl.mod⟩)
  cases hk : inB kid 1 l.length
  · have e : removeKid l n kid = (l, 1) := by simp [removeKid, hk]
    rw [e]
    repeat (first | refine qan ?_ | refine qaj ?_ | refine qaf ?_ | refine qad ?_ | refine qaq rfl ?_ | (refine qau ?_; (first | refine qac (qao rfl (fun w hl => hT _ hl.mod)) rfl ?_ ?_ ?_ | refine qac (qao rfl (fun w hl => sisNode_any _ _ _ _ _)) rfl ?_ ?_ ?_); rfl; rfl) | (refine qaw ?_; (first | refine qac (qal 0 rfl rfl rfl) rfl ?_ ?_ ?_ | refine qac (qal 2 rfl rfl rfl) rfl ?_ ?_ ?_); rfl; rfl) | (refine qap ?_; (refine qac (qak rfl) rfl ?_ ?_ ?_); rfl; rfl) | (refine qam ?_; (refine qac (qah rfl) rfl ?_ ?_ ?_); rfl; rfl) | (refine l_not ?_; (refine qac (OpW.not rfl) rfl ?_ ?_ ?_); rfl; rfl) | (refine qaG ?_; (refine qac (qay rfl rfl rfl) rfl ?_ ?_ ?_); rfl; rfl) | (refine qaH ?_; refine SXl.alloc ?_ ?_ (fun g => ?_); rfl; rfl) | (refine qas ?_; first | ((first | refine qag 0 ?_ rfl rfl rfl rfl rfl rfl ?_ | refine qag 1 ?_ rfl rfl rfl rfl rfl rfl ?_ | refine qag 2 ?_ rfl rfl rfl rfl rfl rfl ?_); rfl; simp only [List.set_cons_zero, List.set_cons_succ]) | ((first | refine qaa 0 ?_ rfl rfl rfl rfl rfl rfl rfl ?_ | refine qaa 1 ?_ rfl rfl rfl rfl rfl rfl rfl ?_ | refine qaa 2 ?_ rfl rfl rfl rfl rfl rfl rfl ?_); rfl; simp only [List.set_cons_zero, List.set_cons_succ]) | ((first | refine qab 0 ?_ rfl rfl rfl rfl rfl rfl rfl ?_ | refine qab 1 ?_ rfl rfl rfl rfl rfl rfl rfl ?_ | refine qab 2 ?_ rfl rfl rfl rfl rfl rfl rfl ?_); rfl; simp only [over, List.set_cons_zero, List.set_cons_succ])) | (rw [hn]) | (rw [hk]) | refine qaz ?_ | refine qax ?_)
    refine qaL 1 rfl rfl rfl rfl rfl (fun w' hl => ⟨q, rfl, hq, hl.owns, hl.mod⟩)
  have hmem := ok_mem hv hn hk
  obtain ⟨kn, x, rfl, hkn, hx, hnx⟩ := node_get hn
  obtain ⟨kk, y, rfl, hkk, hy, hny⟩ := node_get hk
  rw [hnx, hny] at hmem
  obtain ⟨p, hp⟩ := pnode_get hq hx
  obtain ⟨py, hpy⟩ := pnode_get hq hy
  obtain ⟨b1, o1, x1, r1, rfl, hR1, hb1, hxk, hr1, hl1, hc1⟩ := h.get hkn
  obtain rfl : x1 = x := Option.some.inj (hxk.out.symm.trans hx)
  obtain ⟨ka, kc, rra, rrc, rfl, hk1, ht1, _⟩ := hr1
  obtain ⟨b2, o2, y1, r2, hab, hR2, hb2, hyk, hr2, hl2, hc2⟩ := h.get hkk
  obtain rfl : y1 = y := Option.some.inj (hyk.out.symm.trans hy)
  injection hab with hab
  injection hab with e1 e2 _
  subst e1
  subst e2
  obtain ⟨ka2, kc2, rra2, rrc2, rfl, hk2, ht2, _⟩ := hr2
  have hkl : x1.kids.length ≤ 12 := ok_kids_len hv hx
  by_cases hup : y1.up = ((kn + 1 : Nat) : Int)
  rotate_left
  · have e : removeKid l ((kn + 1 : Nat) : Int) ((kk + 1 : Nat) : Int) = (l, 3) := by simp only [removeKid, hv, hn, hk, hny, decide_eq_true hup]; rfl
    rw [e]
    repeat (first | refine qan ?_ | refine qaj ?_ | refine qaf ?_ | refine qad ?_ | refine qaC ?_ | refine qaq rfl ?_ | refine qat rfl ?_ | (refine qau ?_; (first | refine qac (qao rfl (fun w hl => hT _ hl.mod)) rfl ?_ ?_ ?_ | refine qac (qao rfl (fun w hl => sisNode_any _ _ _ _ _)) rfl ?_ ?_ ?_ | refine qac (qao rfl (fun w hl => snode_any _ _ _ _ kk _ _ _ _ _ _ _ _ _ w (by omega) hkk (fun j v hv => hl.old (hc2 j v hv) (fun h => h)))) rfl ?_ ?_ ?_); rfl; rfl) | (refine l_field ?_; (refine qac (OpW.field rfl (nodeRow_a0 _ _ _ _ _ _ _ _ _)) rfl ?_ ?_ ?_); rfl; rfl) | (refine qaw ?_; (first | refine qac (qal 0 rfl rfl rfl) rfl ?_ ?_ ?_ | refine qac (qal 2 rfl rfl rfl) rfl ?_ ?_ ?_); rfl; rfl) | (refine qap ?_; (refine qac (qak rfl) rfl ?_ ?_ ?_); rfl; rfl) | (refine qam ?_; (refine qac (qah rfl) rfl ?_ ?_ ?_); rfl; rfl) | (refine l_neq ?_; (refine qac (OpW.neqT rfl rfl (by omega)) rfl ?_ ?_ ?_); rfl; rfl) | (refine l_not ?_; (refine qac (OpW.not rfl) rfl ?_ ?_ ?_); rfl; rfl) | (refine qaG ?_; (refine qac (qay rfl rfl rfl) rfl ?_ ?_ ?_); rfl; rfl) | (refine qaH ?_; refine SXl.alloc ?_ ?_ (fun g => ?_); rfl; rfl) | (refine qas ?_; first | ((first | refine qag 0 ?_ rfl rfl rfl rfl rfl rfl ?_ | refine qag 1 ?_ rfl rfl rfl rfl rfl rfl ?_ | refine qag 2 ?_ rfl rfl rfl rfl rfl rfl ?_); rfl; simp only [List.set_cons_zero, List.set_cons_succ]) | ((first | refine qaa 0 ?_ rfl rfl rfl rfl rfl rfl rfl ?_ | refine qaa 1 ?_ rfl rfl rfl rfl rfl rfl rfl ?_ | refine qaa 2 ?_ rfl rfl rfl rfl rfl rfl rfl ?_); rfl; simp only [List.set_cons_zero, List.set_cons_succ]) | ((first | refine qab 0 ?_ rfl rfl rfl rfl rfl rfl rfl ?_ | refine qab 1 ?_ rfl rfl rfl rfl rfl rfl rfl ?_ | refine qab 2 ?_ rfl rfl rfl rfl rfl rfl rfl ?_); rfl; simp only [over, List.set_cons_zero, List.set_cons_succ])) | (rw [hn]) | (rw [hk]) | refine qaz ?_ | refine qax ?_)
    refine qaL 1 rfl rfl rfl rfl rfl (fun w' hl => ⟨q, rfl, hq, hl.owns, hl.mod⟩)
  have e : removeKid l ((kn + 1 : Nat) : Int) ((kk + 1 : Nat) : Int) = (takeKid l ((kn + 1 : Nat) : Int) ((kk + 1 : Nat) : Int), 0) := by simp only [removeKid, hv, hn, hk, hny, hup]; simp
  rw [e]
  obtain ⟨ps, qa, qc⟩ := q
  simp only at hq hql hp hpy
  refine SXl.know (fun w hl => tree_addr (l := ps) (a := qa) (c := qc) hl.owns (by omega)) (fun ⟨gt, hgt⟩ => ?_)
  subst hgt
  have hkp : kn < ps.length := by omega
  repeat (first | refine qan ?_ | refine qaj ?_ | refine qaf ?_ | refine qad ?_ | refine SX.block ?_ | refine qaC ?_ | refine qat rfl ?_ | (refine qau ?_; (first | refine qac (qao rfl (fun w hl => hT _ hl.mod)) rfl ?_ ?_ ?_ | refine qac (qao rfl (fun w hl => sisNode_any _ _ _ _ _)) rfl ?_ ?_ ?_ | refine qac (qao rfl (fun w hl => snode_any _ _ _ _ kk _ _ _ _ _ _ _ _ _ w (by omega) hkk (fun j v hv => hl.old (hc2 j v hv) (fun h => h)))) rfl ?_ ?_ ?_); rfl; rfl) | (refine l_field ?_; (refine qac (OpW.field rfl (nodeRow_a0 _ _ _ _ _ _ _ _ _)) rfl ?_ ?_ ?_); rfl; rfl) | (refine qaw ?_; (refine qac (qal 2 rfl rfl rfl) rfl ?_ ?_ ?_); rfl; rfl) | (refine qap ?_; (refine qac (qak rfl) rfl ?_ ?_ ?_); rfl; rfl) | (refine qam ?_; (refine qac (qah rfl) rfl ?_ ?_ ?_); rfl; rfl) | (refine l_neq ?_; (refine qac (OpW.neqF rfl rfl (by omega)) rfl ?_ ?_ ?_); rfl; rfl) | (refine l_not ?_; (refine qac (OpW.not rfl) rfl ?_ ?_ ?_); rfl; rfl) | (refine qaG ?_; (refine qac (qay rfl rfl rfl) rfl ?_ ?_ ?_); rfl; rfl) | (refine qaH ?_; refine SXl.alloc ?_ ?_ (fun g => ?_); rfl; rfl) | (refine qas ?_; first | ((first | refine qag 0 ?_ rfl rfl rfl rfl rfl rfl ?_ | refine qag 1 ?_ rfl rfl rfl rfl rfl rfl ?_ | refine qag 2 ?_ rfl rfl rfl rfl rfl rfl ?_); rfl; simp only [List.set_cons_zero, List.set_cons_succ]) | ((first | refine qaa 0 ?_ rfl rfl rfl rfl rfl rfl rfl ?_ | refine qaa 1 ?_ rfl rfl rfl rfl rfl rfl rfl ?_ | refine qaa 2 ?_ rfl rfl rfl rfl rfl rfl rfl ?_); rfl; simp only [List.set_cons_zero, List.set_cons_succ]) | ((first | refine qab 0 ?_ rfl rfl rfl rfl rfl rfl rfl ?_ | refine qab 1 ?_ rfl rfl rfl rfl rfl rfl rfl ?_ | refine qab 2 ?_ rfl rfl rfl rfl rfl rfl rfl ?_); rfl; simp only [over, List.set_cons_zero, List.set_cons_succ])) | (refine qaR ?_; first | (refine SXl.lit1 ?_ ?_ rfl rfl rfl (fun g => ?_); rfl; rfl) | (refine SXl.lit0 ?_ ?_ (fun _ h => h) rfl (fun g => ?_); rfl; rfl)) | (rw [hn]) | (rw [hk]))
  rename_i g7
  refine SX.loop3 (fun (j : Nat) (_ : Option Addr × Nat) (_ : Unit) => j ≤ x1.kids.length) (fun j _ _ => x1.kids.length - j) (fun _ _ _ => [⟨g7, [.slice (some ⟨gt, 0, none⟩) ps.length qc], 37⟩, ⟨g9, [.slice none 0 0], 37⟩, ⟨g8, [.slice (some ⟨b1, o1, none⟩) l.length c], 37⟩]) (fun j q _ => intsO (restTo x1.kids ((kk + 1 : Nat) : Int) j) q :: treeO ps (some ⟨gt, 0, none⟩) qc) (fun _ _ _ => []) (fun j q _ => [(1, .int .i64 ((kn + 1 : Nat) : Int)), (2, .int .i64 ((kk + 1 : Nat) : Int)), (3, .pointer (some ⟨g8, 0, none⟩)), (6, .pointer (some ⟨g9, 0, none⟩)), (8, .pointer (some ⟨g7, 0, none⟩)), (9, .slice q.1 (restTo x1.kids ((kk + 1 : Nat) : Int) j).length q.2), (10, .int .i64 j)]) 0 (some ⟨g, 0, none⟩, 0) () (Nat.zero_le _) ?_ (fun w hl => hl) ?_
  · (repeat (first | exact subF_nil _ | (refine subF_cons rfl ?_) | (refine subF_consv rfl (by rfl) ?_)))
  rintro j q _ hj
  have hrl := restTo_len x1.kids ((kk + 1 : Nat) : Int) j
  by_cases hjl : j < x1.kids.length
  rotate_left
  · have hall : restTo x1.kids ((kk + 1 : Nat) : Int) j = x1.kids.filter fun k => decide (k ≠ ((kk + 1 : Nat) : Int)) := by unfold restTo; rw [List.take_of_length_le (by omega)]
    generalize hRe : restTo x1.kids ((kk + 1 : Nat) : Int) j = Rk at *
    repeat (first | refine qan ?_ | refine qaj ?_ | refine qaf ?_ | refine qad ?_ | refine qat rfl ?_ | (refine qau ?_; (refine qac (qao rfl (fun w hl => snode_any _ _ _ _ kn _ _ _ _ _ _ _ _ _ w (by omega) hkn (fun j v hv => hl.old (hc1 j v hv) (fun h => h)))) rfl ?_ ?_ ?_); rfl; rfl) | (refine l_field ?_; (refine qac (OpW.field rfl (nodeRow_a1 _ _ _ _ _ _ _ _ _)) rfl ?_ ?_ ?_); rfl; rfl) | (refine qaI ?_; (refine qac ((qaF (i := kn) hkp rfl (congrArg (fun i : Int => some (Value.int .i64 i)) (by omega : ((kn + 1 : Nat) : Int) - 1 = (kn : Int))))) rfl ?_ ?_ ?_); rfl; rfl) | (refine qaw ?_; (first | refine qac (qav 0 rfl rfl rfl) rfl ?_ ?_ ?_ | refine qac (qal 2 rfl rfl rfl) rfl ?_ ?_ ?_); rfl; rfl) | (refine qai ?_; (refine qac (qae rfl) rfl ?_ ?_ ?_); rfl; rfl) | (refine qap ?_; (refine qac (qak rfl) rfl ?_ ?_ ?_); rfl; rfl) | (refine l_len ?_; (refine qac (OpW.len rfl) rfl ?_ ?_ ?_); rfl; rfl) | (refine l_lss ?_; (refine qac (OpW.lssF rfl rfl (by omega)) rfl ?_ ?_ ?_); rfl; rfl) | (refine l_sub ?_; (refine qac (OpW.subi rfl rfl (by omega) (by omega)) rfl ?_ ?_ ?_); rfl; rfl) | refine SX.exit ?_ | refine qaO ?_ | refine qaK ?_)
    change SXl _ _ _ _ _ _ (kidsO (({ x1 with kids := Rk } : Node), ({ p with ka := q.1, kc := q.2 } : NodeP)) :: treeO ps (some ⟨gt, 0, none⟩) qc) _ _ _ _
    refine qas ?_
    refine SXl.treeKids0 (c := qc) (({ x1 with kids := Rk } : Node), ({ p with ka := q.1, kc := q.2 } : NodeP)) hp rfl rfl rfl rfl rfl rfl ?_
    have hkk2 : kk ≠ kn := fun e => by
      subst e
      have hc := ((ok_is hv hn).kids _ (by rw [hnx]; exact hmem.2 hup)).2
      have d1 := ok_dep hv hn
      have d2 := ((ok_deep hv).next _ hn (by rw [hny, hup]; omega)).2.1
      rw [hny, hup] at d2
      omega
    have hpy2 : (ps.set kn (({ x1 with kids := Rk } : Node), ({ p with ka := q.1, kc := q.2 } : NodeP)))[kk]? = some (y1, py) := by rw [List.getElem?_set_ne (fun e => hkk2 e.symm)]; exact hpy
    have hkp2 : kk < ps.length := by omega
    repeat (first | refine qan ?_ | refine qaj ?_ | refine qaf ?_ | refine qad ?_ | (refine qaI ?_; (refine qac ((qaF (i := kk) hkp2 rfl (congrArg (fun i : Int => some (Value.int .i64 i)) (by omega : ((kk + 1 : Nat) : Int) - 1 = (kk : Int))))) rfl ?_ ?_ ?_); rfl; rfl) | (refine qaw ?_; (refine qac (qav 0 rfl rfl rfl) rfl ?_ ?_ ?_); rfl; rfl) | (refine qai ?_; (refine qac (qae rfl) rfl ?_ ?_ ?_); rfl; rfl) | (refine qap ?_; (refine qac (qak rfl) rfl ?_ ?_ ?_); rfl; rfl) | (refine l_sub ?_; (refine qac (OpW.subi rfl rfl (by omega) (by omega)) rfl ?_ ?_ ?_); rfl; rfl))
    refine qas ?_
    refine SXl.treeCell0 (c := qc) ({ y1 with up := 0 }, py) hpy2 rfl rfl rfl rfl (by decide) rfl rfl rfl ?_
    repeat (first | refine qan ?_ | refine qaj ?_ | refine qaf ?_ | refine qad ?_ | (refine qaw ?_; (refine qac (qal 0 rfl rfl rfl) rfl ?_ ?_ ?_); rfl; rfl) | (refine qam ?_; (refine qac (qah rfl) rfl ?_ ?_ ?_); rfl; rfl) | (refine qas ?_; first | ((first | refine qag 0 ?_ rfl rfl rfl rfl rfl rfl ?_ | refine qag 1 ?_ rfl rfl rfl rfl rfl rfl ?_ | refine qag 2 ?_ rfl rfl rfl rfl rfl rfl ?_); rfl; simp only [List.set_cons_zero, List.set_cons_succ]) | ((first | refine qaa 0 ?_ rfl rfl rfl rfl rfl rfl rfl ?_ | refine qaa 1 ?_ rfl rfl rfl rfl rfl rfl rfl ?_ | refine qaa 2 ?_ rfl rfl rfl rfl rfl rfl rfl ?_); rfl; simp only [List.set_cons_zero, List.set_cons_succ]) | ((first | refine qab 0 ?_ rfl rfl rfl rfl rfl rfl rfl ?_ | refine qab 1 ?_ rfl rfl rfl rfl rfl rfl rfl ?_ | refine qab 2 ?_ rfl rfl rfl rfl rfl rfl rfl ?_); rfl; simp only [over, List.set_cons_zero, List.set_cons_succ])) | refine qaz ?_)
    refine qaL 1 rfl rfl rfl rfl rfl (fun w' hl => ⟨⟨(ps.set kn (({ x1 with kids := Rk } : Node), ({ p with ka := q.1, kc := q.2 } : NodeP))).set kk ({ y1 with up := 0 }, py), some ⟨gt, 0, none⟩, qc⟩, by simp [TreeQ.v], ?_, hl.owns, hl.mod⟩)
    show bare _ = takeKid l _ _
    rw [bare_set, bare_set, hq]
    unfold takeKid
    rw [hnx, hny, ← hall, show (((kn + 1 : Nat) : Int) - 1).toNat = kn by omega, show (((kk + 1 : Nat) : Int) - 1).toNat = kk by omega]
  obtain ⟨b3, o3, z, e3, hR3, hb3, hzk, hc3⟩ := IntSlice.get hk1 hjl
  subst e3
  replace hzk := hzk.out
  have hs := restTo_succ (kid := ((kk + 1 : Nat) : Int)) hzk
  by_cases ez : z = ((kk + 1 : Nat) : Int)
  · rw [if_pos ez] at hs
    repeat (first | refine qan ?_ | refine qaj ?_ | refine qaf ?_ | refine qad ?_ | refine SX.block ?_ | refine qaC ?_ | refine qaq rfl ?_ | refine qat rfl ?_ | (refine qau ?_; (refine qac (qao rfl (fun w hl => snode_any _ _ _ _ kn _ _ _ _ _ _ _ _ _ w (by omega) hkn (fun j v hv => hl.old (hc1 j v hv) (fun h => h)))) rfl ?_ ?_ ?_); rfl; rfl) | (refine l_field ?_; (refine qac (OpW.field rfl (nodeRow_a1 _ _ _ _ _ _ _ _ _)) rfl ?_ ?_ ?_); rfl; rfl) | (refine qaw ?_; (first | refine qac (OpW.loadOld rfl (by assumption) (fun h => h)) rfl ?_ ?_ ?_ | refine qac (qal 2 rfl rfl rfl) rfl ?_ ?_ ?_); rfl; rfl) | (refine qap ?_; (refine qac (qak rfl) rfl ?_ ?_ ?_); rfl; rfl) | (refine qam ?_; (refine qac (qah rfl) rfl ?_ ?_ ?_); rfl; rfl) | (refine l_len ?_; (refine qac (OpW.len rfl) rfl ?_ ?_ ?_); rfl; rfl) | (refine l_add ?_; (refine qac (OpW.succ rfl rfl (by omega)) rfl ?_ ?_ ?_); rfl; rfl) | (refine l_lss ?_; (refine qac (OpW.lssT rfl rfl (by omega)) rfl ?_ ?_ ?_); rfl; rfl) | (refine l_neq ?_; (refine qac (OpW.neqF rfl rfl (by omega)) rfl ?_ ?_ ?_); rfl; rfl) | (refine qaI ?_; (refine qac (OpW.indexAddr1 (by omega) rfl rfl) rfl ?_ ?_ ?_); rfl; rfl) | refine qar ?_)
    refine SQ.round3 (j + 1) q () (by omega) (by omega) ?_ (fun w hl => by rw [hs]; exact hl)
    (repeat (first | exact subF_nil _ | (refine subF_cons rfl ?_) | (refine subF_consv rfl (by rw [hs]) ?_)))
  · rw [if_neg ez] at hs
    repeat (first | refine qan ?_ | refine qaj ?_ | refine qaf ?_ | refine qad ?_ | refine SX.block ?_ | refine qaC ?_ | refine qaq rfl ?_ | (refine qau ?_; (refine qac (qao rfl (fun w hl => snode_any _ _ _ _ kn _ _ _ _ _ _ _ _ _ w (by omega) hkn (fun j v hv => hl.old (hc1 j v hv) (fun h => h)))) rfl ?_ ?_ ?_); rfl; rfl) | (refine l_field ?_; (refine qac (OpW.field rfl (nodeRow_a1 _ _ _ _ _ _ _ _ _)) rfl ?_ ?_ ?_); rfl; rfl) | (refine qaw ?_; (first | refine qac (OpW.loadOld rfl (by assumption) (fun h => h)) rfl ?_ ?_ ?_ | refine qac (qal 2 rfl rfl rfl) rfl ?_ ?_ ?_); rfl; rfl) | (refine qap ?_; (refine qac (qak rfl) rfl ?_ ?_ ?_); rfl; rfl) | (refine qam ?_; (refine qac (qah rfl) rfl ?_ ?_ ?_); rfl; rfl) | (refine l_len ?_; (refine qac (OpW.len rfl) rfl ?_ ?_ ?_); rfl; rfl) | (refine l_add ?_; (refine qac (OpW.succ rfl rfl (by omega)) rfl ?_ ?_ ?_); rfl; rfl) | (refine l_lss ?_; (refine qac (OpW.lssT rfl rfl (by omega)) rfl ?_ ?_ ?_); rfl; rfl) | (refine l_neq ?_; (refine qac (OpW.neqT rfl rfl (by omega)) rfl ?_ ?_ ?_); rfl; rfl) | (refine qaI ?_; (refine qac (OpW.indexAddr1 (by omega) rfl rfl) rfl ?_ ?_ ?_); rfl; rfl) | (refine qaR ?_; first | (refine SXl.lit1 ?_ ?_ rfl rfl rfl (fun g => ?_); rfl; rfl) | (refine SXl.lit0 ?_ ?_ (fun _ h => h) rfl (fun g => ?_); rfl; rfl)) | (refine l_append ?_; first | (refine SXl.append 0 0 rfl rfl rfl rfl rfl rfl rfl rfl (by omega) (by omega) (fun a c => ?_); simp only [List.set_cons_zero, List.set_cons_succ]) | (refine SXl.append 1 0 rfl rfl rfl rfl rfl rfl rfl rfl (by omega) (by omega) (fun a c => ?_); simp only [List.set_cons_zero, List.set_cons_succ])) | refine qar ?_)
    refine SQ.round3 (j + 1) (a, c) () (by omega) (by omega) ?_ (fun w hl => by rw [hs, ← kids_push]; exact hl.drop1)
    (repeat (first | exact subF_nil _ | (refine subF_cons rfl ?_) | (refine subF_consv rfl (by rw [hs, List.length_append]; rfl) ?_)))
end Go.Proofs.Ythffgbhphjkdeaa
namespace Go.Proofs.Ythffgbhphjkdeaa
open Go.RowKit

/-- A new cursor over bytes that came in. -/
theorem l01New_loc {W : World} {L : List Blk} {O : List Own} {E : List Res} {w : World} {a : Option Addr} {len cap : Nat} (hlen : len ≤ 1048576) (hy : Bytes W.heap.size W a len) (hl : Loc W (Rg.none W) L O E w) : Calls Try.prog 66 #[.slice a len cap] w (NewCur W.heap.size 141 w) :=
  l01New_any W.heap.size w a len cap hl.mod.size hlen (hy.same fun k hk => hl.mod.block k hk (fun f => f))
end Go.Proofs.Ythffgbhphjkdeaa
namespace Go.Proofs.Ythffgbhphjkdeaa
open Go.RowKit

theorem tooBig_any (a : Option Addr) (len cap : Nat) (h : len ≤ 9223372036854775807) (w : World) : Calls Try.prog 17 #[.slice a len cap] w fun e w' => e = .returned (.bool (decide (1048576 < len))) ∧ w = w' := by
  by_cases hl : 1048576 < len
  · go_enter Try.func17, Try.ntmps17
    go_wp2
    go_ret
    exact ⟨ret_bool (by simp; omega), rfl⟩
  · go_enter Try.func17, Try.ntmps17
    go_wp2
    go_ret
    exact ⟨ret_bool (by simp; omega), rfl⟩

end Go.Proofs.Ythffgbhphjkdeaa
namespace Go.Proofs.Ythffgbhphjkdeaa
open Go.RowKit
set_option linter.unusedVariables false
set_option linter.unusedSimpArgs false

theorem bigT (a : Option Addr) {len : Nat} (cap : Nat) (hl : len ≤ maxLen) (h : 1048576 < len) (w : World) : Calls Try.prog 17 #[.slice a len cap] w fun e w' => e = .returned (.bool true) ∧ Mod (fun _ => False) w w' :=
  (tooBig_any a len cap (by unfold maxLen at hl; omega) w).mono fun e w' ⟨h1, h2⟩ => ⟨by rw [h1, decide_eq_true h], h2 ▸ Mod.refl _ _⟩
theorem bigF (a : Option Addr) {len : Nat} (cap : Nat) (hl : len ≤ maxLen) (h : ¬ 1048576 < len) (w : World) : Calls Try.prog 17 #[.slice a len cap] w fun e w' => e = .returned (.bool false) ∧ Mod (fun _ => False) w w' :=
  (tooBig_any a len cap (by unfold maxLen at hl; omega) w).mono fun e w' ⟨h1, h2⟩ => ⟨by rw [h1, decide_eq_false h], h2 ▸ Mod.refl _ _⟩
/-- A fact of no memory. -/
def factRes (K : Prop) : Res where
  foot := fun _ => False
  says := fun _ => K
  stable := fun _ _ _ h _ _ => h
theorem SXl.fact {P : Program} {n : Nat} {W : World} {R : Rg W} {L : List Blk} {O : List Own} {E : List Res} {f : List (Nat × Value)} {Q : Exit → Go.Act → World → Prop} {ops : Array Oper} {rest : List Oper} {K : Prop} (h : K → SXl P n W R ops L O E f rest Q) : SXl P n W R ops L O (factRes K :: E) f rest Q := ⟨fun a w hf hl => (h (hl.res _ (.head _)).1).run a w hf (hl.dropE)⟩

theorem style_same (s : Style) : sameVs s.cells s.cells = true := (sameVs_iff rfl (fun v hv => by
  have : (s.cells.map kindV).all (fun k => decide (k < 3)) = true := rfl
  rw [List.all_map, List.all_eq_true] at this
  simpa using this v hv)).2 rfl
/-- The bytes of an argument, later. -/
theorem bytes_loc {W : World} {R : Rg W} {L : List Blk} {O : List Own} {E : List Res} {w : World} {a : Option Addr} {len : Nat} (hy : Bytes W.heap.size W a len) (hR : ∀ k, k < W.heap.size → ¬ R.p k) (hl : Loc W R L O E w) : Bytes w.heap.size w a len := by
  have := hy.same (w' := w) fun k hk => hl.mod.block k hk (hR k hk)
  rcases this with h | ⟨b, o, h1, h2, h3⟩
  · exact .inl h
  · exact .inr ⟨b, o, h1, Nat.lt_of_lt_of_le h2 hl.mod.size, h3⟩
end Go.Proofs.Ythffgbhphjkdeaa
namespace Go.Proofs.Ythffgbhphjkdeaa
open Go.RowKit
set_option linter.unusedVariables false
set_option linter.unusedSimpArgs false

set_option maxRecDepth 100000 in
set_option maxHeartbeats 8000000 in
theorem l10At_d (B gc : Nat) (w : World) (hc : Cur B 141 w gc) (a : Option Addr) (m c : Nat) (h0 : 0 < m) (h1 : m ≤ 1000) :
    Calls Try.prog 68 #[.pointer (some ⟨gc, 0, none⟩), .agg #[.slice a m c]] w (DrewV 141 B gc w (fun x : Int => .int .i64 x) (fun x => -1 ≤ x ∧ x ≤ 1000)) := by
  refine calls_draw (as_ := [.pointer (some ⟨gc, 0, none⟩), .agg #[.slice a m c]]) hc Try.func68 rfl rfl (fun a h1 h2 h3 => ((Fr.nil h1 h2).arg (h3 1 _ rfl)).arg (h3 0 _ rfl)) ?_
  repeat (first | refine qan ?_ | refine qaj ?_ | refine qaf ?_ | refine qad ?_ | (refine qaw ?_; (refine qac (qav 0 rfl rfl rfl) rfl ?_ ?_ ?_); rfl; rfl) | (refine qai ?_; (refine qac (qae rfl) rfl ?_ ?_ ?_); rfl; rfl) | (refine qap ?_; (refine qac (qak rfl) rfl ?_ ?_ ?_); rfl; rfl) | (refine qam ?_; (refine qac (qah rfl) rfl ?_ ?_ ?_); rfl; rfl) | (refine l_len ?_; (refine qac (OpW.len rfl) rfl ?_ ?_ ?_); rfl; rfl) | (refine l_box ?_; refine qaM ?_ ?_ rfl rfl (fun g => ?_); rfl; rfl))
  refine qau ?_
  refine qaB (ξ := Int) (v := fun x : Int => .int .i64 x) rfl rfl rfl (fun x => 0 ≤ x ∧ x < (m : Int)) (fun w hl => below_d B gc w hl.inv (m : Int) (by omega) (by omega)) (fun y hy => ?_)
  repeat ((refine l_add ?_; (refine qac (OpW.addi rfl rfl (by omega) (by omega)) rfl ?_ ?_ ?_); rfl; rfl))
  refine qaR ?_
  refine SXl.lit (cells := ([1, 1, 2, 3, y + 1, 0, -1, 13] : List Int).map (.int .i64)) (z := .int .i64 0) ?_ ?_ rfl (by decide) (by kernel_rfl) rfl (fun gl => ?_)
  rfl; rfl
  skip
  refine qau ?_
  refine qaB (ξ := Int) (v := fun x => .int .i64 x) rfl rfl rfl (fun x => x ∈ ([1, 1, 2, 3, y + 1, 0, -1, 13] : List Int)) (fun w hl => pick_g (l := [1, 1, 2, 3, y + 1, 0, -1, 13]) hl (.head _) (by simp) (by simp)) (fun z hz => ?_)
  repeat (first | refine qaj ?_ | refine qad ?_ | (refine qam ?_; (refine qac (qah rfl) rfl ?_ ?_ ?_); rfl; rfl) | refine qaz ?_)
  refine qaA rfl rfl (fun w' hl => ⟨z, rfl, by simp at hz; omega, hl.mod, hl.inv⟩)
theorem drawn_add {l : List Node} (h : Drawn l) (s : Style) : Drawn (addNode l s).1 ∧ 0 ≤ (addNode l s).2 ∧ (addNode l s).2 ≤ 14 := by
  unfold addNode
  have := h.pos
  have := h.len
  split
  · rename_i hc
    rw [Bool.and_eq_true, decide_eq_true_iff] at hc
    refine ⟨⟨by simp, by simp; omega, fun x hx => ?_⟩, by simp; omega, by simp; omega⟩
    rcases List.mem_append.1 hx with hx | hx
    · exact h.parts x hx
    · obtain rfl := List.mem_singleton.1 hx
      exact ⟨Nat.zero_le _, Nat.zero_le _⟩
  · exact ⟨h, Int.le_refl _, by simp⟩
end Go.Proofs.Ythffgbhphjkdeaa
namespace Go.Proofs.Ythffgbhphjkdeaa
open Go.RowKit
set_option linter.unusedVariables false
set_option linter.unusedSimpArgs false

theorem SQ.bodyCell3 {P : Program} {n : Nat} {W : World} {R : Rg W} {L : List Blk} {O : List Own} {E : List Res} {f : List (Nat × Value)} {fn : Func} {R' : Ending → World → Prop} {t u t' : Tmp} {T T' T1 T2 : TypeId} {m m' g g' : Nat} {cells cells' : List Value} {z : Value} [tr : TRow P T m] [tr' : TRow P T' m'] (i j : Nat) (hr : fn.results = #[.cell t T, .tmp u, .cell t' T']) (ht : look f t = some (.pointer (some ⟨g, 0, none⟩))) (hu : look f u = some z) (ht' : look f t' = some (.pointer (some ⟨g', 0, none⟩))) (hi : L[i]? = some ⟨g, cells, T1⟩) (hj : L[j]? = some ⟨g', cells', T2⟩) (hm : cells.length = m) (hm' : cells'.length = m') (h : ∀ w, Loc W R L O E w → R' (.returned (.tuple #[.agg cells.toArray, z, .agg cells'.toArray])) w) : SQ n W R L O E f .ret (bodyPost P fn R') :=
  ⟨fun a w hf hl => ⟨hf.defers, .tuple #[.agg cells.toArray, z, .agg cells'.toArray], by
    have key : ∀ (i g m : Nat) (T T1 : TypeId) (cells : List Value) (tr : TRow P T m), L[i]? = some ⟨g, cells, T1⟩ → cells.length = m → (loadVar T ⟨g, 0, none⟩).run P w = .ok (.agg cells.toArray) w := fun i g m T T1 cells tr hi hm => by
      obtain ⟨⟨d, h1, h2⟩, h3⟩ := tr.h
      have hb := (hl.blk _ (List.mem_iff_getElem?.2 ⟨i, hi⟩)).2
      obtain ⟨q1, q2⟩ := rowOf_range (w := w) (b := g) (o := 0) (n := m) (by simp [hasRow, hb, hm])
      have e2 : rowOf w g 0 m = cells.toArray := by
        unfold rowOf; rw [hb]; simp [← hm]
      rw [e2] at q1
      exact run_loadVar_mid (P := P) w g 0 T _ d q1 h1 h2 (by rw [h3]; simp [hm])
    have e := key i g m T T1 cells tr hi hm
    have e' := key j g' m' T' T2 cells' tr' hj hm'
    have hx : a.tmps[t]? = some (.pointer (some ⟨g, 0, none⟩)) := hf.at_ t _ ht
    have hx' : a.tmps[t']? = some (.pointer (some ⟨g', 0, none⟩)) := hf.at_ t' _ ht'
    have hy : a.tmps[u]? = some z := hf.at_ u _ hu
    simp [results, hr, hx, hx', hy, asAddr, e, e'], h w hl⟩⟩
theorem SQ.bodyCells2 {P : Program} {n : Nat} {W : World} {R : Rg W} {L : List Blk} {O : List Own} {E : List Res} {f : List (Nat × Value)} {fn : Func} {R' : Ending → World → Prop} {t t' : Tmp} {T T' T1 T2 : TypeId} {m m' g g' : Nat} {cells cells' : List Value} [tr : TRow P T m] [tr' : TRow P T' m'] (i j : Nat) (hr : fn.results = #[.cell t T, .cell t' T']) (ht : look f t = some (.pointer (some ⟨g, 0, none⟩))) (ht' : look f t' = some (.pointer (some ⟨g', 0, none⟩))) (hi : L[i]? = some ⟨g, cells, T1⟩) (hj : L[j]? = some ⟨g', cells', T2⟩) (hm : cells.length = m) (hm' : cells'.length = m') (h : ∀ w, Loc W R L O E w → R' (.returned (.tuple #[.agg cells.toArray, .agg cells'.toArray])) w) : SQ n W R L O E f .ret (bodyPost P fn R') :=
  ⟨fun a w hf hl => ⟨hf.defers, .tuple #[.agg cells.toArray, .agg cells'.toArray], by
    have key : ∀ (i g m : Nat) (T T1 : TypeId) (cells : List Value) (tr : TRow P T m), L[i]? = some ⟨g, cells, T1⟩ → cells.length = m → (loadVar T ⟨g, 0, none⟩).run P w = .ok (.agg cells.toArray) w := fun i g m T T1 cells tr hi hm => by
      obtain ⟨⟨d, h1, h2⟩, h3⟩ := tr.h
      have hb := (hl.blk _ (List.mem_iff_getElem?.2 ⟨i, hi⟩)).2
      obtain ⟨q1, q2⟩ := rowOf_range (w := w) (b := g) (o := 0) (n := m) (by simp [hasRow, hb, hm])
      have e2 : rowOf w g 0 m = cells.toArray := by
        unfold rowOf; rw [hb]; simp [← hm]
      rw [e2] at q1
      exact run_loadVar_mid (P := P) w g 0 T _ d q1 h1 h2 (by rw [h3]; simp [hm])
    have e := key i g m T T1 cells tr hi hm
    have e' := key j g' m' T' T2 cells' tr' hj hm'
    have hx : a.tmps[t]? = some (.pointer (some ⟨g, 0, none⟩)) := hf.at_ t _ ht
    have hx' : a.tmps[t']? = some (.pointer (some ⟨g', 0, none⟩)) := hf.at_ t' _ ht'
    simp [results, hr, hx, hx', asAddr, e, e'], h w hl⟩⟩
section
variable {P : Program} {n : Nat} {W : World} {R : Rg W} {L : List Blk} {O : List Own} {E : List Res} {f : List (Nat × Value)} {fn : Func} {R' : Ending → World → Prop} {t u u2 u3 : Tmp} {T T' : TypeId} {m g : Nat} {cells : List Value} {z z2 z3 : Value}
theorem SQ.bodyCellT3 [tr : TRow P T m] (i : Nat) (hr : fn.results = #[.cell t T, .tmp u, .tmp u2]) (ht : look f t = some (.pointer (some ⟨g, 0, none⟩))) (hu : look f u = some z) (hu2 : look f u2 = some z2) (hi : L[i]? = some ⟨g, cells, T'⟩) (hm : cells.length = m) (h : ∀ w, Loc W R L O E w → R' (.returned (.tuple #[.agg cells.toArray, z, z2])) w) : SQ n W R L O E f .ret (bodyPost P fn R') :=
  ⟨fun a w hf hl => ⟨hf.defers, .tuple #[.agg cells.toArray, z, z2], by
    obtain ⟨⟨d, h1, h2⟩, h3⟩ := tr.h
    have hb := (hl.blk _ (List.mem_iff_getElem?.2 ⟨i, hi⟩)).2
    obtain ⟨q1, q2⟩ := rowOf_range (w := w) (b := g) (o := 0) (n := m) (by simp [hasRow, hb, hm])
    have e2 : rowOf w g 0 m = cells.toArray := by
      unfold rowOf; rw [hb]; simp [← hm]
    rw [e2] at q1
    have e := run_loadVar_mid (P := P) w g 0 T _ d q1 h1 h2 (by rw [h3]; simp [hm])
    have hx : a.tmps[t]? = some (.pointer (some ⟨g, 0, none⟩)) := hf.at_ t _ ht
    have hy : a.tmps[u]? = some z := hf.at_ u _ hu
    have hy2 : a.tmps[u2]? = some z2 := hf.at_ u2 _ hu2
    simp [results, hr, hx, hy, hy2, asAddr, e], h w hl⟩⟩
end
end Go.Proofs.Ythffgbhphjkdeaa
namespace Go.Proofs.Ythffgbhphjkdeaa
open Go.RowKit
set_option linter.unusedVariables false
set_option linter.unusedSimpArgs false

/-- A tree, a number and a style, drawn. -/
def DrewTNS (w : World) (e : Ending) (w' : World) : Prop := NewO (TreeQ × Int × Style) (fun q => .tuple #[q.1.v, .int .i64 q.2.1, .agg q.2.2.cells.toArray]) (fun q => q.1.os) (fun q => Drawn (bare q.1.ps)) w e w'
/-- A tree and a style, drawn. -/
def DrewTS (w : World) (e : Ending) (w' : World) : Prop := NewO (TreeQ × Style) (fun q => .tuple #[q.1.v, .agg q.2.cells.toArray]) (fun q => q.1.os) (fun q => Drawn (bare q.1.ps)) w e w'
/-- A tree, a number and rules, drawn. -/
def DrewTNR (w : World) (e : Ending) (w' : World) : Prop := NewO (TreeQ × Int × RuleQ) (fun q => .tuple #[q.1.v, .int .i64 q.2.1, q.2.2.v]) (fun q => q.2.2.o :: q.1.os) (fun q => Drawn (bare q.1.ps) ∧ q.2.2.l.length ≤ 7) w e w'
/-- A tree and two numbers, drawn. -/
def DrewT2 (w : World) (e : Ending) (w' : World) : Prop := NewO (TreeQ × Int × Int) (fun q => .tuple #[q.1.v, .int .i64 q.2.1, .int .i64 q.2.2]) (fun q => q.1.os) (fun q => Drawn (bare q.1.ps)) w e w'
set_option maxRecDepth 100000 in
set_option maxHeartbeats 8000000 in
theorem drawSetStyle_o (a : Option Addr) (len cap : Nat) (w : World) (hlen : len ≤ 1048576) (hy : Bytes w.heap.size w a len) :
    Calls Try.prog 29 #[.slice a len cap] w (DrewTNS w) := by
  refine calls_sx Try.func29 rfl rfl (fun a h1 h2 h3 => ((Fr.nil h1 h2).arg (h3 0 _ rfl))) ?_
  repeat (first | refine qan ?_ | refine qaj ?_ | refine qaf ?_ | refine qad ?_ | (refine qap ?_; (refine qac (qak rfl) rfl ?_ ?_ ?_); rfl; rfl) | (refine qam ?_; (refine qac (qah rfl) rfl ?_ ?_ ?_); rfl; rfl) | (refine qaH ?_; refine SXl.alloc ?_ ?_ (fun g => ?_); rfl; rfl))
  rename_i g2
  revert g; intro g4
  refine qau ?_
  refine SXl.newCur rfl rfl rfl (fun w hl => l01New_loc hlen hy hl) (fun gc => ?_)
  repeat (first | refine qan ?_ | refine qaj ?_ | refine qaf ?_ | refine qad ?_ | (refine qap ?_; (refine qac (qak rfl) rfl ?_ ?_ ?_); rfl; rfl) | (refine qam ?_; (refine qac (qah rfl) rfl ?_ ?_ ?_); rfl; rfl))
  refine qau ?_
  refine SXl.drawO 0 rfl rfl rfl rfl (fun w hl hc => l10Any_d _ _ w hc) (fun q hq => ?_)
  rw [List.append_nil]
  have hq1 := hq.pos
  have hq2 := hq.len
  rw [bare_len] at hq1 hq2
  repeat (first | refine qan ?_ | refine qaj ?_ | refine qad ?_ | (refine qaH ?_; refine SXl.alloc ?_ ?_ (fun g => ?_); rfl; rfl) | (refine qas ?_; first | ((first | refine qaa 0 ?_ rfl rfl rfl rfl rfl rfl rfl ?_ | refine qaa 1 ?_ rfl rfl rfl rfl rfl rfl rfl ?_ | refine qaa 2 ?_ rfl rfl rfl rfl rfl rfl rfl ?_); rfl; simp only [List.set_cons_zero, List.set_cons_succ]) | ((first | refine qab 0 ?_ rfl rfl rfl rfl rfl rfl rfl ?_ | refine qab 1 ?_ rfl rfl rfl rfl rfl rfl rfl ?_ | refine qab 2 ?_ rfl rfl rfl rfl rfl rfl rfl ?_); rfl; simp only [over, List.set_cons_zero, List.set_cons_succ])))
  revert g; intro g6
  refine SX.drawnG (ζ := Int × Style) 9 (fun d p => [⟨g6, [.slice q.a q.ps.length q.c], 37⟩, ⟨g4, bif d 8 then p.2.cells else (default : Style).cells, 66⟩, ⟨g2, [bif d 6 then .slice q.a q.ps.length q.c else .slice none 0 0], 37⟩]) (fun _ _ => q.os) (fun _ _ => [curRes 141 w gc]) [(3, fun p v => v = .int .i64 p.1), (5, fun p v => v = .agg p.2.cells.toArray)] (0, default) (by kernel_rfl) (by kernel_rfl) (by kernel_rfl) ⟨rfl, rfl, rfl⟩ ?_
  repeat (first | (refine SXg.v0 (fun dn x p ha hK => (qal 0 rfl rfl rfl)) rfl (fun _ => rfl) rfl (fun _ _ => ⟨rfl, rfl, rfl⟩) rfl ?_) | (refine SXg.v0 (fun dn x p ha hK => (qak rfl)) rfl (fun _ => rfl) rfl (fun _ _ => ⟨rfl, rfl, rfl⟩) rfl ?_))
  refine SXg.l rfl (fun _ => rfl) rfl (fun dn x p ha hk => ?_) ?_
  · have d5 : dn 5 = false := ha.later 5 (by kernel_rfl)
    have u5 : upd dn 3 5 = false := d5
    have d6 : dn 6 = false := ha.later 6 (by kernel_rfl)
    have u6 : upd dn 3 6 = false := d6
    have d8 : dn 8 = false := ha.later 8 (by kernel_rfl)
    have u8 : upd dn 3 8 = false := d8
    have d3 : dn 3 = false := ha.not
    have u3 : upd dn 3 3 = true := rfl
    simp only [d5, d6, d8, d3, cond_true, cond_false, List.append_nil, List.nil_append]
    refine SXl.drawC (ξ := Int) (v := fun x : Int => .int .i64 x) 0 rfl rfl rfl rfl (fun x => -1 ≤ x ∧ x ≤ 1000) (fun w hl hc => l10At_d _ _ w hc q.a q.ps.length q.c (by omega) (by omega)) (fun n hn => ?_)
    refine qaj (SQ.g (n, p.2) _ rfl (fun w hl => ?_) ⟨fun _ => rfl, fun h => (Bool.false_ne_true (u5.symm.trans h)).elim, trivial⟩)
    simp only [u5, u6, u8, u3, cond_true, cond_false, List.append_nil, List.nil_append]
    exact hl
  repeat ((refine SXg.v0 (fun dn x p ha hK => (qak rfl)) rfl (fun _ => rfl) rfl (fun _ _ => ⟨rfl, rfl, rfl⟩) rfl ?_))
  refine SXg.l rfl (fun _ => rfl) rfl (fun dn x p ha hk => ?_) ?_
  · have d3 : dn 3 = true := ha.done 3 (by kernel_rfl)
    have u3 : upd dn 5 3 = true := d3
    have d6 : dn 6 = false := ha.later 6 (by kernel_rfl)
    have u6 : upd dn 5 6 = false := d6
    have d8 : dn 8 = false := ha.later 8 (by kernel_rfl)
    have u8 : upd dn 5 8 = false := d8
    have d5 : dn 5 = false := ha.not
    have u5 : upd dn 5 5 = true := rfl
    simp only [d3, d6, d8, d5, cond_true, cond_false, List.append_nil, List.nil_append]
    refine SXl.drawC (ξ := Style) (v := fun s => .agg s.cells.toArray) 0 rfl rfl rfl rfl (fun s => AllOk s.cells) (fun w hl hc => l06Any_d _ gc w hc) (fun s hs => ?_)
    refine qaj (SQ.g (p.1, s) _ rfl (fun w hl => ?_) ⟨fun h => hk.1 h, fun _ => rfl, trivial⟩)
    simp only [u3, u6, u8, u5, cond_true, cond_false, List.append_nil, List.nil_append]
    exact hl
  refine SXg.s rfl (fun _ => rfl) (fun dn x p ha hk => ?_) rfl ?_
  · have d5 : dn 5 = true := ha.done 5 (by kernel_rfl)
    have u5 : upd dn 6 5 = true := d5
    have d3 : dn 3 = true := ha.done 3 (by kernel_rfl)
    have u3 : upd dn 6 3 = true := d3
    have d8 : dn 8 = false := ha.later 8 (by kernel_rfl)
    have u8 : upd dn 6 8 = false := d8
    have d6 : dn 6 = false := ha.not
    have u6 : upd dn 6 6 = true := rfl
    simp only [d5, d3, d8, d6, cond_true, cond_false, List.append_nil, List.nil_append]
    refine qaa (r := [.slice q.a q.ps.length q.c]) 2 rfl rfl rfl rfl rfl rfl rfl rfl ?_
    refine qaj (SQ.gs p (fun w hl => ?_) ⟨fun h => hk.1 h, fun h => hk.2.1 h, trivial⟩)
    simp only [u5, u3, u8, u6, cond_true, cond_false, List.append_nil, List.nil_append]
    exact hl
  refine SXg.v [3] (fun x => x 3) (by kernel_rfl) (fun x y h => h 3 (by simp)) (fun dn x p ha hk => qah rfl) rfl (fun _ => rfl) rfl (fun _ _ => ⟨rfl, rfl, rfl⟩) rfl ?_
  refine SXg.s rfl (fun _ => rfl) (fun dn x p ha hk => ?_) rfl ?_
  · have d5 : dn 5 = true := ha.done 5 (by kernel_rfl)
    have u5 : upd dn 8 5 = true := d5
    have d3 : dn 3 = true := ha.done 3 (by kernel_rfl)
    have u3 : upd dn 8 3 = true := d3
    have d6 : dn 6 = true := ha.done 6 (by kernel_rfl)
    have u6 : upd dn 8 6 = true := d6
    have d8 : dn 8 = false := ha.not
    have u8 : upd dn 8 8 = true := rfl
    simp only [d5, d3, d6, d8, cond_true, cond_false, List.append_nil, List.nil_append]
    have x5 : x 5 = .agg p.2.cells.toArray := hk.2.1 d5
    simp only [x5]
    refine qaa (r := p.2.cells) 1 rfl rfl rfl rfl rfl rfl (by kernel_rfl) rfl ?_
    refine qaj (SQ.gs p (fun w hl => ?_) ⟨fun h => hk.1 h, fun h => hk.2.1 h, trivial⟩)
    simp only [u5, u3, u6, u8, cond_true, cond_false, List.append_nil, List.nil_append]
    exact hl
  refine SXg.nilW (fun xq p hkq => ?_)
  have x3 : xq 3 = .int .i64 p.1 := hkq.1 rfl
  simp only [x3]
  change SQ _ _ _ [⟨g6, [.slice q.a q.ps.length q.c], 37⟩, ⟨g4, p.2.cells, 66⟩, ⟨g2, [.slice q.a q.ps.length q.c], 37⟩] q.os [curRes 141 w gc] _ _ _
  repeat (first | refine qad ?_ | refine qaz ?_)
  refine SQ.bodyCell3 2 1 rfl rfl rfl rfl rfl rfl rfl rfl (fun w' hl => ⟨(q, p.1, p.2), rfl, hq, hl.owns, hl.mod⟩)
set_option maxRecDepth 100000 in
set_option maxHeartbeats 8000000 in
theorem drawAddNode_o (a : Option Addr) (len cap : Nat) (w : World) (hlen : len ≤ 1048576) (hy : Bytes w.heap.size w a len) :
    Calls Try.prog 37 #[.slice a len cap] w (DrewTS w) := by
  refine calls_sx Try.func37 rfl rfl (fun a h1 h2 h3 => ((Fr.nil h1 h2).arg (h3 0 _ rfl))) ?_
  repeat (first | refine qan ?_ | refine qaj ?_ | refine qaf ?_ | refine qad ?_ | (refine qap ?_; (refine qac (qak rfl) rfl ?_ ?_ ?_); rfl; rfl) | (refine qaH ?_; refine SXl.alloc ?_ ?_ (fun g => ?_); rfl; rfl))
  rename_i g2
  revert g; intro g4
  refine qau ?_
  refine SXl.newCur rfl rfl rfl (fun w hl => l01New_loc hlen hy hl) (fun gc => ?_)
  repeat (first | refine qan ?_ | refine qaj ?_ | refine qaf ?_ | refine qad ?_ | (refine qap ?_; (refine qac (qak rfl) rfl ?_ ?_ ?_); rfl; rfl) | (refine qam ?_; (refine qac (qah rfl) rfl ?_ ?_ ?_); rfl; rfl))
  refine qau ?_
  refine SXl.drawO 0 rfl rfl rfl rfl (fun w hl hc => l10Any_d _ _ w hc) (fun q hq => ?_)
  rw [List.append_nil]
  have hq1 := hq.pos
  have hq2 := hq.len
  rw [bare_len] at hq1 hq2
  repeat (first | refine qan ?_ | refine qaj ?_ | refine qad ?_ | (refine qaH ?_; refine SXl.alloc ?_ ?_ (fun g => ?_); rfl; rfl) | (refine qas ?_; first | ((first | refine qaa 0 ?_ rfl rfl rfl rfl rfl rfl rfl ?_ | refine qaa 1 ?_ rfl rfl rfl rfl rfl rfl rfl ?_ | refine qaa 2 ?_ rfl rfl rfl rfl rfl rfl rfl ?_); rfl; simp only [List.set_cons_zero, List.set_cons_succ]) | ((first | refine qab 0 ?_ rfl rfl rfl rfl rfl rfl rfl ?_ | refine qab 1 ?_ rfl rfl rfl rfl rfl rfl rfl ?_ | refine qab 2 ?_ rfl rfl rfl rfl rfl rfl rfl ?_); rfl; simp only [over, List.set_cons_zero, List.set_cons_succ])))
  revert g; intro g6
  refine SX.drawnG (ζ := Style) 5 (fun d p => [⟨g6, [.slice q.a q.ps.length q.c], 37⟩, ⟨g4, bif d 4 then p.cells else (default : Style).cells, 66⟩, ⟨g2, [bif d 3 then .slice q.a q.ps.length q.c else .slice none 0 0], 37⟩]) (fun _ _ => q.os) (fun _ _ => [curRes 141 w gc]) [(2, fun p v => v = .agg p.cells.toArray)] default (by kernel_rfl) (by kernel_rfl) (by kernel_rfl) ⟨rfl, rfl, rfl⟩ ?_
  repeat (first | (refine SXg.v0 (fun dn x p ha hK => (qal 0 rfl rfl rfl)) rfl (fun _ => rfl) rfl (fun _ _ => ⟨rfl, rfl, rfl⟩) rfl ?_) | (refine SXg.v0 (fun dn x p ha hK => (qak rfl)) rfl (fun _ => rfl) rfl (fun _ _ => ⟨rfl, rfl, rfl⟩) rfl ?_))
  refine SXg.l rfl (fun _ => rfl) rfl (fun dn x p ha hk => ?_) ?_
  · have d3 : dn 3 = false := ha.later 3 (by kernel_rfl)
    have u3 : upd dn 2 3 = false := d3
    have d4 : dn 4 = false := ha.later 4 (by kernel_rfl)
    have u4 : upd dn 2 4 = false := d4
    have d2 : dn 2 = false := ha.not
    have u2 : upd dn 2 2 = true := rfl
    simp only [d3, d4, d2, cond_true, cond_false, List.append_nil, List.nil_append]
    refine SXl.drawC (ξ := Style) (v := fun s => .agg s.cells.toArray) 0 rfl rfl rfl rfl (fun s => AllOk s.cells) (fun w hl hc => l06Any_d _ gc w hc) (fun s hs => ?_)
    refine qaj (SQ.g s _ rfl (fun w hl => ?_) ⟨fun _ => rfl, trivial⟩)
    simp only [u3, u4, u2, cond_true, cond_false, List.append_nil, List.nil_append]
    exact hl
  refine SXg.s rfl (fun _ => rfl) (fun dn x p ha hk => ?_) rfl ?_
  · have d2 : dn 2 = true := ha.done 2 (by kernel_rfl)
    have u2 : upd dn 3 2 = true := d2
    have d4 : dn 4 = false := ha.later 4 (by kernel_rfl)
    have u4 : upd dn 3 4 = false := d4
    have d3 : dn 3 = false := ha.not
    have u3 : upd dn 3 3 = true := rfl
    simp only [d2, d4, d3, cond_true, cond_false, List.append_nil, List.nil_append]
    refine qaa (r := [.slice q.a q.ps.length q.c]) 2 rfl rfl rfl rfl rfl rfl rfl rfl ?_
    refine qaj (SQ.gs p (fun w hl => ?_) ⟨fun h => hk.1 h, trivial⟩)
    simp only [u2, u4, u3, cond_true, cond_false, List.append_nil, List.nil_append]
    exact hl
  refine SXg.s rfl (fun _ => rfl) (fun dn x p ha hk => ?_) rfl ?_
  · have d2 : dn 2 = true := ha.done 2 (by kernel_rfl)
    have u2 : upd dn 4 2 = true := d2
    have d3 : dn 3 = true := ha.done 3 (by kernel_rfl)
    have u3 : upd dn 4 3 = true := d3
    have d4 : dn 4 = false := ha.not
    have u4 : upd dn 4 4 = true := rfl
    simp only [d2, d3, d4, cond_true, cond_false, List.append_nil, List.nil_append]
    have x2 : x 2 = .agg p.cells.toArray := hk.1 d2
    simp only [x2]
    refine qaa (r := p.cells) 1 rfl rfl rfl rfl rfl rfl (by kernel_rfl) rfl ?_
    refine qaj (SQ.gs p (fun w hl => ?_) ⟨fun h => hk.1 h, trivial⟩)
    simp only [u2, u3, u4, cond_true, cond_false, List.append_nil, List.nil_append]
    exact hl
  refine SXg.nilW (fun xq p hkq => ?_)
  change SQ _ _ _ [⟨g6, [.slice q.a q.ps.length q.c], 37⟩, ⟨g4, p.cells, 66⟩, ⟨g2, [.slice q.a q.ps.length q.c], 37⟩] q.os [curRes 141 w gc] _ _ _
  repeat (first | refine qad ?_ | refine qaz ?_)
  refine SQ.bodyCells2 2 1 rfl rfl rfl rfl rfl rfl rfl (fun w' hl => ⟨(q, p), rfl, hq, hl.owns, hl.mod⟩)
set_option maxRecDepth 100000 in
set_option maxHeartbeats 8000000 in
theorem drawSetTable_o (a : Option Addr) (len cap : Nat) (w : World) (hlen : len ≤ 1048576) (hy : Bytes w.heap.size w a len) :
    Calls Try.prog 32 #[.slice a len cap] w (DrewTNR w) := by
  refine calls_sx Try.func32 rfl rfl (fun a h1 h2 h3 => ((Fr.nil h1 h2).arg (h3 0 _ rfl))) ?_
  repeat (first | refine qan ?_ | refine qaj ?_ | refine qaf ?_ | refine qad ?_ | (refine qap ?_; (refine qac (qak rfl) rfl ?_ ?_ ?_); rfl; rfl) | (refine qam ?_; (refine qac (qah rfl) rfl ?_ ?_ ?_); rfl; rfl) | (refine qaH ?_; refine SXl.alloc ?_ ?_ (fun g => ?_); rfl; rfl))
  rename_i g2
  revert g; intro g4
  refine qau ?_
  refine SXl.newCur rfl rfl rfl (fun w hl => l01New_loc hlen hy hl) (fun gc => ?_)
  repeat (first | refine qan ?_ | refine qaj ?_ | refine qaf ?_ | refine qad ?_ | (refine qap ?_; (refine qac (qak rfl) rfl ?_ ?_ ?_); rfl; rfl) | (refine qam ?_; (refine qac (qah rfl) rfl ?_ ?_ ?_); rfl; rfl))
  refine qau ?_
  refine SXl.drawO 0 rfl rfl rfl rfl (fun w hl hc => l10Any_d _ _ w hc) (fun q hq => ?_)
  rw [List.append_nil]
  have hq1 := hq.pos
  have hq2 := hq.len
  rw [bare_len] at hq1 hq2
  repeat (first | refine qan ?_ | refine qaj ?_ | refine qad ?_ | (refine qaH ?_; refine SXl.alloc ?_ ?_ (fun g => ?_); rfl; rfl) | (refine qas ?_; first | ((first | refine qaa 0 ?_ rfl rfl rfl rfl rfl rfl rfl ?_ | refine qaa 1 ?_ rfl rfl rfl rfl rfl rfl rfl ?_ | refine qaa 2 ?_ rfl rfl rfl rfl rfl rfl rfl ?_); rfl; simp only [List.set_cons_zero, List.set_cons_succ]) | ((first | refine qab 0 ?_ rfl rfl rfl rfl rfl rfl rfl ?_ | refine qab 1 ?_ rfl rfl rfl rfl rfl rfl rfl ?_ | refine qab 2 ?_ rfl rfl rfl rfl rfl rfl rfl ?_); rfl; simp only [over, List.set_cons_zero, List.set_cons_succ])))
  revert g; intro g6
  refine SX.drawnG (ζ := Int × RuleQ) 9 (fun d p => [⟨g6, [.slice q.a q.ps.length q.c], 37⟩, ⟨g4, [bif d 8 then .slice p.2.a p.2.l.length p.2.c else .slice none 0 0], 76⟩, ⟨g2, [bif d 6 then .slice q.a q.ps.length q.c else .slice none 0 0], 37⟩]) (fun d p => (bif d 5 then [p.2.o] else []) ++ q.os) (fun _ _ => [curRes 141 w gc]) [(3, fun p v => v = .int .i64 p.1), (5, fun p v => v = p.2.v ∧ p.2.l.length ≤ 7)] (0, ⟨[], none, 0⟩) (by kernel_rfl) (by kernel_rfl) (by kernel_rfl) ⟨rfl, rfl, rfl⟩ ?_
  repeat (first | (refine SXg.v0 (fun dn x p ha hK => (qal 0 rfl rfl rfl)) rfl (fun _ => rfl) rfl (fun _ _ => ⟨rfl, rfl, rfl⟩) rfl ?_) | (refine SXg.v0 (fun dn x p ha hK => (qak rfl)) rfl (fun _ => rfl) rfl (fun _ _ => ⟨rfl, rfl, rfl⟩) rfl ?_))
  refine SXg.l rfl (fun _ => rfl) rfl (fun dn x p ha hk => ?_) ?_
  · have d5 : dn 5 = false := ha.later 5 (by kernel_rfl)
    have u5 : upd dn 3 5 = false := d5
    have d6 : dn 6 = false := ha.later 6 (by kernel_rfl)
    have u6 : upd dn 3 6 = false := d6
    have d8 : dn 8 = false := ha.later 8 (by kernel_rfl)
    have u8 : upd dn 3 8 = false := d8
    have d3 : dn 3 = false := ha.not
    have u3 : upd dn 3 3 = true := rfl
    simp only [d5, d6, d8, d3, cond_true, cond_false, List.append_nil, List.nil_append]
    refine SXl.drawC (ξ := Int) (v := fun x : Int => .int .i64 x) 0 rfl rfl rfl rfl (fun x => -1 ≤ x ∧ x ≤ 1000) (fun w hl hc => l10At_d _ _ w hc q.a q.ps.length q.c (by omega) (by omega)) (fun n hn => ?_)
    refine qaj (SQ.g (n, p.2) _ rfl (fun w hl => ?_) ⟨fun _ => rfl, fun h => (Bool.false_ne_true (u5.symm.trans h)).elim, trivial⟩)
    simp only [u5, u6, u8, u3, cond_true, cond_false, List.append_nil, List.nil_append]
    exact hl
  repeat ((refine SXg.v0 (fun dn x p ha hK => (qak rfl)) rfl (fun _ => rfl) rfl (fun _ _ => ⟨rfl, rfl, rfl⟩) rfl ?_))
  refine SXg.l rfl (fun _ => rfl) rfl (fun dn x p ha hk => ?_) ?_
  · have d3 : dn 3 = true := ha.done 3 (by kernel_rfl)
    have u3 : upd dn 5 3 = true := d3
    have d6 : dn 6 = false := ha.later 6 (by kernel_rfl)
    have u6 : upd dn 5 6 = false := d6
    have d8 : dn 8 = false := ha.later 8 (by kernel_rfl)
    have u8 : upd dn 5 8 = false := d8
    have d5 : dn 5 = false := ha.not
    have u5 : upd dn 5 5 = true := rfl
    simp only [d3, d6, d8, d5, cond_true, cond_false, List.append_nil, List.nil_append]
    refine SXl.drawO 0 rfl rfl rfl rfl (fun w hl hc => l09Any_o _ gc w hc) (fun r hr => ?_)
    refine qaj (SQ.g (p.1, r) _ rfl (fun w hl => ?_) ⟨fun h => hk.1 h, fun _ => ⟨rfl, hr⟩, trivial⟩)
    simp only [u3, u6, u8, u5, cond_true, cond_false, List.append_nil, List.nil_append]
    exact hl
  refine SXg.s rfl (fun _ => rfl) (fun dn x p ha hk => ?_) rfl ?_
  · have d5 : dn 5 = true := ha.done 5 (by kernel_rfl)
    have u5 : upd dn 6 5 = true := d5
    have d3 : dn 3 = true := ha.done 3 (by kernel_rfl)
    have u3 : upd dn 6 3 = true := d3
    have d8 : dn 8 = false := ha.later 8 (by kernel_rfl)
    have u8 : upd dn 6 8 = false := d8
    have d6 : dn 6 = false := ha.not
    have u6 : upd dn 6 6 = true := rfl
    simp only [d5, d3, d8, d6, cond_true, cond_false, List.append_nil, List.nil_append]
    refine qaa (r := [.slice q.a q.ps.length q.c]) 2 rfl rfl rfl rfl rfl rfl rfl rfl ?_
    refine qaj (SQ.gs p (fun w hl => ?_) ⟨fun h => hk.1 h, fun h => hk.2.1 h, trivial⟩)
    simp only [u5, u3, u8, u6, cond_true, cond_false, List.append_nil, List.nil_append]
    exact hl
  refine SXg.v [3] (fun x => x 3) (by kernel_rfl) (fun x y h => h 3 (by simp)) (fun dn x p ha hk => qah rfl) rfl (fun _ => rfl) rfl (fun _ _ => ⟨rfl, rfl, rfl⟩) rfl ?_
  refine SXg.s rfl (fun _ => rfl) (fun dn x p ha hk => ?_) rfl ?_
  · have d5 : dn 5 = true := ha.done 5 (by kernel_rfl)
    have u5 : upd dn 8 5 = true := d5
    have d3 : dn 3 = true := ha.done 3 (by kernel_rfl)
    have u3 : upd dn 8 3 = true := d3
    have d6 : dn 6 = true := ha.done 6 (by kernel_rfl)
    have u6 : upd dn 8 6 = true := d6
    have d8 : dn 8 = false := ha.not
    have u8 : upd dn 8 8 = true := rfl
    simp only [d5, d3, d6, d8, cond_true, cond_false, List.append_nil, List.nil_append]
    obtain ⟨x5, _⟩ : x 5 = p.2.v ∧ p.2.l.length ≤ 7 := hk.2.1 d5
    simp only [x5]
    refine qaa (r := [.slice p.2.a p.2.l.length p.2.c]) 1 rfl rfl rfl rfl rfl rfl rfl rfl ?_
    refine qaj (SQ.gs p (fun w hl => ?_) ⟨fun h => hk.1 h, fun h => hk.2.1 h, trivial⟩)
    simp only [u5, u3, u6, u8, cond_true, cond_false, List.append_nil, List.nil_append]
    exact hl
  refine SXg.nilW (fun xq p hkq => ?_)
  have x3 : xq 3 = .int .i64 p.1 := hkq.1 rfl
  have hr : p.2.l.length ≤ 7 := (hkq.2.1 rfl).2
  simp only [x3]
  change SQ _ _ _ [⟨g6, [.slice q.a q.ps.length q.c], 37⟩, ⟨g4, [.slice p.2.a p.2.l.length p.2.c], 76⟩, ⟨g2, [.slice q.a q.ps.length q.c], 37⟩] (p.2.o :: q.os) [curRes 141 w gc] _ _ _
  repeat (first | refine qad ?_ | refine qaz ?_)
  refine SQ.bodyCell3 2 1 rfl rfl rfl rfl rfl rfl rfl rfl (fun w' hl => ⟨(q, p.1, p.2), rfl, ⟨hq, hr⟩, hl.owns, hl.mod⟩)
set_option maxRecDepth 100000 in
set_option maxHeartbeats 8000000 in
theorem drawRemoveKid_o (a : Option Addr) (len cap : Nat) (w : World) (hlen : len ≤ 1048576) (hy : Bytes w.heap.size w a len) :
    Calls Try.prog 35 #[.slice a len cap] w (DrewT2 w) := by
  refine calls_sx Try.func35 rfl rfl (fun a h1 h2 h3 => ((Fr.nil h1 h2).arg (h3 0 _ rfl))) ?_
  repeat (first | refine qan ?_ | refine qaj ?_ | refine qaf ?_ | refine qad ?_ | (refine qap ?_; (refine qac (qak rfl) rfl ?_ ?_ ?_); rfl; rfl) | (refine qam ?_; (refine qac (qah rfl) rfl ?_ ?_ ?_); rfl; rfl) | (refine qaH ?_; refine SXl.alloc ?_ ?_ (fun g => ?_); rfl; rfl))
  revert g; intro g2
  refine qau ?_
  refine SXl.newCur rfl rfl rfl (fun w hl => l01New_loc hlen hy hl) (fun gc => ?_)
  repeat (first | refine qan ?_ | refine qaj ?_ | refine qaf ?_ | refine qad ?_ | (refine qap ?_; (refine qac (qak rfl) rfl ?_ ?_ ?_); rfl; rfl) | (refine qam ?_; (refine qac (qah rfl) rfl ?_ ?_ ?_); rfl; rfl))
  refine qau ?_
  refine SXl.drawO 0 rfl rfl rfl rfl (fun w hl hc => l10Any_d _ _ w hc) (fun q hq => ?_)
  rw [List.append_nil]
  have hq1 := hq.pos
  have hq2 := hq.len
  rw [bare_len] at hq1 hq2
  repeat (first | refine qan ?_ | refine qaj ?_ | refine qaf ?_ | refine qad ?_ | (refine qaw ?_; (refine qac (qal 0 rfl rfl rfl) rfl ?_ ?_ ?_); rfl; rfl) | (refine qap ?_; (refine qac (qak rfl) rfl ?_ ?_ ?_); rfl; rfl) | (refine qaH ?_; refine SXl.alloc ?_ ?_ (fun g => ?_); rfl; rfl) | (refine qas ?_; first | ((first | refine qaa 0 ?_ rfl rfl rfl rfl rfl rfl rfl ?_ | refine qaa 1 ?_ rfl rfl rfl rfl rfl rfl rfl ?_ | refine qaa 2 ?_ rfl rfl rfl rfl rfl rfl rfl ?_); rfl; simp only [List.set_cons_zero, List.set_cons_succ]) | ((first | refine qab 0 ?_ rfl rfl rfl rfl rfl rfl rfl ?_ | refine qab 1 ?_ rfl rfl rfl rfl rfl rfl rfl ?_ | refine qab 2 ?_ rfl rfl rfl rfl rfl rfl rfl ?_); rfl; simp only [over, List.set_cons_zero, List.set_cons_succ])))
  revert g; intro g6
  refine qau ?_
  refine SXl.drawC (ξ := Int) (v := fun x : Int => .int .i64 x) 0 rfl rfl rfl rfl (fun x => -1 ≤ x ∧ x ≤ 1000) (fun w hl hc => l10At_d _ _ w hc q.a q.ps.length q.c (by omega) (by omega)) (fun kid hkid => ?_)
  repeat (first | refine qan ?_ | refine qaj ?_ | refine qaf ?_ | refine qad ?_ | (refine qaw ?_; (refine qac (qal 0 rfl rfl rfl) rfl ?_ ?_ ?_); rfl; rfl) | (refine qap ?_; (refine qac (qak rfl) rfl ?_ ?_ ?_); rfl; rfl) | (refine qam ?_; (refine qac (qah rfl) rfl ?_ ?_ ?_); rfl; rfl))
  refine qau ?_
  refine SXl.drawC (ξ := Int) (v := fun x : Int => .int .i64 x) 0 rfl rfl rfl rfl (fun x => -1 ≤ x ∧ x ≤ 1000) (fun w hl hc => l10At_d _ _ w hc q.a q.ps.length q.c (by omega) (by omega)) (fun n hn => ?_)
  cases hk : inB kid 1 q.ps.length
  · repeat (first | refine qan ?_ | refine qaj ?_ | refine qaf ?_ | refine qad ?_ | refine qaC ?_ | refine qat rfl ?_ | (refine qaS rfl rfl rfl ?_) | (refine qau ?_; (refine qac (qao rfl (fun w hl => sisNode_any _ _ _ _ _)) rfl ?_ ?_ ?_); rfl; rfl) | (refine qaw ?_; (refine qac (qal 0 rfl rfl rfl) rfl ?_ ?_ ?_); rfl; rfl) | (refine qap ?_; (refine qac (qak rfl) rfl ?_ ?_ ?_); rfl; rfl) | (refine qam ?_; (refine qac (qah rfl) rfl ?_ ?_ ?_); rfl; rfl) | (refine qaG ?_; (refine qac (qay rfl rfl rfl) rfl ?_ ?_ ?_); rfl; rfl) | (refine qas ?_; first | ((first | refine qaa 0 ?_ rfl rfl rfl rfl rfl rfl rfl ?_ | refine qaa 1 ?_ rfl rfl rfl rfl rfl rfl rfl ?_ | refine qaa 2 ?_ rfl rfl rfl rfl rfl rfl rfl ?_); rfl; simp only [List.set_cons_zero, List.set_cons_succ]) | ((first | refine qab 0 ?_ rfl rfl rfl rfl rfl rfl rfl ?_ | refine qab 1 ?_ rfl rfl rfl rfl rfl rfl rfl ?_ | refine qab 2 ?_ rfl rfl rfl rfl rfl rfl rfl ?_); rfl; simp only [over, List.set_cons_zero, List.set_cons_succ])) | (rw [hk]) | refine qaz ?_)
    refine SQ.bodyCellT3 1 rfl rfl rfl rfl rfl rfl (fun w' hl => ⟨(q, n, kid), rfl, hq, hl.owns, hl.mod⟩)
  repeat (first | refine qan ?_ | refine qaj ?_ | refine qaf ?_ | refine qad ?_ | (refine qau ?_; (refine qac (qao rfl (fun w hl => sisNode_any _ _ _ _ _)) rfl ?_ ?_ ?_); rfl; rfl) | (refine qaw ?_; (refine qac (qal 0 rfl rfl rfl) rfl ?_ ?_ ?_); rfl; rfl) | (refine qap ?_; (refine qac (qak rfl) rfl ?_ ?_ ?_); rfl; rfl) | (refine qam ?_; (refine qac (qah rfl) rfl ?_ ?_ ?_); rfl; rfl) | (rw [hk]))
  refine qau ?_
  refine SXl.drawC (ξ := Bool) (v := fun b => .bool b) 0 rfl rfl rfl rfl (fun _ => True) (fun w hl hc => once_d _ _ w hc 2 (by decide)) (fun b1 _ => ?_)
  cases b1
  · repeat (first | refine qan ?_ | refine qaj ?_ | refine qaf ?_ | refine qad ?_ | refine qaC ?_ | refine qat rfl ?_ | (refine qaw ?_; (refine qac (qal 0 rfl rfl rfl) rfl ?_ ?_ ?_); rfl; rfl) | (refine qap ?_; (refine qac (qak rfl) rfl ?_ ?_ ?_); rfl; rfl) | (refine qam ?_; (refine qac (qah rfl) rfl ?_ ?_ ?_); rfl; rfl) | (refine qaG ?_; (refine qac (qay rfl rfl rfl) rfl ?_ ?_ ?_); rfl; rfl) | (refine qas ?_; first | ((first | refine qaa 0 ?_ rfl rfl rfl rfl rfl rfl rfl ?_ | refine qaa 1 ?_ rfl rfl rfl rfl rfl rfl rfl ?_ | refine qaa 2 ?_ rfl rfl rfl rfl rfl rfl rfl ?_); rfl; simp only [List.set_cons_zero, List.set_cons_succ]) | ((first | refine qab 0 ?_ rfl rfl rfl rfl rfl rfl rfl ?_ | refine qab 1 ?_ rfl rfl rfl rfl rfl rfl rfl ?_ | refine qab 2 ?_ rfl rfl rfl rfl rfl rfl rfl ?_); rfl; simp only [over, List.set_cons_zero, List.set_cons_succ])) | refine qaz ?_)
    refine SQ.bodyCellT3 1 rfl rfl rfl rfl rfl rfl (fun w' hl => ⟨(q, n, kid), rfl, hq, hl.owns, hl.mod⟩)
  obtain ⟨ps, qa, qc⟩ := q
  simp only at hq hq1 hq2 hk
  have hk' := hk
  rw [← bare_len ps] at hk'
  obtain ⟨k, x0, rfl, hkl, hx0, _⟩ := node_get hk'
  rw [bare_len] at hkl
  obtain ⟨x, hx⟩ : ∃ x, ps[k]? = some x := ⟨_, List.getElem?_eq_getElem hkl⟩
  refine SXl.know (fun w hl => tree_addr (l := ps) (a := qa) (c := qc) hl.owns (by omega)) (fun ⟨gt, hgt⟩ => ?_)
  subst hgt
  have hN := fun w' (ho : Owns w.heap.size w' (treeO ps (some ⟨gt, 0, none⟩) qc)) => snode_any ps.length gt 0 qc k x.1.up x.2.ka x.1.kids.length x.2.kc x.1.style x.1.measured x.2.ra x.1.rules.length x.2.rc w' (by omega) hkl (fun j v hv => nodes_cell ho hx hv)
  repeat (first | refine qan ?_ | refine qaj ?_ | refine qaf ?_ | refine qad ?_ | refine qaq rfl ?_ | (refine qau ?_; (refine qac (qao rfl (fun w hl => hN _ hl.owns)) rfl ?_ ?_ ?_); rfl; rfl) | (refine l_field ?_; (refine qac (OpW.field rfl (nodeRow_a0 _ _ _ _ _ _ _ _ _)) rfl ?_ ?_ ?_); rfl; rfl) | (refine qaw ?_; (refine qac (qal 0 rfl rfl rfl) rfl ?_ ?_ ?_); rfl; rfl) | (refine qap ?_; (refine qac (qak rfl) rfl ?_ ?_ ?_); rfl; rfl) | (refine qam ?_; (refine qac (qah rfl) rfl ?_ ?_ ?_); rfl; rfl) | (refine qaG ?_; (refine qac (qay rfl rfl rfl) rfl ?_ ?_ ?_); rfl; rfl) | (refine qas ?_; first | ((first | refine qaa 0 ?_ rfl rfl rfl rfl rfl rfl rfl ?_ | refine qaa 1 ?_ rfl rfl rfl rfl rfl rfl rfl ?_ | refine qaa 2 ?_ rfl rfl rfl rfl rfl rfl rfl ?_); rfl; simp only [List.set_cons_zero, List.set_cons_succ]) | ((first | refine qab 0 ?_ rfl rfl rfl rfl rfl rfl rfl ?_ | refine qab 1 ?_ rfl rfl rfl rfl rfl rfl rfl ?_ | refine qab 2 ?_ rfl rfl rfl rfl rfl rfl rfl ?_); rfl; simp only [over, List.set_cons_zero, List.set_cons_succ])) | refine qaz ?_)
  refine SQ.bodyCellT3 1 rfl rfl rfl rfl rfl rfl (fun w' hl => ⟨(⟨ps, _, qc⟩, x.1.up, ((k + 1 : Nat) : Int)), rfl, hq, hl.owns, hl.mod⟩)
end Go.Proofs.Ythffgbhphjkdeaa
