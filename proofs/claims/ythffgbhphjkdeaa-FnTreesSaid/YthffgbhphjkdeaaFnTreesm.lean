/-
  PROVED: for every list of bytes the law FnTrees returns true. No condition.
-/
import Derived.Test.YthffgbhphjkdeaaMEg
import Derived.Test.YthffgbhphjkdeaaRows
import Derived.ProofKit
import Derived.OpenShut
import Derived.ShutString
import Derived.ChangeOld
set_option linter.unusedVariables false
set_option linter.unusedSimpArgs false
namespace Go.Proofs.Ythffgbhphjkdeaa
open Go.RowKit
set_option linter.unusedVariables false
set_option linter.unusedSimpArgs false

/-! ### The operations at a tree of the call's own -/
theorem insertKid_o {base : Nat} (q : TreeQ) (n kid i : Int) (w : World) (h : Owns base w q.os) (hs : Drawn (bare q.ps)) : Calls Try.prog 19 #[q.v, .int .i64 n, .int .i64 kid, .int .i64 i] w (NewTreeC (insertKid (bare q.ps) n kid i) w) := by
  rw [q.v_eq]
  exact insertKid_any _ n kid i false q.a q.c _ w (by have := hs.len; omega) hs.fit (tree_in h) (by rw [bare_len]; exact tree_cap h)
theorem sinsertKid_d {base : Nat} (q : TreeQ) (n kid i : Int) (w : World) (h : Owns base w q.os) (hs : Drawn (bare q.ps)) : Calls Try.prog 20 #[q.v, .int .i64 n, .int .i64 kid, .int .i64 i] w (NewTreeC (insertKid (bare q.ps) n kid i) w) := by
  rw [q.v_eq]
  exact sinsertKid_any _ n kid i false q.a q.c _ w (by have := hs.len; omega) hs.fit (tree_in h) (by rw [bare_len]; exact tree_cap h)
theorem removeKid_o {base : Nat} (q : TreeQ) (n kid : Int) (w : World) (h : Owns base w q.os) (hs : Drawn (bare q.ps)) : Calls Try.prog 26 #[q.v, .int .i64 n, .int .i64 kid] w (NewTreeC (removeKid (bare q.ps) n kid) w) := by
  rw [q.v_eq]
  exact removeKid_any _ n kid false q.a q.c _ w (by have := hs.len; omega) hs.fit (tree_in h)
theorem lsameTree_o {base base2 : Nat} (q q' : TreeQ) (w : World) (h : Owns base w q.os) (h' : Owns base2 w q'.os) (hs : Drawn (bare q.ps)) (hs' : Drawn (bare q'.ps)) (he : bare q.ps = bare q'.ps) : Calls Try.prog 21 #[q.v, q'.v] w (fun e w' => e = .returned (.bool true) ∧ Mod (fun _ => False) w w') := by
  rw [q.v_eq, q'.v_eq]
  have := lsameTree_any (bare q.ps) (bare q'.ps) false false q.a q'.a q.c q'.c _ _ w ⟨by have := hs.len; omega, hs.fit⟩ ⟨by have := hs'.len; omega, hs'.fit⟩ (tree_in h) (tree_in h')
  rwa [decide_eq_true he] at this
theorem treeOk_o {base : Nat} (q : TreeQ) (w : World) (h : Owns base w q.os) (hs : Drawn (bare q.ps)) : Calls Try.prog 22 #[q.v] w (fun e w' => e = .returned (.bool (treeOk (bare q.ps))) ∧ Mod (fun _ => False) w w') := by
  rw [q.v_eq]
  exact treeOk_any _ false q.a q.c _ w (by have := hs.len; omega) hs.fit (tree_in h)
theorem streeOk_o {base : Nat} (q : TreeQ) (w : World) (h : Owns base w q.os) (hs : Drawn (bare q.ps)) : Calls Try.prog 23 #[q.v] w (fun e w' => e = .returned (.bool (treeOk (bare q.ps))) ∧ Mod (fun _ => False) w w') := by
  rw [q.v_eq]
  exact streeOk_any _ false q.a q.c _ w (by have := hs.len; omega) hs.fit (tree_in h)
theorem isUnder_o {base : Nat} (q : TreeQ) (n top : Int) (w : World) (h : Owns base w q.os) (hv : treeOk (bare q.ps) = true) : Calls Try.prog 27 #[q.v, .int .i64 n, .int .i64 top] w (fun e w' => e = .returned (.bool (isUnder (bare q.ps) n top)) ∧ Mod (fun _ => False) w w') := by
  rw [q.v_eq]
  exact isUnder_any _ n top false q.a q.c _ w hv (tree_in h)
theorem depthOf_o {base : Nat} (q : TreeQ) (n : Int) (w : World) (h : Owns base w q.os) (hs : Drawn (bare q.ps)) : Calls Try.prog 28 #[q.v, .int .i64 n] w (fun e w' => e = .returned (.int .i64 (dep (bare q.ps) n)) ∧ Mod (fun _ => False) w w') := by
  rw [q.v_eq]
  exact depthOf_any _ n false q.a q.c _ w (by have := hs.len; omega) (tree_in h)

theorem one_cycle : (insertKid [⟨0, [], plainStyle, false, []⟩] 1 1 0).2 = 2 := by decide +kernel
set_option maxRecDepth 100000 in
set_option maxHeartbeats 8000000 in
theorem fnTrees_walk (w : World) (a : Option Addr) (len cap : Nat) (hl0 : len ≤ 9223372036854775807) (hy : Bytes w.heap.size w a len) :
    Calls Try.prog 4 #[.slice a len cap] w fun e w' => e = .returned (.bool true) ∧ Mod (fun _ => False) w w' := by
  have hm : len ≤ maxLen := by unfold maxLen; exact hl0
  refine calls_sx Try.func4 rfl rfl (fun a h1 h2 h3 => ((Fr.nil h1 h2).arg (h3 0 _ rfl))) ?_
  by_cases hb : 1048576 < len
  · repeat (first | refine qan ?_ | refine qaj ?_ | refine qaf ?_ | refine qad ?_ | refine qaq rfl ?_ | (refine qat ?_; (refine qac (qao rfl (fun w hl => bigT a cap hm hb _)) rfl ?_ ?_ ?_); rfl; rfl) | (refine qap ?_; (refine qac (qak rfl) rfl ?_ ?_ ?_); rfl; rfl) | (refine qam ?_; (refine qac (qah rfl) rfl ?_ ?_ ?_); rfl; rfl) | refine qaA ?_ | refine qax ?_)
    refine qaz rfl rfl (fun w' hl => ⟨rfl, hl.mod⟩)
  have hlen : len ≤ 1048576 := by omega
  repeat (first | refine qan ?_ | refine qaj ?_ | refine qaf ?_ | refine qad ?_ | refine qaC ?_ | refine qas rfl ?_ | (refine qat ?_; (refine qac (qao rfl (fun w hl => bigF a cap hm hb _)) rfl ?_ ?_ ?_); rfl; rfl) | (refine qap ?_; (refine qac (qak rfl) rfl ?_ ?_ ?_); rfl; rfl) | (refine qam ?_; (refine qac (qah rfl) rfl ?_ ?_ ?_); rfl; rfl))
  refine qat ?_
  refine SXl.callO rfl rfl rfl (fun w' hl => drawInsertKid_o a len cap w' hlen (bytes_loc hy (fun _ _ f => f) hl)) (fun qn hq => ?_)
  obtain ⟨q, n, kid, i⟩ := qn
  obtain ⟨hd, hn, hk, hi⟩ := hq
  simp only at hd hn hk hi
  repeat (first | refine qan ?_ | refine qaj ?_ | refine qaf ?_ | refine qad ?_ | (refine qaw ?_; (refine qac (qal 0 rfl rfl rfl) rfl ?_ ?_ ?_); rfl; rfl) | (refine qap ?_; (refine qac (qak rfl) rfl ?_ ?_ ?_); rfl; rfl) | (refine qam ?_; (refine qac (qah rfl) rfl ?_ ?_ ?_); rfl; rfl) | (refine l_extract ?_; (refine qac (OpW.extract rfl rfl) rfl ?_ ?_ ?_); rfl; rfl) | (refine qaM ?_; refine SXl.alloc ?_ ?_ (fun g => ?_); rfl; rfl) | (refine qau ?_; first | ((first | refine qaa 0 ?_ rfl rfl rfl rfl rfl rfl rfl ?_ | refine qaa 1 ?_ rfl rfl rfl rfl rfl rfl rfl ?_ | refine qaa 2 ?_ rfl rfl rfl rfl rfl rfl rfl ?_); rfl; simp only [List.set_cons_zero, List.set_cons_succ]) | ((first | refine qab 0 ?_ rfl rfl rfl rfl rfl rfl rfl ?_ | refine qab 1 ?_ rfl rfl rfl rfl rfl rfl rfl ?_ | refine qab 2 ?_ rfl rfl rfl rfl rfl rfl rfl ?_); rfl; simp only [over, List.set_cons_zero, List.set_cons_succ])))
  revert g; intro g3
  refine qat ?_
  refine SXl.callO rfl rfl rfl (fun w' hl => insertKid_o q n kid i w' (Owns.left hl.owns) hd) (fun q1 hq1 => ?_)
  repeat (first | refine qan ?_ | refine qaj ?_ | refine qaf ?_ | refine qad ?_ | (refine qaw ?_; (refine qac (qal 1 rfl rfl rfl) rfl ?_ ?_ ?_); rfl; rfl) | (refine qap ?_; (refine qac (qak rfl) rfl ?_ ?_ ?_); rfl; rfl) | (refine qam ?_; (refine qac (qah rfl) rfl ?_ ?_ ?_); rfl; rfl) | (refine l_extract ?_; (refine qac (OpW.extract rfl rfl) rfl ?_ ?_ ?_); rfl; rfl) | (refine qaM ?_; refine SXl.alloc ?_ ?_ (fun g => ?_); rfl; rfl) | (refine qau ?_; first | ((first | refine qaa 0 ?_ rfl rfl rfl rfl rfl rfl rfl ?_ | refine qaa 1 ?_ rfl rfl rfl rfl rfl rfl rfl ?_ | refine qaa 2 ?_ rfl rfl rfl rfl rfl rfl rfl ?_); rfl; simp only [List.set_cons_zero, List.set_cons_succ]) | ((first | refine qab 0 ?_ rfl rfl rfl rfl rfl rfl rfl ?_ | refine qab 1 ?_ rfl rfl rfl rfl rfl rfl rfl ?_ | refine qab 2 ?_ rfl rfl rfl rfl rfl rfl rfl ?_); rfl; simp only [over, List.set_cons_zero, List.set_cons_succ])))
  revert g; intro g7
  refine qat ?_
  refine SXl.callO rfl rfl rfl (fun w' hl => sinsertKid_d q n kid i w' (Owns.left (hl.owns.sub (List.sublist_append_right _ _))) hd) (fun q2 hq2 => ?_)
  repeat (first | refine qan ?_ | refine qaj ?_ | refine qad ?_ | (refine qap ?_; (refine qac (qak rfl) rfl ?_ ?_ ?_); rfl; rfl) | (refine qam ?_; (refine qac (qah rfl) rfl ?_ ?_ ?_); rfl; rfl) | (refine l_extract ?_; (refine qac (OpW.extract rfl rfl) rfl ?_ ?_ ?_); rfl; rfl) | (refine qaM ?_; refine SXl.alloc ?_ ?_ (fun g => ?_); rfl; rfl) | (refine qau ?_; first | ((first | refine qaa 0 ?_ rfl rfl rfl rfl rfl rfl rfl ?_ | refine qaa 1 ?_ rfl rfl rfl rfl rfl rfl rfl ?_ | refine qaa 2 ?_ rfl rfl rfl rfl rfl rfl rfl ?_); rfl; simp only [List.set_cons_zero, List.set_cons_succ]) | ((first | refine qab 0 ?_ rfl rfl rfl rfl rfl rfl rfl ?_ | refine qab 1 ?_ rfl rfl rfl rfl rfl rfl rfl ?_ | refine qab 2 ?_ rfl rfl rfl rfl rfl rfl rfl ?_); rfl; simp only [over, List.set_cons_zero, List.set_cons_succ])))
  revert g; intro g9
  generalize hc : (insertKid (bare q.ps) n kid i).2 = c at *
  have hd1 := hd.kid n kid i
  rw [← hq1] at hd1
  have hd2 := hd1
  rw [hq1, ← hq2] at hd2
  have h12 : bare q1.ps = bare q2.ps := by rw [hq1, hq2]
  have hS1 := fun w' (h : Owns w.heap.size w' q1.os) (h' : Owns w.heap.size w' q2.os) => lsameTree_o q1 q2 w' h h' hd1 hd2 h12
  have hT := fun w' (h : Owns w.heap.size w' q.os) => treeOk_o q w' h hd
  have hT' := fun w' (h : Owns w.heap.size w' q.os) => streeOk_o q w' h hd
  generalize hv : treeOk (bare q.ps) = v at *
  refine SX.drawnG (ζ := Unit) 16 (fun _ _ => [⟨g9, [.slice q2.a q2.ps.length q2.c], 37⟩, ⟨g7, [.slice q1.a q1.ps.length q1.c], 37⟩, ⟨g3, [.slice q.a q.ps.length q.c], 37⟩]) (fun _ _ => q2.os ++ (q1.os ++ (q.os ++ []))) (fun _ _ => []) [] () (by kernel_rfl) (by kernel_rfl) (by kernel_rfl) ⟨rfl, rfl, rfl⟩ ?_
  repeat (first | (rw [bne_self_eq_false]) | (refine SXg.v0 (fun dn x p ha hK => (qao rfl (fun w hl => hS1 _ (hl.owns.sub (List.sublist_append_of_sublist_right (List.sublist_append_left _ _))) (hl.owns.sub (List.sublist_append_left _ _))))) rfl (fun _ => rfl) rfl (fun _ _ => ⟨rfl, rfl, rfl⟩) rfl ?_) | (refine SXg.v0 (fun dn x p ha hK => (qao rfl (fun w hl => hT _ (hl.owns.sub (List.sublist_append_of_sublist_right (List.sublist_append_of_sublist_right (List.sublist_append_left _ _))))))) rfl (fun _ => rfl) rfl (fun _ _ => ⟨rfl, rfl, rfl⟩) rfl ?_) | (refine SXg.v0 (fun dn x p ha hK => (qao rfl (fun w hl => hT' _ (hl.owns.sub (List.sublist_append_of_sublist_right (List.sublist_append_of_sublist_right (List.sublist_append_left _ _))))))) rfl (fun _ => rfl) rfl (fun _ _ => ⟨rfl, rfl, rfl⟩) rfl ?_) | (refine SXg.v0 (fun dn x p ha hK => (qal 0 rfl rfl rfl)) rfl (fun _ => rfl) rfl (fun _ _ => ⟨rfl, rfl, rfl⟩) rfl ?_) | (refine SXg.v0 (fun dn x p ha hK => (qal 1 rfl rfl rfl)) rfl (fun _ => rfl) rfl (fun _ _ => ⟨rfl, rfl, rfl⟩) rfl ?_) | (refine SXg.v0 (fun dn x p ha hK => (qal 2 rfl rfl rfl)) rfl (fun _ => rfl) rfl (fun _ _ => ⟨rfl, rfl, rfl⟩) rfl ?_) | (refine SXg.v0 (fun dn x p ha hK => (qak rfl)) rfl (fun _ => rfl) rfl (fun _ _ => ⟨rfl, rfl, rfl⟩) rfl ?_) | (refine SXg.v0 (fun dn x p ha hK => (OpW.neqF rfl rfl (by omega))) rfl (fun _ => rfl) rfl (fun _ _ => ⟨rfl, rfl, rfl⟩) rfl ?_) | (refine SXg.v0 (fun dn x p ha hK => (OpW.neqb rfl rfl)) rfl (fun _ => rfl) rfl (fun _ _ => ⟨rfl, rfl, rfl⟩) rfl ?_) | (refine SXg.v0 (fun dn x p ha hK => (OpW.not rfl)) rfl (fun _ => rfl) rfl (fun _ _ => ⟨rfl, rfl, rfl⟩) rfl ?_) | (refine SXg.v0 (fun dn x p ha hK => (qay rfl rfl rfl)) rfl (fun _ => rfl) rfl (fun _ _ => ⟨rfl, rfl, rfl⟩) rfl ?_))
  refine SXg.nilW (fun xq _ _ => ?_)
  change SQ _ _ _ [⟨g9, [.slice q2.a q2.ps.length q2.c], 37⟩, ⟨g7, [.slice q1.a q1.ps.length q1.c], 37⟩, ⟨g3, [.slice q.a q.ps.length q.c], 37⟩] (q2.os ++ (q1.os ++ (q.os ++ []))) [] _ _ _
  have hP := fun w => plain_any w
  by_cases h0 : c = 0
  rotate_left
  · have he : bare q1.ps = bare q.ps := by rw [hq1]; exact insertKid_same (by rw [hc]; exact h0)
    have hS2 := fun w' (h : Owns w.heap.size w' q1.os) (h' : Owns w.heap.size w' q.os) => lsameTree_o q1 q w' h h' hd1 hd he
    repeat (first | refine qan ?_ | refine qaj ?_ | refine qaf ?_ | refine qad ?_ | refine qaC ?_ | refine qaq rfl ?_ | refine qas rfl ?_ | (refine qat ?_; (refine qac (qao rfl (fun w hl => hP _)) rfl ?_ ?_ ?_); rfl; rfl) | (refine l_build ?_; (refine qac ((OpW.build (vals := []) (cells := [.slice none 0 0]) rfl (by kernel_rfl))) rfl ?_ ?_ ?_); rfl; rfl) | (refine qap ?_; (refine qac (qak rfl) rfl ?_ ?_ ?_); rfl; rfl) | (refine l_neq ?_; (refine qac (OpW.neqT rfl rfl (by omega)) rfl ?_ ?_ ?_); rfl; rfl))
    refine qat ?_
    refine SXl.callO rfl rfl rfl (fun w' hl => addNode_any [] plainStyle false none 0 (fun _ => False) w' (by simp) (fun x h => (List.not_mem_nil h).elim) SliceAt.nil) (fun q6 hq6 => ?_)
    rw [one_add] at hq6
    rw [show (addNode [] plainStyle).2 = 1 by rw [one_add]]
    repeat (first | refine qan ?_ | refine qaj ?_ | refine qaf ?_ | refine qad ?_ | (refine qaw ?_; (refine qac (qal 0 rfl rfl rfl) rfl ?_ ?_ ?_); rfl; rfl) | (refine qap ?_; (refine qac (qak rfl) rfl ?_ ?_ ?_); rfl; rfl) | (refine qam ?_; (refine qac (qah rfl) rfl ?_ ?_ ?_); rfl; rfl) | (refine l_extract ?_; (refine qac (OpW.extract rfl rfl) rfl ?_ ?_ ?_); rfl; rfl) | (refine qaM ?_; refine SXl.alloc ?_ ?_ (fun g => ?_); rfl; rfl) | (refine qau ?_; first | ((first | refine qaa 0 ?_ rfl rfl rfl rfl rfl rfl rfl ?_ | refine qaa 1 ?_ rfl rfl rfl rfl rfl rfl rfl ?_ | refine qaa 2 ?_ rfl rfl rfl rfl rfl rfl rfl ?_); rfl; simp only [List.set_cons_zero, List.set_cons_succ]) | ((first | refine qab 0 ?_ rfl rfl rfl rfl rfl rfl rfl ?_ | refine qab 1 ?_ rfl rfl rfl rfl rfl rfl rfl ?_ | refine qab 2 ?_ rfl rfl rfl rfl rfl rfl rfl ?_); rfl; simp only [over, List.set_cons_zero, List.set_cons_succ])))
    revert g; intro g11
    have hd6 : Drawn (bare q6.ps) := by rw [hq6]; exact ⟨by decide, by decide, fun x hx => by obtain rfl := List.mem_singleton.1 hx; exact ⟨Nat.zero_le _, Nat.zero_le _⟩⟩
    refine qat ?_
    refine SXl.callO rfl rfl rfl (fun w' hl => insertKid_o q6 1 1 0 w' (Owns.left hl.owns) hd6) (fun q7 hq7 => ?_)
    rw [show (insertKid (bare q6.ps) 1 1 0).2 = 2 by rw [hq6]; exact one_cycle]
    repeat (first | refine qan ?_ | refine qaj ?_ | refine qaf ?_ | refine qad ?_ | (refine qaw ?_; (first | refine qac (qal 4 rfl rfl rfl) rfl ?_ ?_ ?_ | refine qac (qal 3 rfl rfl rfl) rfl ?_ ?_ ?_); rfl; rfl) | (refine qat ?_; (refine qac (qao rfl (fun w hl => hS2 _ (hl.owns.sub (List.sublist_append_of_sublist_right (List.sublist_append_of_sublist_right (List.sublist_append_of_sublist_right (List.sublist_append_left _ _))))) (hl.owns.sub (List.sublist_append_of_sublist_right (List.sublist_append_of_sublist_right (List.sublist_append_of_sublist_right (List.sublist_append_of_sublist_right (List.sublist_append_left _ _)))))))) rfl ?_ ?_ ?_); rfl; rfl) | (refine qap ?_; (refine qac (qak rfl) rfl ?_ ?_ ?_); rfl; rfl) | (refine qam ?_; (refine qac (qah rfl) rfl ?_ ?_ ?_); rfl; rfl) | (refine l_eql ?_; (refine qac (qaP rfl rfl (by omega)) rfl ?_ ?_ ?_); rfl; rfl) | (refine qaF ?_; (refine qac (qay rfl rfl rfl) rfl ?_ ?_ ?_); rfl; rfl) | (refine l_extract ?_; (refine qac (OpW.extract rfl rfl) rfl ?_ ?_ ?_); rfl; rfl) | (refine qaM ?_; refine SXl.alloc ?_ ?_ (fun g => ?_); rfl; rfl) | (refine qau ?_; first | ((first | refine qaa 0 ?_ rfl rfl rfl rfl rfl rfl rfl ?_ | refine qaa 1 ?_ rfl rfl rfl rfl rfl rfl rfl ?_ | refine qaa 2 ?_ rfl rfl rfl rfl rfl rfl rfl ?_); rfl; simp only [List.set_cons_zero, List.set_cons_succ]) | ((first | refine qab 0 ?_ rfl rfl rfl rfl rfl rfl rfl ?_ | refine qab 1 ?_ rfl rfl rfl rfl rfl rfl rfl ?_ | refine qab 2 ?_ rfl rfl rfl rfl rfl rfl rfl ?_); rfl; simp only [over, List.set_cons_zero, List.set_cons_succ])) | refine qaA ?_ | refine qax ?_)
    refine qaz rfl rfl (fun w' hl => ⟨rfl, hl.mod⟩)
  subst h0
  obtain ⟨k1, k2, k3, k4, k5⟩ := kid_done hc
  rw [← hq1] at k1 k2 k3 k4 k5
  have hr := removeKid_back hc
  rw [← hq1] at hr
  repeat (first | refine qan ?_ | refine qaj ?_ | refine qaf ?_ | refine qad ?_ | refine qaC ?_ | refine qas rfl ?_ | (refine qaw ?_; (refine qac (qal 1 rfl rfl rfl) rfl ?_ ?_ ?_); rfl; rfl) | (refine qap ?_; (refine qac (qak rfl) rfl ?_ ?_ ?_); rfl; rfl) | (refine l_neq ?_; (refine qac (OpW.neqF rfl rfl (by omega)) rfl ?_ ?_ ?_); rfl; rfl))
  refine qat ?_
  refine SXl.callO rfl rfl rfl (fun w' hl => removeKid_o q1 n kid w' (hl.owns.sub (List.sublist_append_of_sublist_right (List.sublist_append_left _ _))) hd1) (fun q3 hq3 => ?_)
  rw [hr] at hq3
  rw [show (removeKid (bare q1.ps) n kid).2 = 0 by rw [hr]]
  have hd3 : Drawn (bare q3.ps) := by rw [hq3]; exact hd
  repeat (first | refine qan ?_ | refine qaj ?_ | refine qaf ?_ | refine qad ?_ | (refine qaw ?_; (refine qac (qal 2 rfl rfl rfl) rfl ?_ ?_ ?_); rfl; rfl) | (refine qap ?_; (refine qac (qak rfl) rfl ?_ ?_ ?_); rfl; rfl) | (refine qam ?_; (refine qac (qah rfl) rfl ?_ ?_ ?_); rfl; rfl) | (refine l_extract ?_; (refine qac (OpW.extract rfl rfl) rfl ?_ ?_ ?_); rfl; rfl) | (refine qaM ?_; refine SXl.alloc ?_ ?_ (fun g => ?_); rfl; rfl) | (refine qau ?_; first | ((first | refine qaa 0 ?_ rfl rfl rfl rfl rfl rfl rfl ?_ | refine qaa 1 ?_ rfl rfl rfl rfl rfl rfl rfl ?_ | refine qaa 2 ?_ rfl rfl rfl rfl rfl rfl rfl ?_); rfl; simp only [List.set_cons_zero, List.set_cons_succ]) | ((first | refine qab 0 ?_ rfl rfl rfl rfl rfl rfl rfl ?_ | refine qab 1 ?_ rfl rfl rfl rfl rfl rfl rfl ?_ | refine qab 2 ?_ rfl rfl rfl rfl rfl rfl rfl ?_); rfl; simp only [over, List.set_cons_zero, List.set_cons_succ])))
  revert g; intro g15
  refine qat ?_
  refine SXl.callO rfl rfl rfl (fun w' hl => insertKid_o q1 kid n 0 w' (hl.owns.sub (List.sublist_append_of_sublist_right (List.sublist_append_of_sublist_right (List.sublist_append_left _ _)))) hd1) (fun q4 hq4 => ?_)
  generalize (insertKid (bare q1.ps) kid n 0).2 = c4 at *
  repeat (first | refine qan ?_ | refine qaj ?_ | refine qad ?_ | (refine qap ?_; (refine qac (qak rfl) rfl ?_ ?_ ?_); rfl; rfl) | (refine qam ?_; (refine qac (qah rfl) rfl ?_ ?_ ?_); rfl; rfl) | (refine l_extract ?_; (refine qac (OpW.extract rfl rfl) rfl ?_ ?_ ?_); rfl; rfl) | (refine qaM ?_; refine SXl.alloc ?_ ?_ (fun g => ?_); rfl; rfl) | (refine qau ?_; first | ((first | refine qaa 0 ?_ rfl rfl rfl rfl rfl rfl rfl ?_ | refine qaa 1 ?_ rfl rfl rfl rfl rfl rfl rfl ?_ | refine qaa 2 ?_ rfl rfl rfl rfl rfl rfl rfl ?_); rfl; simp only [List.set_cons_zero, List.set_cons_succ]) | ((first | refine qab 0 ?_ rfl rfl rfl rfl rfl rfl rfl ?_ | refine qab 1 ?_ rfl rfl rfl rfl rfl rfl rfl ?_ | refine qab 2 ?_ rfl rfl rfl rfl rfl rfl rfl ?_); rfl; simp only [over, List.set_cons_zero, List.set_cons_succ])))
  revert g; intro g17
  have hS2 := fun w' (h : Owns w.heap.size w' q3.os) (h' : Owns w.heap.size w' q.os) => lsameTree_o q3 q w' h h' hd3 hd hq3
  have hX := fun w' (h : Owns w.heap.size w' q1.os) => streeOk_o q1 w' h hd1
  rw [k1] at hX
  have hU := fun w' (h : Owns w.heap.size w' q1.os) => isUnder_o q1 kid n w' h k1
  rw [k2] at hU
  have hD1 := fun w' (h : Owns w.heap.size w' q1.os) => depthOf_o q1 kid w' h hd1
  have hD2 := fun w' (h : Owns w.heap.size w' q1.os) => depthOf_o q1 n w' h hd1
  generalize dep (bare q1.ps) kid = e1 at *
  generalize dep (bare q1.ps) n = e2 at *
  have p1 : ∀ {w' : World}, Owns w.heap.size w' (q4.os ++ (q3.os ++ (q2.os ++ (q1.os ++ (q.os ++ []))))) → Owns w.heap.size w' q1.os := fun h => h.sub (List.sublist_append_of_sublist_right (List.sublist_append_of_sublist_right (List.sublist_append_of_sublist_right (List.sublist_append_left _ _))))
  refine SX.drawnG (ζ := Unit) 32 (fun _ _ => [⟨g17, [.slice q4.a q4.ps.length q4.c], 37⟩, ⟨g15, [.slice q3.a q3.ps.length q3.c], 37⟩, ⟨g9, [.slice q2.a q2.ps.length q2.c], 37⟩, ⟨g7, [.slice q1.a q1.ps.length q1.c], 37⟩, ⟨g3, [.slice q.a q.ps.length q.c], 37⟩]) (fun _ _ => q4.os ++ (q3.os ++ (q2.os ++ (q1.os ++ (q.os ++ []))))) (fun _ _ => []) [] () (by kernel_rfl) (by kernel_rfl) (by kernel_rfl) ⟨rfl, rfl, rfl⟩ ?_
  repeat (first | (refine SXg.v0 (fun dn x p ha hK => (qal 4 rfl rfl rfl)) rfl (fun _ => rfl) rfl (fun _ _ => ⟨rfl, rfl, rfl⟩) rfl ?_) | (refine SXg.v0 (fun dn x p ha hK => (qal 1 rfl rfl rfl)) rfl (fun _ => rfl) rfl (fun _ _ => ⟨rfl, rfl, rfl⟩) rfl ?_) | (refine SXg.v0 (fun dn x p ha hK => (qal 3 rfl rfl rfl)) rfl (fun _ => rfl) rfl (fun _ _ => ⟨rfl, rfl, rfl⟩) rfl ?_) | (refine SXg.v0 (fun dn x p ha hK => (qao rfl (fun w hl => hS2 _ (hl.owns.sub (List.sublist_append_of_sublist_right (List.sublist_append_left _ _))) (hl.owns.sub (List.sublist_append_of_sublist_right (List.sublist_append_of_sublist_right (List.sublist_append_of_sublist_right (List.sublist_append_of_sublist_right (List.sublist_append_left _ _))))))))) rfl (fun _ => rfl) rfl (fun _ _ => ⟨rfl, rfl, rfl⟩) rfl ?_) | (refine SXg.v0 (fun dn x p ha hK => (qao rfl (fun w hl => hX _ (p1 hl.owns)))) rfl (fun _ => rfl) rfl (fun _ _ => ⟨rfl, rfl, rfl⟩) rfl ?_) | (refine SXg.v0 (fun dn x p ha hK => (qao rfl (fun w hl => hU _ (p1 hl.owns)))) rfl (fun _ => rfl) rfl (fun _ _ => ⟨rfl, rfl, rfl⟩) rfl ?_) | (refine SXg.v0 (fun dn x p ha hK => (qao (args := [q1.v, .int .i64 kid]) rfl (fun w hl => hD1 _ (p1 hl.owns)))) rfl (fun _ => rfl) rfl (fun _ _ => ⟨rfl, rfl, rfl⟩) rfl ?_) | (refine SXg.v0 (fun dn x p ha hK => (qao (args := [q1.v, .int .i64 n]) rfl (fun w hl => hD2 _ (p1 hl.owns)))) rfl (fun _ => rfl) rfl (fun _ _ => ⟨rfl, rfl, rfl⟩) rfl ?_) | (refine SXg.v0 (fun dn x p ha hK => (qak rfl)) rfl (fun _ => rfl) rfl (fun _ _ => ⟨rfl, rfl, rfl⟩) rfl ?_) | (refine SXg.v0 (fun dn x p ha hK => (qah rfl)) rfl (fun _ => rfl) rfl (fun _ _ => ⟨rfl, rfl, rfl⟩) rfl ?_) | (refine SXg.v0 (fun dn x p ha hK => (OpW.addi rfl rfl (by omega) (by omega))) rfl (fun _ => rfl) rfl (fun _ _ => ⟨rfl, rfl, rfl⟩) rfl ?_) | (refine SXg.v0 (fun dn x p ha hK => (qaP rfl rfl (by omega))) rfl (fun _ => rfl) rfl (fun _ _ => ⟨rfl, rfl, rfl⟩) rfl ?_) | (refine SXg.v0 (fun dn x p ha hK => (OpW.neqT rfl rfl (by omega))) rfl (fun _ => rfl) rfl (fun _ _ => ⟨rfl, rfl, rfl⟩) rfl ?_) | (refine SXg.v0 (fun dn x p ha hK => (qay rfl rfl rfl)) rfl (fun _ => rfl) rfl (fun _ _ => ⟨rfl, rfl, rfl⟩) rfl ?_))
  refine SXg.nilW (fun xq _ _ => ?_)
  refine qad ?_
  refine qaA ?_
  refine qaz rfl rfl (fun w' hl => ⟨rfl, hl.mod⟩)
/-! ### The row's frame (the kit's skeleton, turned) -/
namespace fnTrees
open Go.ChangeShapes Go.WideShapes Go.ChangeAt Go.RowKit
set_option linter.unusedVariables false

theorem own : ownKnob Try.prog.godebug = none := by kernel_rfl
theorem laidOut : laidOutB Try.prog = true := by kernel_rfl
def IsRow (k : IntKind) (w : World) (a : Option Addr) (len cap : Nat) (zs : List Int) : Prop :=
  (a = none ∧ len = 0 ∧ cap = 0 ∧ zs = []) ∨
  ∃ x, a = some x ∧ len ≤ cap ∧ cap ≤ maxLen ∧ zs.length = cap ∧ (∀ i, i < zs.length → w.cell? (x.add i) = some (.int k (zs.getD i 0))) ∧ ∀ n ∈ zs, (Lit.int k n).wf = true

theorem walk (a0 : Option Addr) (len0 cap0 : Nat) (z0 : List Int) (w : World) (w0 : IsRow .u8 w a0 len0 cap0 z0) :
    Calls Try.prog 4 #[.slice a0 len0 cap0] w fun e w' => e = .returned (.bool true) ∧ Below w.heap.size w w' := by
  obtain ⟨h1, h2⟩ := bytes_of_row (a := a0) (len := len0) (cap := cap0) (zs := z0) w0
  exact (fnTrees_walk w a0 len0 cap0 h1 h2).mono fun e w' ⟨he, hm⟩ => ⟨he, hm.below (Nat.le_refl _) fun _ _ h => h⟩

set_option maxRecDepth 100000 in
theorem lifted (os : Os) (started : os.Started) (H : Type) (enc : TypeId × Value → H) :
    ReturnsInHanded {} Try.checked os 4 .any (Rows.fnTreesSpec.pre6 enc Try.prog Try.f4 Rows.fnTreesRow.domain false) (Rows.fnTreesSpec.post enc Try.prog Try.f4 false true false false) := by
  refine returnsInHanded_of_change (C := Try.checked) own started (by kernel_rfl) Try.func4
    (ChangeSpec.witness6 (enc := enc) (C := Try.checked) false ⟨#[], #[.slice none 0 0], []⟩ 8 (by kernel_rfl) (by kernel_rfl) (by kernel_rfl) (by kernel_rfl)) ?_
  intro W base args ds gs before hval0 hW hcnd _
  have hval : ∀ (j : Nat) t v, Try.f4.params[j]? = some t → args[j]? = some v → Value.okWide Try.prog W .any base t v := hval0
  have hW' := hW
  obtain ⟨p, q, hA0, hV, rfl, hfz, hnd⟩ := hW
  have hA : DataW.TrodAll enc Try.prog W 0 (fun _ => true) true Try.f4.params.toList args.toList ds p := hA0
  rw [Try.params4] at hA hval
  obtain ⟨v0, vs0, d0, ds0, p0, q0, hargs, rfl, rfl, h0, r0⟩ := trodAll_cons hA
  obtain ⟨rfl, rfl, rfl⟩ := trodAll_nil r0
  obtain rfl : args = #[v0] := by cases args; simp_all
  obtain ⟨rfl, rfl⟩ := trodVars_none hV
  obtain ⟨a0, len0, cap0, rfl⟩ := okWide_slice Try.underlying50 (hval 0 50 v0 rfl rfl)
  have k0 := h0
  have lt0 : ∀ x ∈ p0, x.block < W.heap.size := by obtain ⟨m, hm⟩ := k0; exact DataW.trod_lt m _ _ _ hm
  obtain ⟨z0, w0⟩ : ∃ zs, IsRow .u8 W a0 len0 cap0 zs := by
    obtain ⟨fuel, hf⟩ := h0
    rcases open_ints Try.underlying50 Try.underlying5 (by kernel_rfl) hf with ⟨hcs, _⟩ | ⟨x, l, c, zs, hcs, _, hl, hm, hz, _, hcell, hwz⟩
    · simp [Value.cells] at hcs
      obtain ⟨rfl, rfl, rfl⟩ := hcs
      exact ⟨[], .inl ⟨rfl, rfl, rfl, rfl⟩⟩
    · simp [Value.cells] at hcs
      obtain ⟨rfl, rfl, rfl⟩ := hcs
      exact ⟨zs, .inr ⟨_, rfl, hl, hm, by simpa using hz, hcell, hwz⟩⟩
  clear hA0 hval0
  refine (walk a0 len0 cap0 z0 W w0).mono fun e W' ⟨he, bel⟩ => ?_
  subst he
  exact ⟨_, rfl, _, _, _, [], _, [], hW', trodAll_mk1 (shut_bool Try.underlying4 _), (trodAll_cons_mk (Below.trod laidOut (by kernel_rfl) (of_decide_eq_true (by kernel_rfl)) k0 bel lt0) trodAll_mk0), rfl, bel.frame _, fun h => by cases h⟩

theorem over : Rows.fnTreesRow.holds Try.pinned (OpenSpec.ofChange Rows.fnTreesSpec) :=
  OpenClaim.holds_of_wide 4 Try.f4 rfl rfl rfl rfl rfl rfl rfl ⟨rfl, rfl, rfl, rfl, rfl⟩ rfl rfl rfl rfl rfl (by kernel_rfl) Try.func4 (by kernel_rfl)
    (of_decide_eq_true (by kernel_rfl)) (by unfold Func.isWrapper; first | (rw [if_pos (by decide +kernel)]; kernel_rfl) | (rw [if_neg (by decide +kernel)]; exact ⟨rfl, rfl⟩))
    (fun os started H enc _ => lifted os started H enc)

theorem proved : Rows.FnTreesSaid := over
#print axioms proved
end fnTrees


end Go.Proofs.Ythffgbhphjkdeaa
