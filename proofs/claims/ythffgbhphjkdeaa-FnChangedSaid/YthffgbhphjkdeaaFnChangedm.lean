/-
  PROVED: for every list of bytes the law FnChanged returns true. No condition.
-/
import Derived.Test.YthffgbhphjkdeaaMFg
import Derived.Test.YthffgbhphjkdeaaRows
import Derived.ProofKit
import Derived.OpenShut
import Derived.ShutString
import Derived.ChangeOld
set_option linter.unusedVariables false
set_option linter.unusedSimpArgs false
namespace Go.Proofs.Ythffgbhphjkdeaa
open Go.RowKit
set_option linter.unusedVariables false
set_option linter.unusedSimpArgs false

theorem setStyle_o {base : Nat} (q : TreeQ) (n : Int) (s : Style) (w : World) (h : Owns base w q.os) (hs : Drawn (bare q.ps)) : Calls Try.prog 30 #[q.v, .int .i64 n, .agg s.cells.toArray] w (NewTreeC (setStyle (bare q.ps) n s) w) := by
  rw [q.v_eq]
  exact setStyle_any _ n s false q.a q.c _ w (by have := hs.len; omega) hs.fit (tree_in h)
theorem ssetStyle_o {base : Nat} (q : TreeQ) (n : Int) (s : Style) (w : World) (h : Owns base w q.os) (hs : Drawn (bare q.ps)) : Calls Try.prog 31 #[q.v, .int .i64 n, .agg s.cells.toArray] w (NewTreeC (setStyle (bare q.ps) n s) w) := by
  rw [q.v_eq]
  exact ssetStyle_any _ n s false q.a q.c _ w (by have := hs.len; omega) hs.fit (tree_in h)
theorem setTable_o {base base2 : Nat} (q : TreeQ) (n : Int) (r : RuleQ) (w : World) (h : Owns base w q.os) (hs : Drawn (bare q.ps)) (h2 : Owns base2 w [r.o]) (hr : r.l.length ≤ 7) : Calls Try.prog 33 #[q.v, .int .i64 n, r.v] w (NewTreeC (setTable (bare q.ps) n r.l) w) := by
  rw [q.v_eq]
  exact setTable_any _ n r.l false q.a r.a q.c r.c _ _ w (by have := hs.len; omega) hs.fit (tree_in h) (by omega) (own_slice (h2.row _ (.head _)) (fun _ => rfl) (by decide))
theorem ssetTable_d {base base2 : Nat} (q : TreeQ) (n : Int) (r : RuleQ) (w : World) (h : Owns base w q.os) (hs : Drawn (bare q.ps)) (h2 : Owns base2 w [r.o]) (hr : r.l.length ≤ 7) : Calls Try.prog 34 #[q.v, .int .i64 n, r.v] w (NewTreeC (setTable (bare q.ps) n r.l) w) := by
  rw [q.v_eq]
  exact ssetTable_any _ n r.l false q.a r.a q.c r.c _ _ w (by have := hs.len; omega) hs.fit (tree_in h) (by omega) (own_slice (h2.row _ (.head _)) (fun _ => rfl) (by decide))
theorem sremoveKid_o {base : Nat} (q : TreeQ) (n kid : Int) (w : World) (h : Owns base w q.os) (hs : Drawn (bare q.ps)) : Calls Try.prog 36 #[q.v, .int .i64 n, .int .i64 kid] w (NewTreeC (removeKid (bare q.ps) n kid) w) := by
  rw [q.v_eq]
  exact sremoveKid_any _ n kid false q.a q.c _ w (by have := hs.len; omega) hs.fit (tree_in h)
theorem owns_at {base : Nat} {w : World} {os : List Own} (pre ps : List Own) (h : Owns base w (pre ++ (os ++ ps))) : Owns base w os := (h.sub (List.sublist_append_right _ _)).left

set_option maxRecDepth 100000 in
set_option maxHeartbeats 16000000 in
theorem fnChanged_walk (w : World) (a : Option Addr) (len cap : Nat) (hl0 : len ≤ 9223372036854775807) (hy : Bytes w.heap.size w a len) :
    Calls Try.prog 5 #[.slice a len cap] w fun e w' => e = .returned (.bool true) ∧ Mod (fun _ => False) w w' := by
  have hm : len ≤ maxLen := by unfold maxLen; exact hl0
  refine calls_sx Try.func5 rfl rfl (fun a h1 h2 h3 => ((Fr.nil h1 h2).arg (h3 0 _ rfl))) ?_
  by_cases hb : 1048576 < len
  · repeat (first | refine qan ?_ | refine qaj ?_ | refine qaf ?_ | refine qad ?_ | refine qaq rfl ?_ | (refine qau ?_; (refine qac (qao rfl (fun w hl => bigT a cap hm hb _)) rfl ?_ ?_ ?_); rfl; rfl) | (refine qap ?_; (refine qac (qak rfl) rfl ?_ ?_ ?_); rfl; rfl) | (refine qam ?_; (refine qac (qah rfl) rfl ?_ ?_ ?_); rfl; rfl) | refine qaz ?_ | refine qax ?_)
    refine qaA rfl rfl (fun w' hl => ⟨rfl, hl.mod⟩)
  have hlen : len ≤ 1048576 := by omega
  repeat (first | refine qan ?_ | refine qaj ?_ | refine qaf ?_ | refine qad ?_ | refine qaC ?_ | refine qat rfl ?_ | (refine qau ?_; (refine qac (qao rfl (fun w hl => bigF a cap hm hb _)) rfl ?_ ?_ ?_); rfl; rfl) | (refine qap ?_; (refine qac (qak rfl) rfl ?_ ?_ ?_); rfl; rfl) | (refine qam ?_; (refine qac (qah rfl) rfl ?_ ?_ ?_); rfl; rfl))
  refine qau ?_
  refine SXl.callO rfl rfl rfl (fun w' hl => drawSetStyle_o a len cap w' hlen (bytes_loc hy (fun _ _ f => f) hl)) (fun qn hd1 => ?_)
  obtain ⟨q, n, s⟩ := qn
  simp only at hd1
  repeat (first | refine qan ?_ | refine qaj ?_ | refine qaf ?_ | refine qad ?_ | (refine qaw ?_; (first | refine qac (qal 0 rfl rfl rfl) rfl ?_ ?_ ?_ | refine qac (qal 1 rfl rfl rfl) rfl ?_ ?_ ?_); rfl; rfl) | (refine qap ?_; (refine qac (qak rfl) rfl ?_ ?_ ?_); rfl; rfl) | (refine qam ?_; (refine qac (qah rfl) rfl ?_ ?_ ?_); rfl; rfl) | (refine l_extract ?_; (refine qac (OpW.extract rfl rfl) rfl ?_ ?_ ?_); rfl; rfl) | (refine qaH ?_; refine SXl.alloc ?_ ?_ (fun g => ?_); rfl; rfl) | (refine qas ?_; first | ((first | refine qaa 0 ?_ rfl rfl rfl rfl rfl rfl rfl ?_ | refine qaa 1 ?_ rfl rfl rfl rfl rfl rfl rfl ?_ | refine qaa 2 ?_ rfl rfl rfl rfl rfl rfl rfl ?_); rfl; simp only [List.set_cons_zero, List.set_cons_succ]) | ((first | refine qab 0 ?_ rfl rfl rfl rfl rfl rfl rfl ?_ | refine qab 1 ?_ rfl rfl rfl rfl rfl rfl rfl ?_ | refine qab 2 ?_ rfl rfl rfl rfl rfl rfl rfl ?_); rfl; simp only [over, List.set_cons_zero, List.set_cons_succ])))
  rename_i g3
  revert g; intro g5
  refine qau ?_
  refine SXl.callO rfl rfl rfl (fun w' hl => setStyle_o q n s w' (Owns.left hl.owns) hd1) (fun xt hx => ?_)
  repeat (first | refine qan ?_ | refine qaj ?_ | refine qaf ?_ | refine qad ?_ | (refine qaw ?_; (first | refine qac (qal 1 rfl rfl rfl) rfl ?_ ?_ ?_ | refine qac (qal 2 rfl rfl rfl) rfl ?_ ?_ ?_); rfl; rfl) | (refine qap ?_; (refine qac (qak rfl) rfl ?_ ?_ ?_); rfl; rfl) | (refine qam ?_; (refine qac (qah rfl) rfl ?_ ?_ ?_); rfl; rfl) | (refine l_extract ?_; (refine qac (OpW.extract rfl rfl) rfl ?_ ?_ ?_); rfl; rfl) | (refine qaH ?_; refine SXl.alloc ?_ ?_ (fun g => ?_); rfl; rfl) | (refine qas ?_; first | ((first | refine qaa 0 ?_ rfl rfl rfl rfl rfl rfl rfl ?_ | refine qaa 1 ?_ rfl rfl rfl rfl rfl rfl rfl ?_ | refine qaa 2 ?_ rfl rfl rfl rfl rfl rfl rfl ?_); rfl; simp only [List.set_cons_zero, List.set_cons_succ]) | ((first | refine qab 0 ?_ rfl rfl rfl rfl rfl rfl rfl ?_ | refine qab 1 ?_ rfl rfl rfl rfl rfl rfl rfl ?_ | refine qab 2 ?_ rfl rfl rfl rfl rfl rfl rfl ?_); rfl; simp only [over, List.set_cons_zero, List.set_cons_succ])))
  revert g; intro g6
  refine qau ?_
  refine SXl.callO rfl rfl rfl (fun w' hl => ssetStyle_o q n s w' (owns_at xt.os _ hl.owns) hd1) (fun x2 hx2 => ?_)
  repeat (first | refine qan ?_ | refine qaj ?_ | refine qaf ?_ | refine qad ?_ | (refine qap ?_; (refine qac (qak rfl) rfl ?_ ?_ ?_); rfl; rfl) | (refine qam ?_; (refine qac (qah rfl) rfl ?_ ?_ ?_); rfl; rfl) | (refine l_extract ?_; (refine qac (OpW.extract rfl rfl) rfl ?_ ?_ ?_); rfl; rfl) | (refine qaH ?_; refine SXl.alloc ?_ ?_ (fun g => ?_); rfl; rfl) | (refine qas ?_; first | ((first | refine qaa 0 ?_ rfl rfl rfl rfl rfl rfl rfl ?_ | refine qaa 1 ?_ rfl rfl rfl rfl rfl rfl rfl ?_ | refine qaa 2 ?_ rfl rfl rfl rfl rfl rfl rfl ?_); rfl; simp only [List.set_cons_zero, List.set_cons_succ]) | ((first | refine qab 0 ?_ rfl rfl rfl rfl rfl rfl rfl ?_ | refine qab 1 ?_ rfl rfl rfl rfl rfl rfl rfl ?_ | refine qab 2 ?_ rfl rfl rfl rfl rfl rfl rfl ?_); rfl; simp only [over, List.set_cons_zero, List.set_cons_succ])))
  revert g; intro g8
  refine qau ?_
  refine SXl.callO rfl rfl rfl (fun w' hl => drawSetTable_o a len cap w' hlen (bytes_loc hy (fun _ _ f => f) hl)) (fun qn hd2 => ?_)
  obtain ⟨u, m, r⟩ := qn
  obtain ⟨hd2, hr⟩ := hd2
  simp only at hd2 hr
  repeat (first | refine qan ?_ | refine qaj ?_ | refine qaf ?_ | refine qad ?_ | (refine qaw ?_; (first | refine qac (qal 0 rfl rfl rfl) rfl ?_ ?_ ?_ | refine qac (qal 1 rfl rfl rfl) rfl ?_ ?_ ?_); rfl; rfl) | (refine qap ?_; (refine qac (qak rfl) rfl ?_ ?_ ?_); rfl; rfl) | (refine qam ?_; (refine qac (qah rfl) rfl ?_ ?_ ?_); rfl; rfl) | (refine l_extract ?_; (refine qac (OpW.extract rfl rfl) rfl ?_ ?_ ?_); rfl; rfl) | (refine qaH ?_; refine SXl.alloc ?_ ?_ (fun g => ?_); rfl; rfl) | (refine qas ?_; first | ((first | refine qaa 0 ?_ rfl rfl rfl rfl rfl rfl rfl ?_ | refine qaa 1 ?_ rfl rfl rfl rfl rfl rfl rfl ?_ | refine qaa 2 ?_ rfl rfl rfl rfl rfl rfl rfl ?_); rfl; simp only [List.set_cons_zero, List.set_cons_succ]) | ((first | refine qab 0 ?_ rfl rfl rfl rfl rfl rfl rfl ?_ | refine qab 1 ?_ rfl rfl rfl rfl rfl rfl rfl ?_ | refine qab 2 ?_ rfl rfl rfl rfl rfl rfl rfl ?_); rfl; simp only [over, List.set_cons_zero, List.set_cons_succ])))
  rename_i g10
  revert g; intro g12
  refine qau ?_
  refine SXl.callO rfl rfl rfl (fun w' hl => setTable_o u m r w' (owns_at [r.o] _ hl.owns) hd2 (Owns.left (os := [r.o]) hl.owns) hr) (fun y hy1 => ?_)
  repeat (first | refine qan ?_ | refine qaj ?_ | refine qaf ?_ | refine qad ?_ | (refine qaw ?_; (first | refine qac (qal 1 rfl rfl rfl) rfl ?_ ?_ ?_ | refine qac (qal 2 rfl rfl rfl) rfl ?_ ?_ ?_); rfl; rfl) | (refine qap ?_; (refine qac (qak rfl) rfl ?_ ?_ ?_); rfl; rfl) | (refine qam ?_; (refine qac (qah rfl) rfl ?_ ?_ ?_); rfl; rfl) | (refine l_extract ?_; (refine qac (OpW.extract rfl rfl) rfl ?_ ?_ ?_); rfl; rfl) | (refine qaH ?_; refine SXl.alloc ?_ ?_ (fun g => ?_); rfl; rfl) | (refine qas ?_; first | ((first | refine qaa 0 ?_ rfl rfl rfl rfl rfl rfl rfl ?_ | refine qaa 1 ?_ rfl rfl rfl rfl rfl rfl rfl ?_ | refine qaa 2 ?_ rfl rfl rfl rfl rfl rfl rfl ?_); rfl; simp only [List.set_cons_zero, List.set_cons_succ]) | ((first | refine qab 0 ?_ rfl rfl rfl rfl rfl rfl rfl ?_ | refine qab 1 ?_ rfl rfl rfl rfl rfl rfl rfl ?_ | refine qab 2 ?_ rfl rfl rfl rfl rfl rfl rfl ?_); rfl; simp only [over, List.set_cons_zero, List.set_cons_succ])))
  revert g; intro g13
  refine qau ?_
  refine SXl.callO rfl rfl rfl (fun w' hl => ssetTable_d u m r w' (owns_at (y.os ++ [r.o]) _ (by rw [List.append_assoc]; exact hl.owns)) hd2 (owns_at y.os _ (os := [r.o]) hl.owns) hr) (fun y2 hy2 => ?_)
  repeat (first | refine qan ?_ | refine qaj ?_ | refine qaf ?_ | refine qad ?_ | (refine qap ?_; (refine qac (qak rfl) rfl ?_ ?_ ?_); rfl; rfl) | (refine qam ?_; (refine qac (qah rfl) rfl ?_ ?_ ?_); rfl; rfl) | (refine l_extract ?_; (refine qac (OpW.extract rfl rfl) rfl ?_ ?_ ?_); rfl; rfl) | (refine qaH ?_; refine SXl.alloc ?_ ?_ (fun g => ?_); rfl; rfl) | (refine qas ?_; first | ((first | refine qaa 0 ?_ rfl rfl rfl rfl rfl rfl rfl ?_ | refine qaa 1 ?_ rfl rfl rfl rfl rfl rfl rfl ?_ | refine qaa 2 ?_ rfl rfl rfl rfl rfl rfl rfl ?_); rfl; simp only [List.set_cons_zero, List.set_cons_succ]) | ((first | refine qab 0 ?_ rfl rfl rfl rfl rfl rfl rfl ?_ | refine qab 1 ?_ rfl rfl rfl rfl rfl rfl rfl ?_ | refine qab 2 ?_ rfl rfl rfl rfl rfl rfl rfl ?_); rfl; simp only [over, List.set_cons_zero, List.set_cons_succ])))
  revert g; intro g15
  refine qau ?_
  refine SXl.callO rfl rfl rfl (fun w' hl => drawRemoveKid_o a len cap w' hlen (bytes_loc hy (fun _ _ f => f) hl)) (fun qn hd3 => ?_)
  obtain ⟨v, up, kid⟩ := qn
  simp only at hd3
  repeat (first | refine qan ?_ | refine qaj ?_ | refine qaf ?_ | refine qad ?_ | (refine qaw ?_; (refine qac (qal 0 rfl rfl rfl) rfl ?_ ?_ ?_); rfl; rfl) | (refine qap ?_; (refine qac (qak rfl) rfl ?_ ?_ ?_); rfl; rfl) | (refine qam ?_; (refine qac (qah rfl) rfl ?_ ?_ ?_); rfl; rfl) | (refine l_extract ?_; (refine qac (OpW.extract rfl rfl) rfl ?_ ?_ ?_); rfl; rfl) | (refine qaH ?_; refine SXl.alloc ?_ ?_ (fun g => ?_); rfl; rfl) | (refine qas ?_; first | ((first | refine qaa 0 ?_ rfl rfl rfl rfl rfl rfl rfl ?_ | refine qaa 1 ?_ rfl rfl rfl rfl rfl rfl rfl ?_ | refine qaa 2 ?_ rfl rfl rfl rfl rfl rfl rfl ?_); rfl; simp only [List.set_cons_zero, List.set_cons_succ]) | ((first | refine qab 0 ?_ rfl rfl rfl rfl rfl rfl rfl ?_ | refine qab 1 ?_ rfl rfl rfl rfl rfl rfl rfl ?_ | refine qab 2 ?_ rfl rfl rfl rfl rfl rfl rfl ?_); rfl; simp only [over, List.set_cons_zero, List.set_cons_succ])))
  revert g; intro g17
  refine qau ?_
  refine SXl.callO rfl rfl rfl (fun w' hl => removeKid_o v up kid w' (Owns.left hl.owns) hd3) (fun z hz => ?_)
  repeat (first | refine qan ?_ | refine qaj ?_ | refine qaf ?_ | refine qad ?_ | (refine qaw ?_; (refine qac (qal 1 rfl rfl rfl) rfl ?_ ?_ ?_); rfl; rfl) | (refine qap ?_; (refine qac (qak rfl) rfl ?_ ?_ ?_); rfl; rfl) | (refine qam ?_; (refine qac (qah rfl) rfl ?_ ?_ ?_); rfl; rfl) | (refine l_extract ?_; (refine qac (OpW.extract rfl rfl) rfl ?_ ?_ ?_); rfl; rfl) | (refine qaH ?_; refine SXl.alloc ?_ ?_ (fun g => ?_); rfl; rfl) | (refine qas ?_; first | ((first | refine qaa 0 ?_ rfl rfl rfl rfl rfl rfl rfl ?_ | refine qaa 1 ?_ rfl rfl rfl rfl rfl rfl rfl ?_ | refine qaa 2 ?_ rfl rfl rfl rfl rfl rfl rfl ?_); rfl; simp only [List.set_cons_zero, List.set_cons_succ]) | ((first | refine qab 0 ?_ rfl rfl rfl rfl rfl rfl rfl ?_ | refine qab 1 ?_ rfl rfl rfl rfl rfl rfl rfl ?_ | refine qab 2 ?_ rfl rfl rfl rfl rfl rfl rfl ?_); rfl; simp only [over, List.set_cons_zero, List.set_cons_succ])))
  revert g; intro g20
  refine qau ?_
  refine SXl.callO rfl rfl rfl (fun w' hl => sremoveKid_o v up kid w' (owns_at z.os _ hl.owns) hd3) (fun z2 hz2 => ?_)
  repeat (first | refine qan ?_ | refine qaj ?_ | refine qaf ?_ | refine qad ?_ | (refine qap ?_; (refine qac (qak rfl) rfl ?_ ?_ ?_); rfl; rfl) | (refine qam ?_; (refine qac (qah rfl) rfl ?_ ?_ ?_); rfl; rfl) | (refine l_neq ?_; (refine qac (OpW.neqF rfl rfl (by omega)) rfl ?_ ?_ ?_); rfl; rfl) | (refine l_extract ?_; (refine qac (OpW.extract rfl rfl) rfl ?_ ?_ ?_); rfl; rfl) | (refine qaH ?_; refine SXl.alloc ?_ ?_ (fun g => ?_); rfl; rfl) | (refine qas ?_; first | ((first | refine qaa 0 ?_ rfl rfl rfl rfl rfl rfl rfl ?_ | refine qaa 1 ?_ rfl rfl rfl rfl rfl rfl rfl ?_ | refine qaa 2 ?_ rfl rfl rfl rfl rfl rfl rfl ?_); rfl; simp only [List.set_cons_zero, List.set_cons_succ]) | ((first | refine qab 0 ?_ rfl rfl rfl rfl rfl rfl rfl ?_ | refine qab 1 ?_ rfl rfl rfl rfl rfl rfl rfl ?_ | refine qab 2 ?_ rfl rfl rfl rfl rfl rfl rfl ?_); rfl; simp only [over, List.set_cons_zero, List.set_cons_succ])))
  revert g; intro g22
  have hdx := hd1.style n s
  have hdx2 := hdx
  rw [← hx] at hdx
  rw [← hx2] at hdx2
  have hdy := hd2.table m hr
  have hdy2 := hdy
  rw [← hy1] at hdy
  rw [← hy2] at hdy2
  have hdz := hd3.take up kid
  have hdz2 := hdz
  rw [← hz] at hdz
  rw [← hz2] at hdz2
  have hS1 := fun w' (h : Owns w.heap.size w' xt.os) (h' : Owns w.heap.size w' x2.os) => lsameTree_o xt x2 w' h h' hdx hdx2 (by rw [hx, hx2])
  have hS2 := fun w' (h : Owns w.heap.size w' y.os) (h' : Owns w.heap.size w' y2.os) => lsameTree_o y y2 w' h h' hdy hdy2 (by rw [hy1, hy2])
  have hS3 := fun w' (h : Owns w.heap.size w' z.os) (h' : Owns w.heap.size w' z2.os) => lsameTree_o z z2 w' h h' hdz hdz2 (by rw [hz, hz2])
  generalize hc1 : (setStyle (bare q.ps) n s).2 = c1 at *
  generalize hc2 : (setTable (bare u.ps) m r.l).2 = c2 at *
  generalize hc3 : (removeKid (bare v.ps) up kid).2 = c3 at *
  have pA : ∀ {w' : World}, Owns w.heap.size w' (z2.os ++ (z.os ++ (v.os ++ (y2.os ++ (y.os ++ (r.o :: u.os ++ (x2.os ++ (xt.os ++ (q.os ++ []))))))))) → Owns w.heap.size w' z2.os ∧ Owns w.heap.size w' z.os ∧ Owns w.heap.size w' y2.os ∧ Owns w.heap.size w' y.os ∧ Owns w.heap.size w' u.os ∧ Owns w.heap.size w' x2.os ∧ Owns w.heap.size w' xt.os ∧ Owns w.heap.size w' q.os := fun h => by
    have h1 := h.sub (List.sublist_append_right _ _)
    have h2 := h1.sub (List.sublist_append_right _ _)
    have h3 := h2.sub (List.sublist_append_right _ _)
    have h4 := h3.sub (List.sublist_append_right _ _)
    have h5 := h4.sub (List.sublist_append_right _ _)
    have h6 := h5.sub (List.sublist_append_right _ _)
    have h7 := h6.sub (List.sublist_append_right _ _)
    have h8 := h7.sub (List.sublist_append_right _ _)
    exact ⟨h.left, h1.left, h3.left, h4.left, (h5.left).sub (List.sublist_cons_self _ _), h6.left, h7.left, h8.left⟩
  repeat (first | refine qan ?_ | refine qaj ?_ | refine qaf ?_ | refine qad ?_ | refine qaC ?_ | refine qat rfl ?_ | (refine qaw ?_; (first | refine qac (qal 4 rfl rfl rfl) rfl ?_ ?_ ?_ | refine qac (qal 7 rfl rfl rfl) rfl ?_ ?_ ?_ | refine qac (qal 8 rfl rfl rfl) rfl ?_ ?_ ?_ | refine qac (qal 0 rfl rfl rfl) rfl ?_ ?_ ?_ | refine qac (qal 1 rfl rfl rfl) rfl ?_ ?_ ?_ | refine qac (qal 3 rfl rfl rfl) rfl ?_ ?_ ?_); rfl; rfl) | (refine qau ?_; (first | refine qac (qao (args := [xt.v, x2.v]) rfl (fun w hl => hS1 _ (pA hl.owns).2.2.2.2.2.2.1 (pA hl.owns).2.2.2.2.2.1)) rfl ?_ ?_ ?_ | refine qac (qao (args := [y.v, y2.v]) rfl (fun w hl => hS2 _ (pA hl.owns).2.2.2.1 (pA hl.owns).2.2.1)) rfl ?_ ?_ ?_ | refine qac (qao (args := [z.v, z2.v]) rfl (fun w hl => hS3 _ (pA hl.owns).2.1 (pA hl.owns).1)) rfl ?_ ?_ ?_); rfl; rfl) | (refine qap ?_; (refine qac (qak rfl) rfl ?_ ?_ ?_); rfl; rfl) | (refine l_neq ?_; (refine qac (OpW.neqF rfl rfl (by omega)) rfl ?_ ?_ ?_); rfl; rfl) | (refine l_not ?_; (refine qac (OpW.not rfl) rfl ?_ ?_ ?_); rfl; rfl) | (refine qaG ?_; (refine qac (qay rfl rfl rfl) rfl ?_ ?_ ?_); rfl; rfl))
  refine qau ?_
  refine SXl.callO rfl rfl rfl (fun w' hl => drawAddNode_o a len cap w' hlen (bytes_loc hy (fun _ _ f => f) hl)) (fun qn hd4 => ?_)
  obtain ⟨t4, st⟩ := qn
  simp only at hd4
  repeat (first | refine qan ?_ | refine qaj ?_ | refine qaf ?_ | refine qad ?_ | (refine qaw ?_; (first | refine qac (qal 0 rfl rfl rfl) rfl ?_ ?_ ?_ | refine qac (qal 1 rfl rfl rfl) rfl ?_ ?_ ?_); rfl; rfl) | (refine qap ?_; (refine qac (qak rfl) rfl ?_ ?_ ?_); rfl; rfl) | (refine l_extract ?_; (refine qac (OpW.extract rfl rfl) rfl ?_ ?_ ?_); rfl; rfl) | (refine qaH ?_; refine SXl.alloc ?_ ?_ (fun g => ?_); rfl; rfl) | (refine qas ?_; first | ((first | refine qaa 0 ?_ rfl rfl rfl rfl rfl rfl rfl ?_ | refine qaa 1 ?_ rfl rfl rfl rfl rfl rfl rfl ?_ | refine qaa 2 ?_ rfl rfl rfl rfl rfl rfl rfl ?_); rfl; simp only [List.set_cons_zero, List.set_cons_succ]) | ((first | refine qab 0 ?_ rfl rfl rfl rfl rfl rfl rfl ?_ | refine qab 1 ?_ rfl rfl rfl rfl rfl rfl rfl ?_ | refine qab 2 ?_ rfl rfl rfl rfl rfl rfl rfl ?_); rfl; simp only [over, List.set_cons_zero, List.set_cons_succ])))
  rename_i g24
  revert g; intro g25
  refine qau ?_
  refine SXl.callO rfl rfl rfl (fun w' hl => addNode_o t4 st w' (Owns.left hl.owns) hd4) (fun h1 hh1 => ?_)
  repeat (first | refine qan ?_ | refine qaj ?_ | refine qaf ?_ | refine qad ?_ | (refine qaw ?_; (first | refine qac (qal 1 rfl rfl rfl) rfl ?_ ?_ ?_ | refine qac (qal 2 rfl rfl rfl) rfl ?_ ?_ ?_); rfl; rfl) | (refine qap ?_; (refine qac (qak rfl) rfl ?_ ?_ ?_); rfl; rfl) | (refine qam ?_; (refine qac (qah rfl) rfl ?_ ?_ ?_); rfl; rfl) | (refine l_extract ?_; (refine qac (OpW.extract rfl rfl) rfl ?_ ?_ ?_); rfl; rfl) | (refine qaH ?_; refine SXl.alloc ?_ ?_ (fun g => ?_); rfl; rfl) | (refine qas ?_; first | ((first | refine qaa 0 ?_ rfl rfl rfl rfl rfl rfl rfl ?_ | refine qaa 1 ?_ rfl rfl rfl rfl rfl rfl rfl ?_ | refine qaa 2 ?_ rfl rfl rfl rfl rfl rfl rfl ?_); rfl; simp only [List.set_cons_zero, List.set_cons_succ]) | ((first | refine qab 0 ?_ rfl rfl rfl rfl rfl rfl rfl ?_ | refine qab 1 ?_ rfl rfl rfl rfl rfl rfl rfl ?_ | refine qab 2 ?_ rfl rfl rfl rfl rfl rfl rfl ?_); rfl; simp only [over, List.set_cons_zero, List.set_cons_succ])))
  revert g; intro g26
  refine qau ?_
  refine SXl.callO rfl rfl rfl (fun w' hl => saddNode_d t4 st w' (owns_at h1.os _ hl.owns) hd4) (fun h2 hh2 => ?_)
  repeat (first | refine qan ?_ | refine qaj ?_ | refine qad ?_ | (refine qap ?_; (refine qac (qak rfl) rfl ?_ ?_ ?_); rfl; rfl) | (refine qam ?_; (refine qac (qah rfl) rfl ?_ ?_ ?_); rfl; rfl) | (refine l_extract ?_; (refine qac (OpW.extract rfl rfl) rfl ?_ ?_ ?_); rfl; rfl) | (refine qaH ?_; refine SXl.alloc ?_ ?_ (fun g => ?_); rfl; rfl) | (refine qas ?_; first | ((first | refine qaa 0 ?_ rfl rfl rfl rfl rfl rfl rfl ?_ | refine qaa 1 ?_ rfl rfl rfl rfl rfl rfl rfl ?_ | refine qaa 2 ?_ rfl rfl rfl rfl rfl rfl rfl ?_); rfl; simp only [List.set_cons_zero, List.set_cons_succ]) | ((first | refine qab 0 ?_ rfl rfl rfl rfl rfl rfl rfl ?_ | refine qab 1 ?_ rfl rfl rfl rfl rfl rfl rfl ?_ | refine qab 2 ?_ rfl rfl rfl rfl rfl rfl rfl ?_); rfl; simp only [over, List.set_cons_zero, List.set_cons_succ])))
  revert g; intro g28
  have hd4a := drawn_add hd4 st
  have hdh1 := hd4a.1
  have hdh2 := hd4a.1
  rw [← hh1] at hdh1
  rw [← hh2] at hdh2
  have hS4 := fun w' (h : Owns w.heap.size w' h1.os) (h' : Owns w.heap.size w' h2.os) => lsameTree_o h1 h2 w' h h' hdh1 hdh2 (by rw [hh1, hh2])
  have hS5 := fun (e : ¬ c2 = 0) w' (h : Owns w.heap.size w' y.os) (h' : Owns w.heap.size w' u.os) => lsameTree_o y u w' h h' hdy hd2 (by rw [hy1]; exact setTable_same (by rw [hc2]; exact e))
  have hS6 := fun (e : ¬ c1 = 0) w' (h : Owns w.heap.size w' xt.os) (h' : Owns w.heap.size w' q.os) => lsameTree_o xt q w' h h' hdx hd1 (by rw [hx]; exact setStyle_same (by rw [hc1]; exact e))
  have hE := fun w' => treeOk_any [] false none 0 (fun _ => False) w' (by simp) (fun x h => (List.not_mem_nil h).elim) SliceAt.nil
  rw [show treeOk [] = true by decide] at hE
  have hK := addNode_code (l := bare t4.ps) (s := st)
  rw [← hh1, bare_len] at hK
  generalize hc4 : (addNode (bare t4.ps) st).2 = c4 at *
  have pB : ∀ {w' : World} {o1 : List Own}, Owns w.heap.size w' (h2.os ++ (h1.os ++ (t4.os ++ o1))) → Owns w.heap.size w' h2.os ∧ Owns w.heap.size w' h1.os ∧ Owns w.heap.size w' o1 := fun h => ⟨h.left, (h.sub (List.sublist_append_right _ _)).left, ((h.sub (List.sublist_append_right _ _)).sub (List.sublist_append_right _ _)).sub (List.sublist_append_right _ _)⟩
  by_cases e1 : c1 = 0
  rotate_left
  · by_cases e2 : c2 = 0 <;> by_cases e4 : c4 = 0 <;>
    · refine SX.drawnG (ζ := Unit) 61 (fun _ _ => [⟨g28, [.slice h2.a h2.ps.length h2.c], 37⟩, ⟨g26, [.slice h1.a h1.ps.length h1.c], 37⟩, ⟨g25, st.cells, 66⟩, ⟨g24, [.slice t4.a t4.ps.length t4.c], 37⟩, ⟨g22, [.slice z2.a z2.ps.length z2.c], 37⟩, ⟨g20, [.slice z.a z.ps.length z.c], 37⟩, ⟨g17, [.slice v.a v.ps.length v.c], 37⟩, ⟨g15, [.slice y2.a y2.ps.length y2.c], 37⟩, ⟨g13, [.slice y.a y.ps.length y.c], 37⟩, ⟨g12, [.slice r.a r.l.length r.c], 76⟩, ⟨g10, [.slice u.a u.ps.length u.c], 37⟩, ⟨g8, [.slice x2.a x2.ps.length x2.c], 37⟩, ⟨g6, [.slice xt.a xt.ps.length xt.c], 37⟩, ⟨g5, s.cells, 66⟩, ⟨g3, [.slice q.a q.ps.length q.c], 37⟩]) (fun _ _ => (h2.os ++ (h1.os ++ (t4.os ++ (z2.os ++ (z.os ++ (v.os ++ (y2.os ++ (y.os ++ (r.o :: u.os ++ (x2.os ++ (xt.os ++ (q.os ++ []))))))))))))) (fun _ _ => []) [] () (by kernel_rfl) (by kernel_rfl) (by kernel_rfl) ⟨rfl, rfl, rfl⟩ ?_
      repeat (first | (refine SXg.no (fun _ => rfl) rfl rfl (fun _ _ => ⟨rfl, rfl, rfl⟩) rfl ?_) | (refine SXg.v0 (fun dn x p ha hK => (qal 8 rfl rfl rfl)) rfl (fun _ => rfl) rfl (fun _ _ => ⟨rfl, rfl, rfl⟩) rfl ?_) | (refine SXg.v0 (fun dn x p ha hK => (qal 10 rfl rfl rfl)) rfl (fun _ => rfl) rfl (fun _ _ => ⟨rfl, rfl, rfl⟩) rfl ?_) | (refine SXg.v0 (fun dn x p ha hK => (qal 12 rfl rfl rfl)) rfl (fun _ => rfl) rfl (fun _ _ => ⟨rfl, rfl, rfl⟩) rfl ?_) | (refine SXg.v0 (fun dn x p ha hK => (qal 14 rfl rfl rfl)) rfl (fun _ => rfl) rfl (fun _ _ => ⟨rfl, rfl, rfl⟩) rfl ?_) | (refine SXg.v0 (fun dn x p ha hK => (qav 1 rfl rfl rfl)) rfl (fun _ => rfl) rfl (fun _ _ => ⟨rfl, rfl, rfl⟩) rfl ?_) | (refine SXg.v0 (fun dn x p ha hK => (qal 0 rfl rfl rfl)) rfl (fun _ => rfl) rfl (fun _ _ => ⟨rfl, rfl, rfl⟩) rfl ?_) | (refine SXg.v0 (fun dn x p ha hK => (qal 1 rfl rfl rfl)) rfl (fun _ => rfl) rfl (fun _ _ => ⟨rfl, rfl, rfl⟩) rfl ?_) | (refine SXg.v0 (fun dn x p ha hK => (qao (args := [xt.v, q.v]) rfl (fun w hl => hS6 e1 _ (pA (pB hl.owns).2.2).2.2.2.2.2.2.1 (pA (pB hl.owns).2.2).2.2.2.2.2.2.2))) rfl (fun _ => rfl) rfl (fun _ _ => ⟨rfl, rfl, rfl⟩) rfl ?_) | (refine SXg.v0 (fun dn x p ha hK => (qao (args := [h1.v, h2.v]) rfl (fun w hl => hS4 _ (pB hl.owns).2.1 (pB hl.owns).1))) rfl (fun _ => rfl) rfl (fun _ _ => ⟨rfl, rfl, rfl⟩) rfl ?_) | (refine SXg.v0 (fun dn x p ha hK => (qao (args := [y.v, u.v]) rfl (fun w hl => hS5 (by assumption) _ (pA (pB hl.owns).2.2).2.2.2.1 (pA (pB hl.owns).2.2).2.2.2.2.1))) rfl (fun _ => rfl) rfl (fun _ _ => ⟨rfl, rfl, rfl⟩) rfl ?_) | (refine SXg.v0 (fun dn x p ha hK => (qao rfl (fun w hl => hE _))) rfl (fun _ => rfl) rfl (fun _ _ => ⟨rfl, rfl, rfl⟩) rfl ?_) | (refine SXg.v0 (fun dn x p ha hK => ((OpW.build (vals := []) (cells := [.slice none 0 0]) rfl (by kernel_rfl)))) rfl (fun _ => rfl) rfl (fun _ _ => ⟨rfl, rfl, rfl⟩) rfl ?_) | (refine SXg.v0 (fun dn x p ha hK => (qae rfl)) rfl (fun _ => rfl) rfl (fun _ _ => ⟨rfl, rfl, rfl⟩) rfl ?_) | (refine SXg.v0 (fun dn x p ha hK => (qak rfl)) rfl (fun _ => rfl) rfl (fun _ _ => ⟨rfl, rfl, rfl⟩) rfl ?_) | (refine SXg.v0 (fun dn x p ha hK => (qah rfl)) rfl (fun _ => rfl) rfl (fun _ _ => ⟨rfl, rfl, rfl⟩) rfl ?_) | (refine SXg.v0 (fun dn x p ha hK => (OpW.len rfl)) rfl (fun _ => rfl) rfl (fun _ _ => ⟨rfl, rfl, rfl⟩) rfl ?_) | (refine SXg.v0 (fun dn x p ha hK => (qaQ rfl rfl (by omega))) rfl (fun _ => rfl) rfl (fun _ _ => ⟨rfl, rfl, rfl⟩) rfl ?_) | (refine SXg.v0 (fun dn x p ha hK => (qaP rfl rfl (by omega))) rfl (fun _ => rfl) rfl (fun _ _ => ⟨rfl, rfl, rfl⟩) rfl ?_) | (refine SXg.v0 (fun dn x p ha hK => (OpW.neqT rfl rfl (by omega))) rfl (fun _ => rfl) rfl (fun _ _ => ⟨rfl, rfl, rfl⟩) rfl ?_) | (refine SXg.v0 (fun dn x p ha hK => (qay rfl rfl rfl)) rfl (fun _ => rfl) rfl (fun _ _ => ⟨rfl, rfl, rfl⟩) rfl ?_))
      refine SXg.nilW (fun xq _ _ => ?_)
      refine qad ?_
      refine qaz ?_
      refine qaA rfl rfl (fun w' hl => ⟨rfl, hl.mod⟩)
  subst e1
  obtain ⟨hvx, k, xk, rfl, hkl, hxk, hxs⟩ := setStyle_done hc1
  rw [← hx] at hvx hkl hxk
  obtain ⟨pk, hpk⟩ := pnode_get (q := xt) rfl hxk
  have hV := fun w' (h : Owns w.heap.size w' xt.os) => streeOk_o xt w' h hdx
  rw [hvx] at hV
  rw [bare_len] at hkl
  refine SX.know (fun w hl => tree_addr (l := xt.ps) (a := xt.a) (c := xt.c) (pA (pB hl.owns).2.2).2.2.2.2.2.2.1 (by omega)) (fun ⟨gx, hgx⟩ => ?_)
  have hxv : xt.v = .agg #[.slice (some ⟨gx, 0, none⟩) xt.ps.length xt.c] := by rw [← hgx]; rfl
  have hxo : xt.os = treeO xt.ps (some ⟨gx, 0, none⟩) xt.c := by rw [← hgx]; rfl
  rw [hxv] at hV
  rw [hgx]
  have hxl := hdx.len
  rw [bare_len] at hxl
  have hst : ∀ w', Owns w.heap.size w' xt.os → ∀ j v, s.cells[j]? = some v → w'.cell? ⟨gx, 0 + k * 64 + 2 + j, none⟩ = some v := fun w' ho j v hv => by
    rw [hxo] at ho
    rw [Nat.add_assoc]
    refine nodes_cell ho hpk ?_
    have hj : j < 60 := (List.getElem?_eq_some_iff.1 hv).1
    rw [← hxs, ← nodeRow_style xk.up pk.ka xk.kids.length pk.kc xk.style xk.measured pk.ra xk.rules.length pk.rc, List.getElem?_take, if_pos hj, List.getElem?_drop] at hv
    exact hv
  by_cases e2 : c2 = 0 <;> by_cases e4 : c4 = 0 <;>
  · refine SX.drawnG (ζ := Unit) 61 (fun _ _ => [⟨g28, [.slice h2.a h2.ps.length h2.c], 37⟩, ⟨g26, [.slice h1.a h1.ps.length h1.c], 37⟩, ⟨g25, st.cells, 66⟩, ⟨g24, [.slice t4.a t4.ps.length t4.c], 37⟩, ⟨g22, [.slice z2.a z2.ps.length z2.c], 37⟩, ⟨g20, [.slice z.a z.ps.length z.c], 37⟩, ⟨g17, [.slice v.a v.ps.length v.c], 37⟩, ⟨g15, [.slice y2.a y2.ps.length y2.c], 37⟩, ⟨g13, [.slice y.a y.ps.length y.c], 37⟩, ⟨g12, [.slice r.a r.l.length r.c], 76⟩, ⟨g10, [.slice u.a u.ps.length u.c], 37⟩, ⟨g8, [.slice x2.a x2.ps.length x2.c], 37⟩, ⟨g6, [.slice (some ⟨gx, 0, none⟩) xt.ps.length xt.c], 37⟩, ⟨g5, s.cells, 66⟩, ⟨g3, [.slice q.a q.ps.length q.c], 37⟩]) (fun _ _ => (h2.os ++ (h1.os ++ (t4.os ++ (z2.os ++ (z.os ++ (v.os ++ (y2.os ++ (y.os ++ (r.o :: u.os ++ (x2.os ++ (xt.os ++ (q.os ++ []))))))))))))) (fun _ _ => []) [] () (by kernel_rfl) (by kernel_rfl) (by kernel_rfl) ⟨rfl, rfl, rfl⟩ ?_
    repeat (first | (refine SXg.no (fun _ => rfl) rfl rfl (fun _ _ => ⟨rfl, rfl, rfl⟩) rfl ?_) | (rw [style_same]) | (refine SXg.v0 (fun dn x p ha hK => (qal 8 rfl rfl rfl)) rfl (fun _ => rfl) rfl (fun _ _ => ⟨rfl, rfl, rfl⟩) rfl ?_) | (refine SXg.v0 (fun dn x p ha hK => (qal 10 rfl rfl rfl)) rfl (fun _ => rfl) rfl (fun _ _ => ⟨rfl, rfl, rfl⟩) rfl ?_) | (refine SXg.v0 (fun dn x p ha hK => (qal 12 rfl rfl rfl)) rfl (fun _ => rfl) rfl (fun _ _ => ⟨rfl, rfl, rfl⟩) rfl ?_) | (refine SXg.v0 (fun dn x p ha hK => (qal 13 rfl rfl rfl)) rfl (fun _ => rfl) rfl (fun _ _ => ⟨rfl, rfl, rfl⟩) rfl ?_) | (refine SXg.v0 (fun dn x p ha hK => (qav 12 rfl rfl rfl)) rfl (fun _ => rfl) rfl (fun _ _ => ⟨rfl, rfl, rfl⟩) rfl ?_) | (refine SXg.v0 (fun dn x p ha hK => (OpW.loadRowLoc (r := s.cells) rfl (fun w' hl => hst w' (pA (pB hl.owns).2.2).2.2.2.2.2.2.1) rfl (Nat.succ_pos _))) rfl (fun _ => rfl) rfl (fun _ _ => ⟨rfl, rfl, rfl⟩) rfl ?_) | (refine SXg.v0 (fun dn x p ha hK => (qav 1 rfl rfl rfl)) rfl (fun _ => rfl) rfl (fun _ _ => ⟨rfl, rfl, rfl⟩) rfl ?_) | (refine SXg.v0 (fun dn x p ha hK => (qal 0 rfl rfl rfl)) rfl (fun _ => rfl) rfl (fun _ _ => ⟨rfl, rfl, rfl⟩) rfl ?_) | (refine SXg.v0 (fun dn x p ha hK => (qal 1 rfl rfl rfl)) rfl (fun _ => rfl) rfl (fun _ _ => ⟨rfl, rfl, rfl⟩) rfl ?_) | (refine SXg.v0 (fun dn x p ha hK => (qao (args := [.agg #[.slice (some ⟨gx, 0, none⟩) xt.ps.length xt.c]]) rfl (fun w hl => hV _ (pA (pB hl.owns).2.2).2.2.2.2.2.2.1))) rfl (fun _ => rfl) rfl (fun _ _ => ⟨rfl, rfl, rfl⟩) rfl ?_) | (refine SXg.v0 (fun dn x p ha hK => (qao (args := [h1.v, h2.v]) rfl (fun w hl => hS4 _ (pB hl.owns).2.1 (pB hl.owns).1))) rfl (fun _ => rfl) rfl (fun _ _ => ⟨rfl, rfl, rfl⟩) rfl ?_) | (refine SXg.v0 (fun dn x p ha hK => (qao (args := [y.v, u.v]) rfl (fun w hl => hS5 (by assumption) _ (pA (pB hl.owns).2.2).2.2.2.1 (pA (pB hl.owns).2.2).2.2.2.2.1))) rfl (fun _ => rfl) rfl (fun _ _ => ⟨rfl, rfl, rfl⟩) rfl ?_) | (refine SXg.v0 (fun dn x p ha hK => (qao rfl (fun w hl => hE _))) rfl (fun _ => rfl) rfl (fun _ _ => ⟨rfl, rfl, rfl⟩) rfl ?_) | (refine SXg.v0 (fun dn x p ha hK => ((OpW.build (vals := []) (cells := [.slice none 0 0]) rfl (by kernel_rfl)))) rfl (fun _ => rfl) rfl (fun _ _ => ⟨rfl, rfl, rfl⟩) rfl ?_) | (refine SXg.v0 (fun dn x p ha hK => ((qaF (i := k) (by omega) rfl (congrArg (fun i : Int => some (Value.int .i64 i)) (by omega : ((k + 1 : Nat) : Int) - 1 = (k : Int)))))) rfl (fun _ => rfl) rfl (fun _ _ => ⟨rfl, rfl, rfl⟩) rfl ?_) | (refine SXg.v0 (fun dn x p ha hK => (qae rfl)) rfl (fun _ => rfl) rfl (fun _ _ => ⟨rfl, rfl, rfl⟩) rfl ?_) | (refine SXg.v0 (fun dn x p ha hK => (qak rfl)) rfl (fun _ => rfl) rfl (fun _ _ => ⟨rfl, rfl, rfl⟩) rfl ?_) | (refine SXg.v0 (fun dn x p ha hK => (qah rfl)) rfl (fun _ => rfl) rfl (fun _ _ => ⟨rfl, rfl, rfl⟩) rfl ?_) | (refine SXg.v0 (fun dn x p ha hK => (OpW.len rfl)) rfl (fun _ => rfl) rfl (fun _ _ => ⟨rfl, rfl, rfl⟩) rfl ?_) | (refine SXg.v0 (fun dn x p ha hK => (qaQ rfl rfl (by omega))) rfl (fun _ => rfl) rfl (fun _ _ => ⟨rfl, rfl, rfl⟩) rfl ?_) | (refine SXg.v0 (fun dn x p ha hK => (qaP rfl rfl (by omega))) rfl (fun _ => rfl) rfl (fun _ _ => ⟨rfl, rfl, rfl⟩) rfl ?_) | (refine SXg.v0 (fun dn x p ha hK => (OpW.eqlS rfl rfl rfl rfl)) rfl (fun _ => rfl) rfl (fun _ _ => ⟨rfl, rfl, rfl⟩) rfl ?_) | (refine SXg.v0 (fun dn x p ha hK => (OpW.neqF rfl rfl (by omega))) rfl (fun _ => rfl) rfl (fun _ _ => ⟨rfl, rfl, rfl⟩) rfl ?_) | (refine SXg.v0 (fun dn x p ha hK => (OpW.subi rfl rfl (by omega) (by omega))) rfl (fun _ => rfl) rfl (fun _ _ => ⟨rfl, rfl, rfl⟩) rfl ?_) | (refine SXg.v0 (fun dn x p ha hK => (qay rfl rfl rfl)) rfl (fun _ => rfl) rfl (fun _ _ => ⟨rfl, rfl, rfl⟩) rfl ?_))
    refine SXg.nilW (fun xq _ _ => ?_)
    refine qad ?_
    refine qaz ?_
    refine qaA rfl rfl (fun w' hl => ⟨rfl, hl.mod⟩)
/-! ### The row's frame (the kit's skeleton, turned) -/
namespace fnChanged
open Go.ChangeShapes Go.WideShapes Go.ChangeAt Go.RowKit
set_option linter.unusedVariables false

theorem own : ownKnob Try.prog.godebug = none := by kernel_rfl
theorem laidOut : laidOutB Try.prog = true := by kernel_rfl
def IsRow (k : IntKind) (w : World) (a : Option Addr) (len cap : Nat) (zs : List Int) : Prop :=
  (a = none ∧ len = 0 ∧ cap = 0 ∧ zs = []) ∨
  ∃ x, a = some x ∧ len ≤ cap ∧ cap ≤ maxLen ∧ zs.length = cap ∧ (∀ i, i < zs.length → w.cell? (x.add i) = some (.int k (zs.getD i 0))) ∧ ∀ n ∈ zs, (Lit.int k n).wf = true

theorem walk (a0 : Option Addr) (len0 cap0 : Nat) (z0 : List Int) (w : World) (w0 : IsRow .u8 w a0 len0 cap0 z0) :
    Calls Try.prog 5 #[.slice a0 len0 cap0] w fun e w' => e = .returned (.bool true) ∧ Below w.heap.size w w' := by
  obtain ⟨h1, h2⟩ := bytes_of_row (a := a0) (len := len0) (cap := cap0) (zs := z0) w0
  exact (fnChanged_walk w a0 len0 cap0 h1 h2).mono fun e w' ⟨he, hm⟩ => ⟨he, hm.below (Nat.le_refl _) fun _ _ h => h⟩

set_option maxRecDepth 100000 in
theorem lifted (os : Os) (started : os.Started) (H : Type) (enc : TypeId × Value → H) :
    ReturnsInHanded {} Try.checked os 5 .any (Rows.fnChangedSpec.pre6 enc Try.prog Try.f5 Rows.fnChangedRow.domain false) (Rows.fnChangedSpec.post enc Try.prog Try.f5 false true false false) := by
  refine returnsInHanded_of_change (C := Try.checked) own started (by kernel_rfl) Try.func5
    (ChangeSpec.witness6 (enc := enc) (C := Try.checked) false ⟨#[], #[.slice none 0 0], []⟩ 8 (by kernel_rfl) (by kernel_rfl) (by kernel_rfl) (by kernel_rfl)) ?_
  intro W base args ds gs before hval0 hW hcnd _
  have hval : ∀ (j : Nat) t v, Try.f5.params[j]? = some t → args[j]? = some v → Value.okWide Try.prog W .any base t v := hval0
  have hW' := hW
  obtain ⟨p, q, hA0, hV, rfl, hfz, hnd⟩ := hW
  have hA : DataW.TrodAll enc Try.prog W 0 (fun _ => true) true Try.f5.params.toList args.toList ds p := hA0
  rw [Try.params5] at hA hval
  obtain ⟨v0, vs0, d0, ds0, p0, q0, hargs, rfl, rfl, h0, r0⟩ := trodAll_cons hA
  obtain ⟨rfl, rfl, rfl⟩ := trodAll_nil r0
  obtain rfl : args = #[v0] := by cases args; simp_all
  obtain ⟨rfl, rfl⟩ := trodVars_none hV
  obtain ⟨a0, len0, cap0, rfl⟩ := okWide_slice Try.underlying50 (hval 0 50 v0 rfl rfl)
  have k0 := h0
  have lt0 : ∀ x ∈ p0, x.block < W.heap.size := by obtain ⟨m, hm⟩ := k0; exact DataW.trod_lt m _ _ _ hm
  obtain ⟨z0, w0⟩ : ∃ zs, IsRow .u8 W a0 len0 cap0 zs := by
    obtain ⟨fuel, hf⟩ := h0
    rcases open_ints Try.underlying50 Try.underlying5 (by kernel_rfl) hf with ⟨hcs, _⟩ | ⟨x, l, c, zs, hcs, _, hl, hm, hz, _, hcell, hwz⟩
    · simp [Value.cells] at hcs
      obtain ⟨rfl, rfl, rfl⟩ := hcs
      exact ⟨[], .inl ⟨rfl, rfl, rfl, rfl⟩⟩
    · simp [Value.cells] at hcs
      obtain ⟨rfl, rfl, rfl⟩ := hcs
      exact ⟨zs, .inr ⟨_, rfl, hl, hm, by simpa using hz, hcell, hwz⟩⟩
  clear hA0 hval0
  refine (walk a0 len0 cap0 z0 W w0).mono fun e W' ⟨he, bel⟩ => ?_
  subst he
  exact ⟨_, rfl, _, _, _, [], _, [], hW', trodAll_mk1 (shut_bool Try.underlying4 _), (trodAll_cons_mk (Below.trod laidOut (by kernel_rfl) (of_decide_eq_true (by kernel_rfl)) k0 bel lt0) trodAll_mk0), rfl, bel.frame _, fun h => by cases h⟩

theorem over : Rows.fnChangedRow.holds Try.pinned (OpenSpec.ofChange Rows.fnChangedSpec) :=
  OpenClaim.holds_of_wide 5 Try.f5 rfl rfl rfl rfl rfl rfl rfl ⟨rfl, rfl, rfl, rfl, rfl⟩ rfl rfl rfl rfl rfl (by kernel_rfl) Try.func5 (by kernel_rfl)
    (of_decide_eq_true (by kernel_rfl)) (by unfold Func.isWrapper; first | (rw [if_pos (by decide +kernel)]; kernel_rfl) | (rw [if_neg (by decide +kernel)]; exact ⟨rfl, rfl⟩))
    (fun os started H enc _ => lifted os started H enc)

theorem proved : Rows.FnChangedSaid := over
#print axioms proved
end fnChanged


end Go.Proofs.Ythffgbhphjkdeaa
