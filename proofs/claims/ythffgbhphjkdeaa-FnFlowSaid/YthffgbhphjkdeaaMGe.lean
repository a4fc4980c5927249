/-
  PROVED: contracts of functions and words on memory, several texts put together: what each says stands at its theorems. Conditions: as told there.
-/
import Derived.Test.YthffgbhphjkdeaaMGd
set_option linter.unusedVariables false
set_option linter.unusedSimpArgs false
namespace Go.Proofs.Ythffgbhphjkdeaa
open Go.RowKit
set_option linter.unusedVariables false
set_option linter.unusedSimpArgs false

instance tfvMeas2 : TFv Try.prog 86 3 62 := ⟨_, _, _, Try.underlying86, rfl, rfl, Try.underlying4, rfl⟩
/-- No slice of children is longer than its room. -/
def KidsCap (w : World) (a : Option Addr) (m : Nat) : Prop := ∀ b o, a = some ⟨b, o, none⟩ → ∀ i, i < m → ∀ ka kn kc, w.cell? ⟨b, o + i * 64 + 1, none⟩ = some (.slice ka kn kc) → kn ≤ kc
theorem tree_cap {base : Nat} {w : World} {l : List PNode} {a : Option Addr} {c : Nat} (h : Owns base w (treeO l a c)) : KidsCap w a l.length := by
  rintro b o rfl i hi ka kn kc hc
  obtain ⟨g, hg⟩ := tree_addr h (by omega)
  simp only [Option.some.injEq, Addr.mk.injEq, and_true] at hg
  obtain ⟨rfl, rfl⟩ := hg
  have hx := List.getElem?_eq_getElem hi
  generalize l[i] = x at hx
  have h1 := nodes_cell h hx (nodeRow_1 _ _ _ _ _ _ _ _ _)
  rw [hc] at h1
  simp only [Option.some.injEq, Value.slice.injEq] at h1
  obtain ⟨rfl, rfl, rfl⟩ := h1
  have h2 := h.row _ (List.mem_cons_of_mem _ (partsO_mem (List.mem_of_getElem? hx)).1)
  simp only [kidsO] at h2
  rcases h2.2 with ⟨_, h3⟩ | ⟨g, cap, cur, hv, _, _, h3, _⟩
  · omega
  · injection hv with _ _ h4
    omega

/-- A list built up by three appends. -/
structure Ch3 where
  g0 : Nat
  g1 : Nat
  a1 : Option Addr
  c1 : Nat
  a2 : Option Addr
  c2 : Nat
  a3 : Option Addr
  c3 : Nat
  deriving Inhabited
def ch0O (p : Ch3) : Own := ⟨.slice (some ⟨p.g0, 0, none⟩) 0 0, 3, 1, 0, []⟩
def ch1O (A : List Int) (p : Ch3) : Own := ⟨.slice p.a1 A.length p.c1, 3, 1, A.length, (A.map icell).flatten⟩
def ch2O (A : List Int) (y : Int) (p : Ch3) : Own := ⟨.slice p.a2 (A.length + 1) p.c2, 3, 1, A.length + 1, (A.map icell).flatten ++ [.int .i64 y]⟩
def ch3O (A : List Int) (y : Int) (B : List Int) (p : Ch3) : Own := ⟨.slice p.a3 (A.length + 1 + B.length) p.c3, 3, 1, A.length + 1 + B.length, (A.map icell).flatten ++ [.int .i64 y] ++ (B.map icell).flatten⟩
set_option maxRecDepth 100000 in
set_option maxHeartbeats 16000000 in
theorem sinsertKid_any (l : List Node) (n kid at_ : Int) (o : Bool) (a : Option Addr) (c : Nat) (R : Nat → Prop) (w : World) (hlen : l.length ≤ 1048576) (hfit : ∀ x ∈ l, x.fits 1048576) (h : NodeSlice o R w a l) (hcap : KidsCap w a l.length) :
    Calls Try.prog 20 #[.agg #[.slice a l.length c], .int .i64 n, .int .i64 kid, .int .i64 at_] w (NewTreeC (insertKid l n kid at_) w) := by
  have hT := fun w' (hm : Mod (fun _ => False) w w') => streeOk_any l o a c R w' hlen hfit (h.keep hm)
  refine calls_sx Try.func20 rfl rfl (fun a h1 h2 h3 => ((((Fr.nil h1 h2).arg (h3 3 _ rfl)).arg (h3 2 _ rfl)).arg (h3 1 _ rfl)).arg (h3 0 _ rfl)) ?_
  repeat (first | refine qan ?_ | refine qaj ?_ | refine qaf ?_ | refine qad ?_ | (refine qau ?_; (refine qac (qam 1 rfl rfl rfl) rfl ?_ ?_ ?_); rfl; rfl) | (refine qal ?_; (refine qac (qag rfl) rfl ?_ ?_ ?_); rfl; rfl) | (refine qaR ?_; refine SXl.alloc ?_ ?_ (fun g => ?_); rfl; rfl) | (refine l_box ?_; refine qaG ?_ ?_ rfl rfl (fun g => ?_); rfl; rfl))
  rename_i g8
  revert g; intro g9
  refine qat ?_
  refine SXl.callO rfl rfl rfl (fun w' hl => scopyTree_any l o a c R w' hlen hfit (h.keep hl.mod)) (fun q hq => ?_)
  have hql := TreeQ.len hq
  rw [List.append_nil]
  cases hv : treeOk l
  · have e : insertKid l n kid at_ = (l, 1) := by simp [insertKid, hv]
    rw [e]
    rw [hv] at hT
    repeat (first | refine qan ?_ | refine qaj ?_ | refine qaf ?_ | refine qad ?_ | refine SX.block ?_ | refine qaq rfl ?_ | (refine qaS rfl rfl rfl ?_) | (refine qat ?_; (refine qac (qap rfl (fun w hl => hT _ hl.mod)) rfl ?_ ?_ ?_); rfl; rfl) | (refine qau ?_; (first | refine qac (qam 0 rfl rfl rfl) rfl ?_ ?_ ?_ | refine qac (qam 2 rfl rfl rfl) rfl ?_ ?_ ?_); rfl; rfl) | (refine qao ?_; (refine qac (qai rfl) rfl ?_ ?_ ?_); rfl; rfl) | (refine qal ?_; (refine qac (qag rfl) rfl ?_ ?_ ?_); rfl; rfl) | (refine qaT ?_; (refine qac (OpW.not rfl) rfl ?_ ?_ ?_); rfl; rfl) | (refine qaE ?_; (refine qac (qav rfl rfl rfl) rfl ?_ ?_ ?_); rfl; rfl) | (refine qaR ?_; refine SXl.alloc ?_ ?_ (fun g => ?_); rfl; rfl) | (refine qay ?_; first | ((first | refine qah 0 ?_ rfl rfl rfl rfl rfl rfl ?_ | refine qah 1 ?_ rfl rfl rfl rfl rfl rfl ?_ | refine qah 2 ?_ rfl rfl rfl rfl rfl rfl ?_); rfl; simp only [List.set_cons_zero, List.set_cons_succ]) | ((first | refine qaa 0 ?_ rfl rfl rfl rfl rfl rfl rfl ?_ | refine qaa 1 ?_ rfl rfl rfl rfl rfl rfl rfl ?_ | refine qaa 2 ?_ rfl rfl rfl rfl rfl rfl rfl ?_); rfl; simp only [List.set_cons_zero, List.set_cons_succ]) | ((first | refine qab 0 ?_ rfl rfl rfl rfl rfl rfl rfl ?_ | refine qab 1 ?_ rfl rfl rfl rfl rfl rfl rfl ?_ | refine qab 2 ?_ rfl rfl rfl rfl rfl rfl rfl ?_); rfl; simp only [over, List.set_cons_zero, List.set_cons_succ])) | refine qaA ?_ | refine qax ?_ | refine qaH ?_)
    refine SQ.bodyCell2 1 rfl rfl rfl rfl rfl (fun w' hl => ⟨q, rfl, hq, hl.owns, hl.mod⟩)
  rw [hv] at hT
  cases hn : inB n 1 l.length
  · have e : insertKid l n kid at_ = (l, 1) := by simp [insertKid, hn]
    rw [e]
    repeat (first | refine qan ?_ | refine qaj ?_ | refine qaf ?_ | refine qad ?_ | refine SX.block ?_ | refine qaq rfl ?_ | (refine qaS rfl rfl rfl ?_) | (refine qat ?_; (first | refine qac (qap rfl (fun w hl => hT _ hl.mod)) rfl ?_ ?_ ?_ | refine qac (qap (args := [.agg #[.slice a l.length c], .int .i64 n]) rfl (fun w hl => sisNode_any _ _ _ _ _)) rfl ?_ ?_ ?_); rfl; rfl) | (refine qau ?_; (first | refine qac (qam 0 rfl rfl rfl) rfl ?_ ?_ ?_ | refine qac (qam 2 rfl rfl rfl) rfl ?_ ?_ ?_); rfl; rfl) | (refine qao ?_; (refine qac (qai rfl) rfl ?_ ?_ ?_); rfl; rfl) | (refine qal ?_; (refine qac (qag rfl) rfl ?_ ?_ ?_); rfl; rfl) | (refine qaT ?_; (refine qac (OpW.not rfl) rfl ?_ ?_ ?_); rfl; rfl) | (refine qaE ?_; (refine qac (qav rfl rfl rfl) rfl ?_ ?_ ?_); rfl; rfl) | (refine qaR ?_; refine SXl.alloc ?_ ?_ (fun g => ?_); rfl; rfl) | (refine qay ?_; first | ((first | refine qah 0 ?_ rfl rfl rfl rfl rfl rfl ?_ | refine qah 1 ?_ rfl rfl rfl rfl rfl rfl ?_ | refine qah 2 ?_ rfl rfl rfl rfl rfl rfl ?_); rfl; simp only [List.set_cons_zero, List.set_cons_succ]) | ((first | refine qaa 0 ?_ rfl rfl rfl rfl rfl rfl rfl ?_ | refine qaa 1 ?_ rfl rfl rfl rfl rfl rfl rfl ?_ | refine qaa 2 ?_ rfl rfl rfl rfl rfl rfl rfl ?_); rfl; simp only [List.set_cons_zero, List.set_cons_succ]) | ((first | refine qab 0 ?_ rfl rfl rfl rfl rfl rfl rfl ?_ | refine qab 1 ?_ rfl rfl rfl rfl rfl rfl rfl ?_ | refine qab 2 ?_ rfl rfl rfl rfl rfl rfl rfl ?_); rfl; simp only [over, List.set_cons_zero, List.set_cons_succ])) | (rw [hn]) | refine qaA ?_ | refine qax ?_ | refine qaH ?_)
    refine SQ.bodyCell2 1 rfl rfl rfl rfl rfl (fun w' hl => ⟨q, rfl, hq, hl.owns, hl.mod⟩)
  cases hk : inB kid 1 l.length
  · have e : insertKid l n kid at_ = (l, 1) := by simp [insertKid, hk]
    rw [e]
    repeat (first | refine qan ?_ | refine qaj ?_ | refine qaf ?_ | refine qad ?_ | refine SX.block ?_ | refine qaq rfl ?_ | (refine qat ?_; (first | refine qac (qap rfl (fun w hl => hT _ hl.mod)) rfl ?_ ?_ ?_ | refine qac (qap rfl (fun w hl => sisNode_any _ _ _ _ _)) rfl ?_ ?_ ?_); rfl; rfl) | (refine qau ?_; (first | refine qac (qam 0 rfl rfl rfl) rfl ?_ ?_ ?_ | refine qac (qam 2 rfl rfl rfl) rfl ?_ ?_ ?_); rfl; rfl) | (refine qao ?_; (refine qac (qai rfl) rfl ?_ ?_ ?_); rfl; rfl) | (refine qal ?_; (refine qac (qag rfl) rfl ?_ ?_ ?_); rfl; rfl) | (refine qaT ?_; (refine qac (OpW.not rfl) rfl ?_ ?_ ?_); rfl; rfl) | (refine qaE ?_; (refine qac (qav rfl rfl rfl) rfl ?_ ?_ ?_); rfl; rfl) | (refine qaR ?_; refine SXl.alloc ?_ ?_ (fun g => ?_); rfl; rfl) | (refine qay ?_; first | ((first | refine qah 0 ?_ rfl rfl rfl rfl rfl rfl ?_ | refine qah 1 ?_ rfl rfl rfl rfl rfl rfl ?_ | refine qah 2 ?_ rfl rfl rfl rfl rfl rfl ?_); rfl; simp only [List.set_cons_zero, List.set_cons_succ]) | ((first | refine qaa 0 ?_ rfl rfl rfl rfl rfl rfl rfl ?_ | refine qaa 1 ?_ rfl rfl rfl rfl rfl rfl rfl ?_ | refine qaa 2 ?_ rfl rfl rfl rfl rfl rfl rfl ?_); rfl; simp only [List.set_cons_zero, List.set_cons_succ]) | ((first | refine qab 0 ?_ rfl rfl rfl rfl rfl rfl rfl ?_ | refine qab 1 ?_ rfl rfl rfl rfl rfl rfl rfl ?_ | refine qab 2 ?_ rfl rfl rfl rfl rfl rfl rfl ?_); rfl; simp only [over, List.set_cons_zero, List.set_cons_succ])) | (rw [hn]) | (rw [hk]) | refine qaA ?_ | refine qax ?_ | refine qaH ?_)
    refine SQ.bodyCell2 1 rfl rfl rfl rfl rfl (fun w' hl => ⟨q, rfl, hq, hl.owns, hl.mod⟩)
  have hU := fun w' (hm : Mod (fun _ => False) w w') => sisUnder_any l n kid o a c R w' hv (h.keep hm)
  by_cases hne : kid = n
  · subst hne
    have e : insertKid l kid kid at_ = (l, 2) := by simp [insertKid, hv, hn]
    rw [e]
    repeat (first | refine qan ?_ | refine qaj ?_ | refine qaf ?_ | refine qad ?_ | refine SX.block ?_ | refine qaq rfl ?_ | refine qas rfl ?_ | (refine qaS rfl rfl rfl ?_) | (refine qat ?_; (first | refine qac (qap rfl (fun w hl => hT _ hl.mod)) rfl ?_ ?_ ?_ | refine qac (qap rfl (fun w hl => sisNode_any _ _ _ _ _)) rfl ?_ ?_ ?_); rfl; rfl) | (refine qau ?_; (first | refine qac (qam 0 rfl rfl rfl) rfl ?_ ?_ ?_ | refine qac (qam 2 rfl rfl rfl) rfl ?_ ?_ ?_); rfl; rfl) | (refine qao ?_; (refine qac (qai rfl) rfl ?_ ?_ ?_); rfl; rfl) | (refine qal ?_; (refine qac (qag rfl) rfl ?_ ?_ ?_); rfl; rfl) | (refine l_eql ?_; (refine qac (qaQ rfl rfl (by omega)) rfl ?_ ?_ ?_); rfl; rfl) | (refine qaT ?_; (refine qac (OpW.not rfl) rfl ?_ ?_ ?_); rfl; rfl) | (refine qaE ?_; (refine qac (qav rfl rfl rfl) rfl ?_ ?_ ?_); rfl; rfl) | (refine qaR ?_; refine SXl.alloc ?_ ?_ (fun g => ?_); rfl; rfl) | (refine qay ?_; first | ((first | refine qah 0 ?_ rfl rfl rfl rfl rfl rfl ?_ | refine qah 1 ?_ rfl rfl rfl rfl rfl rfl ?_ | refine qah 2 ?_ rfl rfl rfl rfl rfl rfl ?_); rfl; simp only [List.set_cons_zero, List.set_cons_succ]) | ((first | refine qaa 0 ?_ rfl rfl rfl rfl rfl rfl rfl ?_ | refine qaa 1 ?_ rfl rfl rfl rfl rfl rfl rfl ?_ | refine qaa 2 ?_ rfl rfl rfl rfl rfl rfl rfl ?_); rfl; simp only [List.set_cons_zero, List.set_cons_succ]) | ((first | refine qab 0 ?_ rfl rfl rfl rfl rfl rfl rfl ?_ | refine qab 1 ?_ rfl rfl rfl rfl rfl rfl rfl ?_ | refine qab 2 ?_ rfl rfl rfl rfl rfl rfl rfl ?_); rfl; simp only [over, List.set_cons_zero, List.set_cons_succ])) | (rw [hn]) | refine qaA ?_ | refine qax ?_ | refine qaH ?_)
    refine SQ.bodyCell2 1 rfl rfl rfl rfl rfl (fun w' hl => ⟨q, rfl, hq, hl.owns, hl.mod⟩)
  cases hu : isUnder l n kid
  rotate_left
  · have e : insertKid l n kid at_ = (l, 2) := by simp [insertKid, hv, hn, hk, hu]
    rw [e]
    rw [hu] at hU
    repeat (first | refine qan ?_ | refine qaj ?_ | refine qaf ?_ | refine qad ?_ | refine SX.block ?_ | refine qaq rfl ?_ | refine qas rfl ?_ | (refine qat ?_; (first | refine qac (qap rfl (fun w hl => hT _ hl.mod)) rfl ?_ ?_ ?_ | refine qac (qap rfl (fun w hl => sisNode_any _ _ _ _ _)) rfl ?_ ?_ ?_ | refine qac (qap rfl (fun w hl => hU _ hl.mod)) rfl ?_ ?_ ?_); rfl; rfl) | (refine qau ?_; (first | refine qac (qam 0 rfl rfl rfl) rfl ?_ ?_ ?_ | refine qac (qam 2 rfl rfl rfl) rfl ?_ ?_ ?_); rfl; rfl) | (refine qao ?_; (refine qac (qai rfl) rfl ?_ ?_ ?_); rfl; rfl) | (refine qal ?_; (refine qac (qag rfl) rfl ?_ ?_ ?_); rfl; rfl) | (refine l_eql ?_; (refine qac (qaP rfl rfl (by omega)) rfl ?_ ?_ ?_); rfl; rfl) | (refine qaT ?_; (refine qac (OpW.not rfl) rfl ?_ ?_ ?_); rfl; rfl) | (refine qaE ?_; (refine qac (qav rfl rfl rfl) rfl ?_ ?_ ?_); rfl; rfl) | (refine qaR ?_; refine SXl.alloc ?_ ?_ (fun g => ?_); rfl; rfl) | (refine qay ?_; first | ((first | refine qah 0 ?_ rfl rfl rfl rfl rfl rfl ?_ | refine qah 1 ?_ rfl rfl rfl rfl rfl rfl ?_ | refine qah 2 ?_ rfl rfl rfl rfl rfl rfl ?_); rfl; simp only [List.set_cons_zero, List.set_cons_succ]) | ((first | refine qaa 0 ?_ rfl rfl rfl rfl rfl rfl rfl ?_ | refine qaa 1 ?_ rfl rfl rfl rfl rfl rfl rfl ?_ | refine qaa 2 ?_ rfl rfl rfl rfl rfl rfl rfl ?_); rfl; simp only [List.set_cons_zero, List.set_cons_succ]) | ((first | refine qab 0 ?_ rfl rfl rfl rfl rfl rfl rfl ?_ | refine qab 1 ?_ rfl rfl rfl rfl rfl rfl rfl ?_ | refine qab 2 ?_ rfl rfl rfl rfl rfl rfl rfl ?_); rfl; simp only [over, List.set_cons_zero, List.set_cons_succ])) | (rw [hn]) | (rw [hk]) | refine qaA ?_ | refine qax ?_ | refine qaH ?_)
    refine SQ.bodyCell2 1 rfl rfl rfl rfl rfl (fun w' hl => ⟨q, rfl, hq, hl.owns, hl.mod⟩)
  rw [hu] at hU
  obtain ⟨kn, x, rfl, hkn, hx, hnx⟩ := node_get hn
  obtain ⟨kk, y, rfl, hkk, hy, hny⟩ := node_get hk
  obtain ⟨p, hp⟩ := pnode_get hq hx
  obtain ⟨py, hpy⟩ := pnode_get hq hy
  obtain ⟨b1, o1, x1, r1, rfl, hR1, hb1, hxk, hr1, hl1, hc1⟩ := h.get hkn
  obtain rfl : x1 = x := Option.some.inj (hxk.out.symm.trans hx)
  obtain ⟨ka, kc, rra, rrc, rfl, hk1, ht1, _⟩ := hr1
  obtain ⟨b2, o2, y1, r2, e2, hR2, hb2, hyk, hr2, hl2, hc2⟩ := h.get hkk
  obtain ⟨rfl, rfl⟩ : b1 = b2 ∧ o1 = o2 := by simpa using e2
  obtain rfl : y1 = y := Option.some.inj (hyk.out.symm.trans hy)
  obtain ⟨kb, kd, rrb, rrd, rfl, _, _, _⟩ := hr2
  have hkc := hcap _ _ rfl kn hkn _ _ _ (hc1 1 _ (nodeRow_1 _ _ _ _ _ _ _ _ _))
  have hkl : x1.kids.length ≤ 12 := ok_kids_len hv hx
  by_cases h0 : y1.up = 0
  rotate_left
  · have e : insertKid l ((kn + 1 : Nat) : Int) ((kk + 1 : Nat) : Int) at_ = (l, 3) := by simp only [insertKid, hv, hn, hk, hu, hny, decide_eq_false hne, decide_eq_true h0]; rfl
    rw [e]
    repeat (first | refine qan ?_ | refine qaj ?_ | refine qaf ?_ | refine qad ?_ | refine SX.block ?_ | refine qaq rfl ?_ | refine qas rfl ?_ | (refine qaS rfl rfl rfl ?_) | (refine qat ?_; (first | refine qac (qap rfl (fun w hl => hT _ hl.mod)) rfl ?_ ?_ ?_ | refine qac (qap rfl (fun w hl => sisNode_any _ _ _ _ _)) rfl ?_ ?_ ?_ | refine qac (qap rfl (fun w hl => hU _ hl.mod)) rfl ?_ ?_ ?_ | refine qac (qap (args := [.agg #[.slice (some ⟨b1, o1, none⟩) l.length c], .int .i64 ((kk + 1 : Nat) : Int)]) rfl (fun w hl => snode_any _ _ _ _ kk _ _ _ _ _ _ _ _ _ w (by omega) hkk (fun j v hv => hl.old (hc2 j v hv) (fun h => h)))) rfl ?_ ?_ ?_); rfl; rfl) | (refine l_field ?_; (refine qac (OpW.field rfl (nodeRow_a0 _ _ _ _ _ _ _ _ _)) rfl ?_ ?_ ?_); rfl; rfl) | (refine qau ?_; (first | refine qac (qam 0 rfl rfl rfl) rfl ?_ ?_ ?_ | refine qac (qam 2 rfl rfl rfl) rfl ?_ ?_ ?_); rfl; rfl) | (refine qao ?_; (refine qac (qai rfl) rfl ?_ ?_ ?_); rfl; rfl) | (refine qal ?_; (refine qac (qag rfl) rfl ?_ ?_ ?_); rfl; rfl) | (refine l_eql ?_; (refine qac (qaP rfl rfl (by omega)) rfl ?_ ?_ ?_); rfl; rfl) | (refine l_neq ?_; (refine qac (OpW.neqT rfl rfl (by omega)) rfl ?_ ?_ ?_); rfl; rfl) | (refine qaT ?_; (refine qac (OpW.not rfl) rfl ?_ ?_ ?_); rfl; rfl) | (refine qaE ?_; (refine qac (qav rfl rfl rfl) rfl ?_ ?_ ?_); rfl; rfl) | (refine qaR ?_; refine SXl.alloc ?_ ?_ (fun g => ?_); rfl; rfl) | (refine qay ?_; first | ((first | refine qah 0 ?_ rfl rfl rfl rfl rfl rfl ?_ | refine qah 1 ?_ rfl rfl rfl rfl rfl rfl ?_ | refine qah 2 ?_ rfl rfl rfl rfl rfl rfl ?_); rfl; simp only [List.set_cons_zero, List.set_cons_succ]) | ((first | refine qaa 0 ?_ rfl rfl rfl rfl rfl rfl rfl ?_ | refine qaa 1 ?_ rfl rfl rfl rfl rfl rfl rfl ?_ | refine qaa 2 ?_ rfl rfl rfl rfl rfl rfl rfl ?_); rfl; simp only [List.set_cons_zero, List.set_cons_succ]) | ((first | refine qab 0 ?_ rfl rfl rfl rfl rfl rfl rfl ?_ | refine qab 1 ?_ rfl rfl rfl rfl rfl rfl rfl ?_ | refine qab 2 ?_ rfl rfl rfl rfl rfl rfl rfl ?_); rfl; simp only [over, List.set_cons_zero, List.set_cons_succ])) | (rw [hn]) | (rw [hk]) | refine qaA ?_ | refine qax ?_ | refine qaH ?_)
    refine SQ.bodyCell2 1 rfl rfl rfl rfl rfl (fun w' hl => ⟨q, rfl, hq, hl.owns, hl.mod⟩)
  cases ha : inB at_ 0 x1.kids.length
  · have e : insertKid l ((kn + 1 : Nat) : Int) ((kk + 1 : Nat) : Int) at_ = (l, 3) := by simp only [insertKid, hv, hn, hk, hu, hny, hnx, decide_eq_false hne, ha]; simp
    rw [e]
    repeat (first | refine qan ?_ | refine qaj ?_ | refine qaf ?_ | refine qad ?_ | refine SX.block ?_ | refine qaq rfl ?_ | refine qas rfl ?_ | (refine qat ?_; (first | refine qac (qap rfl (fun w hl => hT _ hl.mod)) rfl ?_ ?_ ?_ | refine qac (qap rfl (fun w hl => sisNode_any _ _ _ _ _)) rfl ?_ ?_ ?_ | refine qac (qap rfl (fun w hl => hU _ hl.mod)) rfl ?_ ?_ ?_ | refine qac (qap (args := [.agg #[.slice (some ⟨b1, o1, none⟩) l.length c], .int .i64 ((kk + 1 : Nat) : Int)]) rfl (fun w hl => snode_any _ _ _ _ kk _ _ _ _ _ _ _ _ _ w (by omega) hkk (fun j v hv => hl.old (hc2 j v hv) (fun h => h)))) rfl ?_ ?_ ?_ | refine qac (qap (args := [.agg #[.slice (some ⟨b1, o1, none⟩) l.length c], .int .i64 ((kn + 1 : Nat) : Int)]) rfl (fun w hl => snode_any _ _ _ _ kn _ _ _ _ _ _ _ _ _ w (by omega) hkn (fun j v hv => hl.old (hc1 j v hv) (fun h => h)))) rfl ?_ ?_ ?_ | refine qac (qaL rfl (fun w _ => l01In_any _ _ _ _)) rfl ?_ ?_ ?_); rfl; rfl) | (refine l_field ?_; (first | refine qac (OpW.field rfl (nodeRow_a0 _ _ _ _ _ _ _ _ _)) rfl ?_ ?_ ?_ | refine qac (OpW.field rfl (nodeRow_a1 _ _ _ _ _ _ _ _ _)) rfl ?_ ?_ ?_); rfl; rfl) | (refine qau ?_; (first | refine qac (qam 0 rfl rfl rfl) rfl ?_ ?_ ?_ | refine qac (qam 2 rfl rfl rfl) rfl ?_ ?_ ?_); rfl; rfl) | (refine qao ?_; (refine qac (qai rfl) rfl ?_ ?_ ?_); rfl; rfl) | (refine qal ?_; (refine qac (qag rfl) rfl ?_ ?_ ?_); rfl; rfl) | (refine l_len ?_; (refine qac (OpW.len rfl) rfl ?_ ?_ ?_); rfl; rfl) | (refine l_eql ?_; (refine qac (qaP rfl rfl (by omega)) rfl ?_ ?_ ?_); rfl; rfl) | (refine l_neq ?_; (refine qac (OpW.neqF rfl rfl (by omega)) rfl ?_ ?_ ?_); rfl; rfl) | (refine qaT ?_; (refine qac (OpW.not rfl) rfl ?_ ?_ ?_); rfl; rfl) | (refine qaE ?_; (refine qac (qav rfl rfl rfl) rfl ?_ ?_ ?_); rfl; rfl) | (refine qaR ?_; refine SXl.alloc ?_ ?_ (fun g => ?_); rfl; rfl) | (refine qay ?_; first | ((first | refine qah 0 ?_ rfl rfl rfl rfl rfl rfl ?_ | refine qah 1 ?_ rfl rfl rfl rfl rfl rfl ?_ | refine qah 2 ?_ rfl rfl rfl rfl rfl rfl ?_); rfl; simp only [List.set_cons_zero, List.set_cons_succ]) | ((first | refine qaa 0 ?_ rfl rfl rfl rfl rfl rfl rfl ?_ | refine qaa 1 ?_ rfl rfl rfl rfl rfl rfl rfl ?_ | refine qaa 2 ?_ rfl rfl rfl rfl rfl rfl rfl ?_); rfl; simp only [List.set_cons_zero, List.set_cons_succ]) | ((first | refine qab 0 ?_ rfl rfl rfl rfl rfl rfl rfl ?_ | refine qab 1 ?_ rfl rfl rfl rfl rfl rfl rfl ?_ | refine qab 2 ?_ rfl rfl rfl rfl rfl rfl rfl ?_); rfl; simp only [over, List.set_cons_zero, List.set_cons_succ])) | (rw [hn]) | (rw [hk]) | (rw [ha]) | refine qaA ?_ | refine qax ?_ | refine qaH ?_)
    refine SQ.bodyCell2 1 rfl rfl rfl rfl rfl (fun w' hl => ⟨q, rfl, hq, hl.owns, hl.mod⟩)
  cases hme : x1.measured
  rotate_left
  · have e : insertKid l ((kn + 1 : Nat) : Int) ((kk + 1 : Nat) : Int) at_ = (l, 6) := by simp only [insertKid, hv, hn, hk, hu, hny, hnx, decide_eq_false hne, ha, h0, hme]; simp
    rw [e]
    repeat (first | refine qan ?_ | refine qaj ?_ | refine qaf ?_ | refine qad ?_ | refine SX.block ?_ | refine qaq rfl ?_ | refine qas rfl ?_ | (refine qat ?_; (first | refine qac (qap rfl (fun w hl => hT _ hl.mod)) rfl ?_ ?_ ?_ | refine qac (qap rfl (fun w hl => sisNode_any _ _ _ _ _)) rfl ?_ ?_ ?_ | refine qac (qap rfl (fun w hl => hU _ hl.mod)) rfl ?_ ?_ ?_ | refine qac (qap (args := [.agg #[.slice (some ⟨b1, o1, none⟩) l.length c], .int .i64 ((kk + 1 : Nat) : Int)]) rfl (fun w hl => snode_any _ _ _ _ kk _ _ _ _ _ _ _ _ _ w (by omega) hkk (fun j v hv => hl.old (hc2 j v hv) (fun h => h)))) rfl ?_ ?_ ?_ | refine qac (qap (args := [.agg #[.slice (some ⟨b1, o1, none⟩) l.length c], .int .i64 ((kn + 1 : Nat) : Int)]) rfl (fun w hl => snode_any _ _ _ _ kn _ _ _ _ _ _ _ _ _ w (by omega) hkn (fun j v hv => hl.old (hc1 j v hv) (fun h => h)))) rfl ?_ ?_ ?_ | refine qac (qaL rfl (fun w _ => l01In_any _ _ _ _)) rfl ?_ ?_ ?_); rfl; rfl) | (refine l_field ?_; (first | refine qac (OpW.field rfl (nodeRow_a0 _ _ _ _ _ _ _ _ _)) rfl ?_ ?_ ?_ | refine qac (OpW.field rfl (nodeRow_a1 _ _ _ _ _ _ _ _ _)) rfl ?_ ?_ ?_ | refine qac (OpW.field rfl (nodeRow_a62 _ _ _ _ _ _ _ _ _)) rfl ?_ ?_ ?_); rfl; rfl) | (refine qau ?_; (first | refine qac (qam 0 rfl rfl rfl) rfl ?_ ?_ ?_ | refine qac (qam 2 rfl rfl rfl) rfl ?_ ?_ ?_); rfl; rfl) | (refine qao ?_; (refine qac (qai rfl) rfl ?_ ?_ ?_); rfl; rfl) | (refine qal ?_; (refine qac (qag rfl) rfl ?_ ?_ ?_); rfl; rfl) | (refine l_len ?_; (refine qac (OpW.len rfl) rfl ?_ ?_ ?_); rfl; rfl) | (refine l_eql ?_; (refine qac (qaP rfl rfl (by omega)) rfl ?_ ?_ ?_); rfl; rfl) | (refine l_neq ?_; (refine qac (OpW.neqF rfl rfl (by omega)) rfl ?_ ?_ ?_); rfl; rfl) | (refine qaT ?_; (refine qac (OpW.not rfl) rfl ?_ ?_ ?_); rfl; rfl) | (refine qaE ?_; (refine qac (qav rfl rfl rfl) rfl ?_ ?_ ?_); rfl; rfl) | (refine qaR ?_; refine SXl.alloc ?_ ?_ (fun g => ?_); rfl; rfl) | (refine qay ?_; first | ((first | refine qah 0 ?_ rfl rfl rfl rfl rfl rfl ?_ | refine qah 1 ?_ rfl rfl rfl rfl rfl rfl ?_ | refine qah 2 ?_ rfl rfl rfl rfl rfl rfl ?_); rfl; simp only [List.set_cons_zero, List.set_cons_succ]) | ((first | refine qaa 0 ?_ rfl rfl rfl rfl rfl rfl rfl ?_ | refine qaa 1 ?_ rfl rfl rfl rfl rfl rfl rfl ?_ | refine qaa 2 ?_ rfl rfl rfl rfl rfl rfl rfl ?_); rfl; simp only [List.set_cons_zero, List.set_cons_succ]) | ((first | refine qab 0 ?_ rfl rfl rfl rfl rfl rfl rfl ?_ | refine qab 1 ?_ rfl rfl rfl rfl rfl rfl rfl ?_ | refine qab 2 ?_ rfl rfl rfl rfl rfl rfl rfl ?_); rfl; simp only [over, List.set_cons_zero, List.set_cons_succ])) | (rw [hn]) | (rw [hk]) | (rw [ha]) | (rw [hme]) | refine qaA ?_ | refine qax ?_ | refine qaH ?_)
    refine SQ.bodyCell2 1 rfl rfl rfl rfl rfl (fun w' hl => ⟨q, rfl, hq, hl.owns, hl.mod⟩)
  obtain ⟨i, rfl, hi⟩ : ∃ i : Nat, at_ = (i : Int) ∧ i ≤ x1.kids.length := by
    have := inB_eq.1 ha
    exact ⟨at_.toNat, by omega, by omega⟩
  have e : insertKid l ((kn + 1 : Nat) : Int) ((kk + 1 : Nat) : Int) (i : Int) = if treeOk (putKid l ((kn + 1 : Nat) : Int) ((kk + 1 : Nat) : Int) i) then (putKid l ((kn + 1 : Nat) : Int) ((kk + 1 : Nat) : Int) i, 0) else (l, 7) := by simp only [insertKid, hv, hn, hk, hu, hny, hnx, decide_eq_false hne, ha, h0, hme, Int.toNat_natCast]; simp
  rw [e]
  obtain ⟨ps, qa, qc⟩ := q
  simp only at hq hql hp hpy
  refine SXl.know (fun w hl => tree_addr (l := ps) (a := qa) (c := qc) hl.owns (by omega)) (fun ⟨gt, hgt⟩ => ?_)
  subst hgt
  have hkp : kn < ps.length := by omega
  repeat (first | refine qan ?_ | refine qaj ?_ | refine qaf ?_ | refine qad ?_ | refine SX.block ?_ | refine qaC ?_ | refine qas rfl ?_ | (refine qat ?_; (first | refine qac (qap rfl (fun w hl => hT _ hl.mod)) rfl ?_ ?_ ?_ | refine qac (qap rfl (fun w hl => sisNode_any _ _ _ _ _)) rfl ?_ ?_ ?_ | refine qac (qap rfl (fun w hl => hU _ hl.mod)) rfl ?_ ?_ ?_ | refine qac (qap (args := [.agg #[.slice (some ⟨b1, o1, none⟩) l.length c], .int .i64 ((kk + 1 : Nat) : Int)]) rfl (fun w hl => snode_any _ _ _ _ kk _ _ _ _ _ _ _ _ _ w (by omega) hkk (fun j v hv => hl.old (hc2 j v hv) (fun h => h)))) rfl ?_ ?_ ?_ | refine qac (qap (args := [.agg #[.slice (some ⟨b1, o1, none⟩) l.length c], .int .i64 ((kn + 1 : Nat) : Int)]) rfl (fun w hl => snode_any _ _ _ _ kn _ _ _ _ _ _ _ _ _ w (by omega) hkn (fun j v hv => hl.old (hc1 j v hv) (fun h => h)))) rfl ?_ ?_ ?_ | refine qac (qaL rfl (fun w _ => l01In_any _ _ _ _)) rfl ?_ ?_ ?_); rfl; rfl) | (refine l_field ?_; (first | refine qac (OpW.field rfl (nodeRow_a0 _ _ _ _ _ _ _ _ _)) rfl ?_ ?_ ?_ | refine qac (OpW.field rfl (nodeRow_a1 _ _ _ _ _ _ _ _ _)) rfl ?_ ?_ ?_ | refine qac (OpW.field rfl (nodeRow_a62 _ _ _ _ _ _ _ _ _)) rfl ?_ ?_ ?_); rfl; rfl) | (refine qau ?_; (refine qac (qam 2 rfl rfl rfl) rfl ?_ ?_ ?_); rfl; rfl) | (refine qao ?_; (refine qac (qai rfl) rfl ?_ ?_ ?_); rfl; rfl) | (refine qal ?_; (refine qac (qag rfl) rfl ?_ ?_ ?_); rfl; rfl) | (refine l_len ?_; (refine qac (OpW.len rfl) rfl ?_ ?_ ?_); rfl; rfl) | (refine l_eql ?_; (refine qac (qaP rfl rfl (by omega)) rfl ?_ ?_ ?_); rfl; rfl) | (refine l_neq ?_; (refine qac (OpW.neqF rfl rfl (by omega)) rfl ?_ ?_ ?_); rfl; rfl) | (refine qaT ?_; (refine qac (OpW.not rfl) rfl ?_ ?_ ?_); rfl; rfl) | (refine qaE ?_; (refine qac (qav rfl rfl rfl) rfl ?_ ?_ ?_); rfl; rfl) | (refine qaR ?_; refine SXl.alloc ?_ ?_ (fun g => ?_); rfl; rfl) | (refine qay ?_; first | ((first | refine qah 0 ?_ rfl rfl rfl rfl rfl rfl ?_ | refine qah 1 ?_ rfl rfl rfl rfl rfl rfl ?_ | refine qah 2 ?_ rfl rfl rfl rfl rfl rfl ?_); rfl; simp only [List.set_cons_zero, List.set_cons_succ]) | ((first | refine qaa 0 ?_ rfl rfl rfl rfl rfl rfl rfl ?_ | refine qaa 1 ?_ rfl rfl rfl rfl rfl rfl rfl ?_ | refine qaa 2 ?_ rfl rfl rfl rfl rfl rfl rfl ?_); rfl; simp only [List.set_cons_zero, List.set_cons_succ]) | ((first | refine qab 0 ?_ rfl rfl rfl rfl rfl rfl rfl ?_ | refine qab 1 ?_ rfl rfl rfl rfl rfl rfl rfl ?_ | refine qab 2 ?_ rfl rfl rfl rfl rfl rfl rfl ?_); rfl; simp only [over, List.set_cons_zero, List.set_cons_succ])) | (rw [hn]) | (rw [hk]) | (rw [ha]) | (rw [hme]) | refine qar ?_)
  obtain ⟨A, B, hAB, hA⟩ : ∃ A B : List Int, x1.kids = A ++ B ∧ A.length = i := ⟨x1.kids.take i, x1.kids.drop i, (List.take_append_drop _ _).symm, by rw [List.length_take]; omega⟩
  have hAe : x1.kids.take i = A := by rw [hAB, ← hA, List.take_left]
  have hBe : x1.kids.drop i = B := by rw [hAB, ← hA, List.drop_left]
  have hBl : x1.kids.length - i = B.length := by rw [hAB, List.length_append]; omega
  have hkA := SliceAt.takeS hk1 i
  have hkB := SliceAt.dropS hk1 hkc i
  rw [hAe] at hkA
  rw [hBe] at hkB
  refine SX.drawnG (ζ := Ch3) 16 (fun d p => [⟨g, [.slice (some ⟨gt, 0, none⟩) ps.length qc], 37⟩, ⟨g9, [.slice none 0 0], 37⟩, ⟨g8, [.slice (some ⟨b1, o1, none⟩) l.length c], 37⟩] ++ (bif d 10 then [⟨p.g1, [.int .i64 ((kk + 1 : Nat) : Int)], 3⟩] else []))
    (fun d p => (bif d 4 then [bif d 15 then ch3O A ((kk + 1 : Nat) : Int) B p else bif d 11 then ch2O A ((kk + 1 : Nat) : Int) p else bif d 8 then ch1O A p else ch0O p] else []) ++ treeO ps (some ⟨gt, 0, none⟩) qc) (fun _ _ => [])
    [(4, fun p v => v = .slice (some ⟨p.g0, 0, none⟩) 0 0), (8, fun p v => v = .slice p.a1 A.length p.c1), (10, fun p v => v = .slice (some ⟨p.g1, 0, none⟩) 1 1), (11, fun p v => v = .slice p.a2 (A.length + 1) p.c2), (15, fun p v => v = .slice p.a3 (A.length + 1 + B.length) p.c3)] default (by kernel_rfl) (by kernel_rfl) (by kernel_rfl) ⟨rfl, rfl, rfl⟩ ?_
  repeat (first | (refine SXg.v0 (fun dn x p ha hK => (qaw 0 rfl rfl rfl)) rfl (fun _ => rfl) rfl (fun _ _ => ⟨rfl, rfl, rfl⟩) rfl ?_) | (refine SXg.v0 (fun dn x p ha hK => (qae rfl)) rfl (fun _ => rfl) rfl (fun _ _ => ⟨rfl, rfl, rfl⟩) rfl ?_) | (refine SXg.v0 (fun dn x p ha hK => (qai rfl)) rfl (fun _ => rfl) rfl (fun _ _ => ⟨rfl, rfl, rfl⟩) rfl ?_) | (refine SXg.v0 (fun dn x p ha hK => (OpW.subi rfl rfl (by omega) (by omega))) rfl (fun _ => rfl) rfl (fun _ _ => ⟨rfl, rfl, rfl⟩) rfl ?_))
  refine SXg.l rfl (fun _ => rfl) rfl (fun dn x p ha hk => ?_) ?_
  · have d8 : dn 8 = false := ha.later 8 (by kernel_rfl)
    have u8 : upd dn 4 8 = false := d8
    have d11 : dn 11 = false := ha.later 11 (by kernel_rfl)
    have u11 : upd dn 4 11 = false := d11
    have d15 : dn 15 = false := ha.later 15 (by kernel_rfl)
    have u15 : upd dn 4 15 = false := d15
    have d4 : dn 4 = false := ha.not
    have u4 : upd dn 4 4 = true := rfl
    have u10 : upd dn 4 10 = dn 10 := rfl
    simp only [d8, d11, d15, d4, cond_true, cond_false, List.append_nil, List.nil_append]
    refine SXl.lit0R rfl rfl (fun _ h => h) (fun g => ?_)
    refine qaj (SQ.g { p with g0 := g } _ rfl (fun w hl => ?_) ⟨fun _ => rfl, hk.2.1, hk.2.2.1, hk.2.2.2.1, hk.2.2.2.2.1, trivial⟩)
    simp only [u8, u11, u15, u4, u10, cond_true, cond_false, List.append_nil, List.nil_append]
    exact hl
  repeat (first | (refine SXg.v0 (fun dn x p ha hK => ((OpW.sliceToS rfl rfl (by omega)))) rfl (fun _ => rfl) rfl (fun _ _ => ⟨rfl, rfl, rfl⟩) rfl ?_) | (refine SXg.v0 (fun dn x p ha hK => (qai rfl)) rfl (fun _ => rfl) rfl (fun _ _ => ⟨rfl, rfl, rfl⟩) rfl ?_))
  refine SXg.l rfl (fun _ => rfl) rfl (fun dn x p ha hk => ?_) ?_
  · have d4 : dn 4 = true := ha.done 4 (by kernel_rfl)
    have u4 : upd dn 8 4 = true := d4
    have d11 : dn 11 = false := ha.later 11 (by kernel_rfl)
    have u11 : upd dn 8 11 = false := d11
    have d15 : dn 15 = false := ha.later 15 (by kernel_rfl)
    have u15 : upd dn 8 15 = false := d15
    have d8 : dn 8 = false := ha.not
    have u8 : upd dn 8 8 = true := rfl
    have u10 : upd dn 8 10 = dn 10 := rfl
    simp only [d4, d11, d15, d8, cond_true, cond_false, List.append_nil, List.nil_append]
    have x4 : x 4 = .slice (some ⟨p.g0, 0, none⟩) 0 0 := hk.1 d4
    simp only [x4]
    refine SXl.appendS (cs := icell) 0 A rfl rfl rfl rfl rfl hA.symm (fun _ => rfl) icell_one1 (fun w hl => ⟨_, SliceAt.flatKeep hkA hl.mod⟩) (by omega) (by omega) (fun a' c' => ?_)
    simp only [List.set_cons_zero, Nat.zero_add, List.nil_append]
    refine qaj (SQ.g { p with a1 := a', c1 := c' } _ rfl (fun w hl => ?_) ⟨hk.1, fun _ => rfl, hk.2.2.1, hk.2.2.2.1, hk.2.2.2.2.1, trivial⟩)
    simp only [u4, u11, u15, u8, u10, cond_true, cond_false, List.append_nil, List.nil_append]
    exact hl
  repeat ((refine SXg.v0 (fun dn x p ha hK => (qai rfl)) rfl (fun _ => rfl) rfl (fun _ _ => ⟨rfl, rfl, rfl⟩) rfl ?_))
  refine SXg.l rfl (fun _ => rfl) rfl (fun dn x p ha hk => ?_) ?_
  · have d11 : dn 11 = false := ha.later 11 (by kernel_rfl)
    have u11 : upd dn 10 11 = false := d11
    have d15 : dn 15 = false := ha.later 15 (by kernel_rfl)
    have u15 : upd dn 10 15 = false := d15
    have d10 : dn 10 = false := ha.not
    have u10 : upd dn 10 10 = true := rfl
    have u4 : upd dn 10 4 = dn 4 := rfl
    have u8 : upd dn 10 8 = dn 8 := rfl
    simp only [d11, d15, d10, cond_true, cond_false, List.append_nil, List.nil_append]
    refine SXl.lit1 rfl rfl rfl rfl rfl (fun g => ?_)
    refine qaj (SQ.g { p with g1 := g } _ rfl (fun w hl => ?_) ⟨hk.1, hk.2.1, fun _ => rfl, hk.2.2.2.1, hk.2.2.2.2.1, trivial⟩)
    simp only [u11, u15, u10, u4, u8, cond_true, cond_false, List.append_nil, List.nil_append]
    exact hl.blkLast
  skip
  refine SXg.l rfl (fun _ => rfl) rfl (fun dn x p ha hk => ?_) ?_
  · have d4 : dn 4 = true := ha.done 4 (by kernel_rfl)
    have u4 : upd dn 11 4 = true := d4
    have d8 : dn 8 = true := ha.done 8 (by kernel_rfl)
    have u8 : upd dn 11 8 = true := d8
    have d10 : dn 10 = true := ha.done 10 (by kernel_rfl)
    have u10 : upd dn 11 10 = true := d10
    have d15 : dn 15 = false := ha.later 15 (by kernel_rfl)
    have u15 : upd dn 11 15 = false := d15
    have d11 : dn 11 = false := ha.not
    have u11 : upd dn 11 11 = true := rfl
    simp only [d4, d8, d10, d15, d11, cond_true, cond_false, List.append_nil, List.nil_append]
    have x8 : x 8 = .slice p.a1 A.length p.c1 := hk.2.1 d8
    have x10 : x 10 = .slice (some ⟨p.g1, 0, none⟩) 1 1 := hk.2.2.1 d10
    simp only [x8, x10]
    refine SXl.append 0 3 rfl rfl rfl rfl rfl rfl rfl rfl (by omega) (by omega) (fun a' c' => ?_)
    try simp only [List.set_cons_zero]
    refine qaj (SQ.g { p with a2 := a', c2 := c' } _ rfl (fun w hl => ?_) ⟨hk.1, hk.2.1, hk.2.2.1, fun _ => rfl, hk.2.2.2.2.1, trivial⟩)
    simp only [u4, u8, u10, u15, u11, cond_true, cond_false, List.append_nil, List.nil_append]
    exact hl
  repeat (first | (refine SXg.v0 (fun dn x p ha hK => ((OpW.sliceFromS rfl rfl (by omega)))) rfl (fun _ => rfl) rfl (fun _ _ => ⟨rfl, rfl, rfl⟩) rfl ?_) | (refine SXg.v0 (fun dn x p ha hK => (qai rfl)) rfl (fun _ => rfl) rfl (fun _ _ => ⟨rfl, rfl, rfl⟩) rfl ?_))
  refine SXg.l rfl (fun _ => rfl) rfl (fun dn x p ha hk => ?_) ?_
  · have d4 : dn 4 = true := ha.done 4 (by kernel_rfl)
    have u4 : upd dn 15 4 = true := d4
    have d8 : dn 8 = true := ha.done 8 (by kernel_rfl)
    have u8 : upd dn 15 8 = true := d8
    have d10 : dn 10 = true := ha.done 10 (by kernel_rfl)
    have u10 : upd dn 15 10 = true := d10
    have d11 : dn 11 = true := ha.done 11 (by kernel_rfl)
    have u11 : upd dn 15 11 = true := d11
    have d15 : dn 15 = false := ha.not
    have u15 : upd dn 15 15 = true := rfl
    simp only [d4, d8, d10, d11, d15, cond_true, cond_false, List.append_nil, List.nil_append]
    have x11 : x 11 = .slice p.a2 (A.length + 1) p.c2 := hk.2.2.2.1 d11
    simp only [x11]
    refine SXl.appendS (cs := icell) 0 B rfl rfl rfl rfl rfl hBl (fun _ => rfl) icell_one1 (fun w hl => ⟨_, SliceAt.flatKeep hkB hl.mod⟩) (by omega) (by omega) (fun a' c' => ?_)
    try simp only [List.set_cons_zero]
    refine qaj (SQ.g { p with a3 := a', c3 := c' } _ rfl (fun w hl => ?_) ⟨hk.1, hk.2.1, hk.2.2.1, hk.2.2.2.1, fun _ => rfl, trivial⟩)
    simp only [u4, u8, u10, u11, u15, cond_true, cond_false, List.append_nil, List.nil_append]
    exact hl
  refine SXg.tail (fun xq pq hkq => ?_)
  have x15 : xq 15 = .slice pq.a3 (A.length + 1 + B.length) pq.c3 := hkq.2.2.2.2.1 rfl
  simp only [x15]
  have hk3 : ch3O A ((kk + 1 : Nat) : Int) B pq = kidsO (({ x1 with kids := A ++ [((kk + 1 : Nat) : Int)] ++ B } : Node), ({ p with ka := pq.a3, kc := pq.c3 } : NodeP)) := by
    unfold ch3O kidsO
    rw [show A.length + 1 + B.length = (A ++ [((kk + 1 : Nat) : Int)] ++ B).length by simp only [List.length_append, List.length_singleton], List.map_append, List.map_append, List.flatten_append, List.flatten_append]
    rfl
  show SXl _ _ _ _ _ [_, _, _, _] (ch3O A ((kk + 1 : Nat) : Int) B pq :: treeO ps (some ⟨gt, 0, none⟩) qc) _ _ _ _
  rw [hk3]
  have hlAB : (A ++ [((kk + 1 : Nat) : Int)] ++ B).length = A.length + 1 + B.length := by simp only [List.length_append, List.length_singleton]
  repeat (first | (refine qaM ?_; (refine qac ((qaJ (i := kn) hkp rfl (congrArg (fun i : Int => some (Value.int .i64 i)) (by omega : ((kn + 1 : Nat) : Int) - 1 = (kn : Int))))) rfl ?_ ?_ ?_); rfl; rfl) | (refine qak ?_; (refine qac (qae rfl) rfl ?_ ?_ ?_); rfl; rfl))
  refine SXl.treeKids0 (c := qc) (({ x1 with kids := A ++ [((kk + 1 : Nat) : Int)] ++ B } : Node), ({ p with ka := pq.a3, kc := pq.c3 } : NodeP)) hp rfl rfl rfl rfl (by rw [← hlAB]; rfl) rfl ?_
  have hkk2 : kk ≠ kn := by omega
  have hpy2 : (ps.set kn (({ x1 with kids := A ++ [((kk + 1 : Nat) : Int)] ++ B } : Node), ({ p with ka := pq.a3, kc := pq.c3 } : NodeP)))[kk]? = some (y1, py) := by rw [List.getElem?_set_ne (fun e => hkk2 e.symm)]; exact hpy
  have hkp2 : kk < ps.length := by omega
  repeat (first | refine qan ?_ | refine qaj ?_ | refine qaf ?_ | refine qad ?_ | (refine qaM ?_; (refine qac ((qaJ (i := kk) hkp2 rfl (congrArg (fun i : Int => some (Value.int .i64 i)) (by omega : ((kk + 1 : Nat) : Int) - 1 = (kk : Int))))) rfl ?_ ?_ ?_); rfl; rfl) | (refine qau ?_; (refine qac (qaw 0 rfl rfl rfl) rfl ?_ ?_ ?_); rfl; rfl) | (refine qak ?_; (refine qac (qae rfl) rfl ?_ ?_ ?_); rfl; rfl) | (refine qao ?_; (refine qac (qai rfl) rfl ?_ ?_ ?_); rfl; rfl) | (refine l_sub ?_; (refine qac (OpW.subi rfl rfl (by omega) (by omega)) rfl ?_ ?_ ?_); rfl; rfl))
  refine SXl.treeCell0 (c := qc) ({ y1 with up := ((kn + 1 : Nat) : Int) }, py) hpy2 rfl rfl rfl rfl (by decide) rfl rfl rfl ?_
  obtain ⟨P2, hP2⟩ : ∃ P2, P2 = (ps.set kn (({ x1 with kids := A ++ [((kk + 1 : Nat) : Int)] ++ B } : Node), ({ p with ka := pq.a3, kc := pq.c3 } : NodeP))).set kk ({ y1 with up := ((kn + 1 : Nat) : Int) }, py) := ⟨_, rfl⟩
  rw [← hP2]
  have hb2 : bare P2 = putKid l ((kn + 1 : Nat) : Int) ((kk + 1 : Nat) : Int) i := by
    rw [hP2, bare_set, bare_set, hq]
    unfold putKid
    rw [hnx, hny, hAe, hBe, show (((kn + 1 : Nat) : Int) - 1).toNat = kn by omega, show (((kk + 1 : Nat) : Int) - 1).toNat = kk by omega]
  have hb2l : (bare P2).length = ps.length := by rw [hP2]; simp [bare]
  have hfit2 : ∀ z ∈ bare P2, z.fits 1048576 := fun z hz => by
    rw [hP2, bare_set, bare_set, hq] at hz
    have hfx := hfit x1 (List.mem_of_getElem? hx)
    have hfy := hfit y1 (List.mem_of_getElem? hy)
    rcases List.mem_or_eq_of_mem_set hz with hz | rfl
    · rcases List.mem_or_eq_of_mem_set hz with hz | rfl
      · exact hfit z hz
      · refine ⟨?_, hfx.2⟩
        show (A ++ [((kk + 1 : Nat) : Int)] ++ B).length ≤ _
        rw [hlAB]
        omega
    · exact hfy
  have hT2 := fun w' h2 => streeOk_any (bare P2) false (some ⟨gt, 0, none⟩) qc (fun k => w.heap.size ≤ k) w' (by omega) hfit2 h2
  rw [hb2l, hb2] at hT2
  cases hok : treeOk (putKid l ((kn + 1 : Nat) : Int) ((kk + 1 : Nat) : Int) i)
  · rw [if_neg (by simp)]
    rw [hok] at hT2
    repeat (first | refine qan ?_ | refine qaj ?_ | refine qaf ?_ | refine qad ?_ | refine qaq rfl ?_ | (refine qat ?_; (refine qac (qap rfl (fun w hl => hT2 _ (hb2 ▸ tree_in hl.owns))) rfl ?_ ?_ ?_); rfl; rfl) | (refine qau ?_; (first | refine qac (qam 0 rfl rfl rfl) rfl ?_ ?_ ?_ | refine qac (qam 2 rfl rfl rfl) rfl ?_ ?_ ?_); rfl; rfl) | (refine qaT ?_; (refine qac (OpW.not rfl) rfl ?_ ?_ ?_); rfl; rfl))
    refine qat ?_
    refine SXl.callO rfl rfl rfl (fun w' hl => scopyTree_any l o _ c R w' hlen hfit (h.keep hl.mod)) (fun q2 hq2 => ?_)
    repeat (first | refine qaj ?_ | refine qad ?_ | (refine qal ?_; (refine qac (qag rfl) rfl ?_ ?_ ?_); rfl; rfl) | (refine qay ?_; first | ((first | refine qah 0 ?_ rfl rfl rfl rfl rfl rfl ?_ | refine qah 1 ?_ rfl rfl rfl rfl rfl rfl ?_ | refine qah 2 ?_ rfl rfl rfl rfl rfl rfl ?_); rfl; simp only [List.set_cons_zero, List.set_cons_succ]) | ((first | refine qaa 0 ?_ rfl rfl rfl rfl rfl rfl rfl ?_ | refine qaa 1 ?_ rfl rfl rfl rfl rfl rfl rfl ?_ | refine qaa 2 ?_ rfl rfl rfl rfl rfl rfl rfl ?_); rfl; simp only [List.set_cons_zero, List.set_cons_succ]) | ((first | refine qab 0 ?_ rfl rfl rfl rfl rfl rfl rfl ?_ | refine qab 1 ?_ rfl rfl rfl rfl rfl rfl rfl ?_ | refine qab 2 ?_ rfl rfl rfl rfl rfl rfl rfl ?_); rfl; simp only [over, List.set_cons_zero, List.set_cons_succ])) | refine qaA ?_ | refine qax ?_)
    refine SQ.bodyCell2 1 rfl rfl rfl rfl rfl (fun w' hl => ⟨q2, rfl, hq2, hl.owns.left, hl.mod⟩)
  · rw [if_pos rfl]
    rw [hok] at hT2
    repeat (first | refine qan ?_ | refine qaj ?_ | refine qaf ?_ | refine qad ?_ | refine qaC ?_ | refine qas rfl ?_ | (refine qat ?_; (refine qac (qap rfl (fun w hl => hT2 _ (hb2 ▸ tree_in hl.owns))) rfl ?_ ?_ ?_); rfl; rfl) | (refine qau ?_; (refine qac (qam 0 rfl rfl rfl) rfl ?_ ?_ ?_); rfl; rfl) | (refine qal ?_; (refine qac (qag rfl) rfl ?_ ?_ ?_); rfl; rfl) | (refine qaT ?_; (refine qac (OpW.not rfl) rfl ?_ ?_ ?_); rfl; rfl) | (refine qay ?_; first | ((first | refine qah 0 ?_ rfl rfl rfl rfl rfl rfl ?_ | refine qah 1 ?_ rfl rfl rfl rfl rfl rfl ?_ | refine qah 2 ?_ rfl rfl rfl rfl rfl rfl ?_); rfl; simp only [List.set_cons_zero, List.set_cons_succ]) | ((first | refine qaa 0 ?_ rfl rfl rfl rfl rfl rfl rfl ?_ | refine qaa 1 ?_ rfl rfl rfl rfl rfl rfl rfl ?_ | refine qaa 2 ?_ rfl rfl rfl rfl rfl rfl rfl ?_); rfl; simp only [List.set_cons_zero, List.set_cons_succ]) | ((first | refine qab 0 ?_ rfl rfl rfl rfl rfl rfl rfl ?_ | refine qab 1 ?_ rfl rfl rfl rfl rfl rfl rfl ?_ | refine qab 2 ?_ rfl rfl rfl rfl rfl rfl rfl ?_); rfl; simp only [over, List.set_cons_zero, List.set_cons_succ])) | refine qaA ?_)
    refine SQ.bodyCell2 1 rfl rfl rfl rfl rfl (fun w' hl => ⟨⟨P2, some ⟨gt, 0, none⟩, qc⟩, ?_, hb2, hl.owns, hl.mod⟩)
    rw [show ps.length = P2.length by rw [← hb2l, bare_len]]
    rfl
end Go.Proofs.Ythffgbhphjkdeaa
namespace Go.Proofs.Ythffgbhphjkdeaa
open Go.RowKit
set_option linter.unusedVariables false
set_option linter.unusedSimpArgs false

theorem flat_ints (zs : List Int) : (zs.map icell).flatten = zs.map (Value.int .i64) := by
  induction zs with
  | nil => rfl
  | cons z zs ih => rw [List.map_cons, List.flatten_cons, ih]; rfl
theorem own_roomI {w : World} {base e c : Nat} {a : Option Addr} {xs : List Int} (h : w.ownsRow base e 1 (.slice a xs.length c) xs.length (xs.map icell).flatten) : xs.length ≤ c ∧ (0 < xs.length → ∃ g, a = some ⟨g, 0, none⟩) := by
  rcases h.2 with ⟨hv, hn⟩ | ⟨g, cap, cur, hv, _, _, hnc, _⟩
  · injection hv with _ h1 h2
    exact ⟨by omega, fun h0 => by omega⟩
  · injection hv with h1 _ h2
    exact ⟨by omega, fun _ => ⟨g, h1⟩⟩
theorem flowTo_len {l : List Node} (xs : List Int) : (flowTo l xs).length ≤ xs.length := by
  rw [flowTo_sorted, sorted_len]; exact List.length_filter_le _ _
theorem flowTo_mem {l : List Node} {xs : List Int} {y : Int} (h : y ∈ flowTo l xs) : y ∈ xs := by
  rw [flowTo_sorted] at h
  exact (List.mem_filter.1 (sorted_mem h)).1
theorem flowTo_next {l : List Node} {xs : List Int} {j : Nat} {y : Int} (h : xs[j]? = some y) : flowTo l (xs.take (j + 1)) = if inFlow l y then insK l (flowTo l (xs.take j)) y else flowTo l (xs.take j) := by
  rw [List.take_add_one, h]
  exact flowTo_snoc _ _
set_option maxRecDepth 100000 in
set_option maxHeartbeats 8000000 in
theorem sapartKidsW_any (l : List Node) (n : Int) (o : Bool) (a : Option Addr) (c : Nat) (R : Nat → Prop) (w : World) (hlen : l.length ≤ 1048576) (hfit : ∀ x ∈ l, x.fits 1048576) (h : NodeSlice o R w a l) :
    Calls Try.prog 48 #[.agg #[.slice a l.length c], .int .i64 n] w (NewSlice 3 1 w (apartW l n).length ((apartW l n).map icell).flatten) := by
  refine calls_sx Try.func48 rfl rfl (fun a h1 h2 h3 => ((Fr.nil h1 h2).arg (h3 1 _ rfl)).arg (h3 0 _ rfl)) ?_
  have hT := fun w' (hm : Mod (fun _ => False) w w') => streeOk_any l o a c R w' hlen hfit (h.keep hm)
  cases hv : treeOk l
  · have e : apartW l n = [] := by simp [apartW, hv]
    rw [e]
    rw [hv] at hT
    repeat (first | refine qan ?_ | refine qaj ?_ | refine qaf ?_ | refine qad ?_ | refine qaq rfl ?_ | (refine qaS rfl rfl rfl ?_) | (refine qat ?_; (refine qac (qap rfl (fun w hl => hT _ hl.mod)) rfl ?_ ?_ ?_); rfl; rfl) | (refine qau ?_; (refine qac (qam 0 rfl rfl rfl) rfl ?_ ?_ ?_); rfl; rfl) | (refine qao ?_; (refine qac (qai rfl) rfl ?_ ?_ ?_); rfl; rfl) | (refine qal ?_; (refine qac (qag rfl) rfl ?_ ?_ ?_); rfl; rfl) | (refine qaT ?_; (refine qac (OpW.not rfl) rfl ?_ ?_ ?_); rfl; rfl) | (refine qaE ?_; (refine qac (qav rfl rfl rfl) rfl ?_ ?_ ?_); rfl; rfl) | (refine l_box ?_; refine qaG ?_ ?_ rfl rfl (fun g => ?_); rfl; rfl) | (refine qaN ?_; first | (refine SXl.lit1 ?_ ?_ rfl rfl rfl (fun g => ?_); rfl; rfl) | (refine SXl.lit0 ?_ ?_ (fun _ h => h) rfl (fun g => ?_); rfl; rfl)) | refine qaA ?_ | refine qax ?_)
    refine qaz rfl rfl (fun w' hl => ⟨_, _, rfl, (hl.own _ List.mem_cons_self).1, hl.mod⟩)
  rw [hv] at hT
  cases hn : inB n 1 l.length
  · have e : apartW l n = [] := by simp [apartW, hn]
    rw [e]
    repeat (first | refine qan ?_ | refine qaj ?_ | refine qaf ?_ | refine qad ?_ | refine qaq rfl ?_ | (refine qat ?_; (first | refine qac (qap rfl (fun w hl => hT _ hl.mod)) rfl ?_ ?_ ?_ | refine qac (qap rfl (fun w hl => sisNode_any _ _ _ _ _)) rfl ?_ ?_ ?_); rfl; rfl) | (refine qau ?_; (refine qac (qam 0 rfl rfl rfl) rfl ?_ ?_ ?_); rfl; rfl) | (refine qao ?_; (refine qac (qai rfl) rfl ?_ ?_ ?_); rfl; rfl) | (refine qal ?_; (refine qac (qag rfl) rfl ?_ ?_ ?_); rfl; rfl) | (refine qaT ?_; (refine qac (OpW.not rfl) rfl ?_ ?_ ?_); rfl; rfl) | (refine qaE ?_; (refine qac (qav rfl rfl rfl) rfl ?_ ?_ ?_); rfl; rfl) | (refine l_box ?_; refine qaG ?_ ?_ rfl rfl (fun g => ?_); rfl; rfl) | (refine qaN ?_; first | (refine SXl.lit1 ?_ ?_ rfl rfl rfl (fun g => ?_); rfl; rfl) | (refine SXl.lit0 ?_ ?_ (fun _ h => h) rfl (fun g => ?_); rfl; rfl)) | (rw [hn]) | refine qaA ?_ | refine qax ?_)
    refine qaz rfl rfl (fun w' hl => ⟨_, _, rfl, (hl.own _ List.mem_cons_self).1, hl.mod⟩)
  have e : apartW l n = (nodeAt l n).kids.filter (standsApart l) := by simp [apartW, hv, hn]
  rw [e]
  obtain ⟨ka, kc, ra, rc, hk1, -, hN⟩ := node_row (c := c) hlen h hn
  obtain ⟨hkl, hkv⟩ := kids_in hv hn
  generalize nodeAt l n = zn at *
  repeat (first | refine qan ?_ | refine qaj ?_ | refine qaf ?_ | refine qad ?_ | refine SX.block ?_ | refine qaC ?_ | refine qas rfl ?_ | (refine qat ?_; (first | refine qac (qap rfl (fun w hl => hT _ hl.mod)) rfl ?_ ?_ ?_ | refine qac (qap rfl (fun w hl => sisNode_any _ _ _ _ _)) rfl ?_ ?_ ?_ | refine qac (qap rfl (fun w hl => hN _ hl.mod)) rfl ?_ ?_ ?_); rfl; rfl) | (refine l_field ?_; (refine qac (OpW.nodeKids rfl) rfl ?_ ?_ ?_); rfl; rfl) | (refine qau ?_; (refine qac (qam 0 rfl rfl rfl) rfl ?_ ?_ ?_); rfl; rfl) | (refine qao ?_; (refine qac (qai rfl) rfl ?_ ?_ ?_); rfl; rfl) | (refine qal ?_; (refine qac (qag rfl) rfl ?_ ?_ ?_); rfl; rfl) | (refine qaT ?_; (refine qac (OpW.not rfl) rfl ?_ ?_ ?_); rfl; rfl) | (refine qaE ?_; (refine qac (qav rfl rfl rfl) rfl ?_ ?_ ?_); rfl; rfl) | (refine l_box ?_; refine qaG ?_ ?_ rfl rfl (fun g => ?_); rfl; rfl) | (refine qaN ?_; first | (refine SXl.lit1 ?_ ?_ rfl rfl rfl (fun g => ?_); rfl; rfl) | (refine SXl.lit0 ?_ ?_ (fun _ h => h) rfl (fun g => ?_); rfl; rfl)) | (rw [hn]))
  rename_i g2
  generalize zn.kids = ks at *
  have hpl : ∀ j, ((ks.take j).filter (standsApart l)).length ≤ 12 := fun j => Nat.le_trans (List.length_filter_le _ _) (by rw [List.length_take]; omega)
  refine SX.loop3 (fun (j : Nat) (_ : Option Addr) (_ : Nat) => j ≤ ks.length) (fun j _ _ => ks.length - j) (fun j a' c' => [⟨g2, [.slice a l.length c], 37⟩]) (fun j a' c' => [⟨.slice a' ((ks.take j).filter (standsApart l)).length c', 3, 1, ((ks.take j).filter (standsApart l)).length, (((ks.take j).filter (standsApart l)).map icell).flatten⟩]) (fun _ _ _ => []) (fun j a' c' => [(2, .pointer (some ⟨g2, 0, none⟩)), (5, .slice a' ((ks.take j).filter (standsApart l)).length c'), (6, .slice ka ks.length kc), (7, .int .i64 j)]) 0 _ _ (Nat.zero_le _) ?_ (fun _ hl => hl) ?_
  · (repeat (first | exact subF_nil _ | (refine subF_cons rfl ?_) | (refine subF_consv rfl (by rfl) ?_)))
  intro j a' c' hj
  have hpj := hpl j
  by_cases hjl : j < ks.length
  · obtain ⟨b3, o3, y, e3, hR3, hb3, hyk, hc3⟩ := IntSlice.get hk1 hjl
    subst e3
    replace hyk := hyk.out
    obtain ⟨ka2, kc2, ra2, rc2, -, -, hN2⟩ := node_row (c := c) hlen h (hkv y (List.mem_of_getElem? hyk))
    have hS := filter_snoc (p := standsApart l) hyk
    have hF : standsApart l y = (!(nodeAt l y).style.hidden && (nodeAt l y).style.apart) := rfl
    rw [hF] at hS
    clear hF
    generalize nodeAt l y = z at *
    repeat (first | refine qan ?_ | refine qaj ?_ | refine qaf ?_ | refine qad ?_ | refine SX.block ?_ | refine qaC ?_ | refine qaq rfl ?_ | (refine qao ?_; (refine qac (qai rfl) rfl ?_ ?_ ?_); rfl; rfl) | (refine l_len ?_; (refine qac (OpW.len rfl) rfl ?_ ?_ ?_); rfl; rfl) | (refine l_lss ?_; (refine qac (OpW.lssT rfl rfl (by omega)) rfl ?_ ?_ ?_); rfl; rfl))
    refine SX.drawnQ 66 [.int .i64 0, .int .i64 0, .int .i64 0, .int .i64 0, .int .i64 0, .int .i64 0, .bool false, .bool false, .int .i64 0, .int .i64 0, .int .i64 0, .int .i64 0, .int .i64 0, .int .i64 0, .int .i64 0, .int .i64 0, .int .i64 0, .int .i64 0, .int .i64 0, .int .i64 0, .int .i64 0, .int .i64 0, .int .i64 0, .int .i64 0, .int .i64 0, .int .i64 0, .int .i64 0, .int .i64 0, .int .i64 0, .int .i64 0, .int .i64 0, .int .i64 0, .int .i64 0, .int .i64 0, .int .i64 0, .int .i64 0, .int .i64 0, .int .i64 0, .int .i64 0, .int .i64 0, .int .i64 0, .int .i64 0, .int .i64 0, .int .i64 0, .int .i64 0, .int .i64 0, .int .i64 0, .int .i64 0, .int .i64 0, .int .i64 0, .int .i64 0, .int .i64 0, .int .i64 0, .int .i64 0, .int .i64 0, .int .i64 0, .int .i64 0, .int .i64 0, .int .i64 0, .int .i64 0] z.style.cells (by kernel_rfl) (by kernel_rfl) (fun B hf => ?_)
    repeat (first | (refine SXq.alloc hf (fun _ => rfl) rfl ?_) | (refine SXq.v (fun _ => (qap rfl (fun w hl => hN2 _ hl.mod))) rfl (fun _ => rfl) rfl ?_) | (refine SXq.v (fun _ => (OpW.nodeSty rfl)) rfl (fun _ => rfl) rfl ?_) | (refine SXq.v (fun _ => (OpW.loadOld rfl (by assumption) (fun h => h))) rfl (fun _ => rfl) rfl ?_) | (refine SXq.v (fun _ => (qam 0 rfl rfl rfl)) rfl (fun _ => rfl) rfl ?_) | (refine SXq.v (fun _ => (qai rfl)) rfl (fun _ => rfl) rfl ?_) | (refine SXq.v (fun _ => (qaO (by omega) rfl rfl)) rfl (fun _ => rfl) rfl ?_))
    refine SXq.store 7 hf (by kernel_rfl) List.mem_cons_self (fun _ => rfl) (fun _ => rfl) (fun _ => rfl) rfl rfl rfl ?_
    refine SXq.nil 7 8 hf (.tail _ (.head _)) (.head _) (fun xq => ?_)
    generalize gOf (xq 7) = g8
    cases h1 : z.style.hidden
    · cases h2 : z.style.apart
      · rw [h1, h2] at hS
        simp only [Bool.and_false, Bool.false_eq_true, if_false, List.append_nil] at hS
        repeat (first | refine qan ?_ | refine qaj ?_ | refine qaf ?_ | refine qad ?_ | refine qaC ?_ | refine qas rfl ?_ | (refine qau ?_; (refine qac (qaw 0 rfl rfl rfl) rfl ?_ ?_ ?_); rfl; rfl) | (refine qak ?_; (refine qac (qae rfl) rfl ?_ ?_ ?_); rfl; rfl) | (refine qao ?_; (refine qac (qai rfl) rfl ?_ ?_ ?_); rfl; rfl) | (refine qal ?_; (refine qac (qag rfl) rfl ?_ ?_ ?_); rfl; rfl) | (refine l_add ?_; (refine qac (OpW.succ rfl rfl (by omega)) rfl ?_ ?_ ?_); rfl; rfl) | (refine qaT ?_; (refine qac (OpW.not rfl) rfl ?_ ?_ ?_); rfl; rfl) | (refine qaE ?_; (refine qac (qav rfl rfl rfl) rfl ?_ ?_ ?_); rfl; rfl) | (rw [h1]) | (rw [h2]) | refine qar ?_)
        refine SQ.round3 (j + 1) a' c' (by omega) (by omega) ?_ (fun w hl => by rw [hS]; exact hl.drop1)
        (repeat (first | exact subF_nil _ | (refine subF_cons rfl ?_) | (refine subF_consv rfl (by rw [hS]) ?_)))
      · rw [h1, h2] at hS
        simp only [Bool.not_false, Bool.and_self, if_true] at hS
        repeat (first | refine qan ?_ | refine qaj ?_ | refine qaf ?_ | refine qad ?_ | refine qaq rfl ?_ | (refine qau ?_; (first | refine qac (qaw 0 rfl rfl rfl) rfl ?_ ?_ ?_ | refine qac (OpW.loadOld rfl (by assumption) (fun h => h)) rfl ?_ ?_ ?_); rfl; rfl) | (refine qak ?_; (refine qac (qae rfl) rfl ?_ ?_ ?_); rfl; rfl) | (refine qao ?_; (refine qac (qai rfl) rfl ?_ ?_ ?_); rfl; rfl) | (refine qal ?_; (refine qac (qag rfl) rfl ?_ ?_ ?_); rfl; rfl) | (refine l_add ?_; (refine qac (OpW.succ rfl rfl (by omega)) rfl ?_ ?_ ?_); rfl; rfl) | (refine qaT ?_; (refine qac (OpW.not rfl) rfl ?_ ?_ ?_); rfl; rfl) | (refine qaE ?_; (refine qac (qav rfl rfl rfl) rfl ?_ ?_ ?_); rfl; rfl) | (refine qaM ?_; (refine qac (qaO (by omega) rfl rfl) rfl ?_ ?_ ?_); rfl; rfl) | (refine qaN ?_; first | (refine SXl.lit1 ?_ ?_ rfl rfl rfl (fun g => ?_); rfl; rfl) | (refine SXl.lit0 ?_ ?_ (fun _ h => h) rfl (fun g => ?_); rfl; rfl)) | (refine l_append ?_; first | (refine SXl.append 0 0 rfl rfl rfl rfl rfl rfl rfl rfl (by omega) (by omega) (fun a c => ?_); simp only [List.set_cons_zero, List.set_cons_succ]) | (refine SXl.append 1 0 rfl rfl rfl rfl rfl rfl rfl rfl (by omega) (by omega) (fun a c => ?_); simp only [List.set_cons_zero, List.set_cons_succ])) | (rw [h1]) | (rw [h2]) | refine qar ?_)
        refine SQ.round3 (j + 1) a c (by omega) (by omega) ?_ (fun w hl => by rw [hS, List.length_append, List.map_append, List.flatten_append]; exact hl.drop1.drop1)
        (repeat (first | exact subF_nil _ | (refine subF_cons rfl ?_) | (refine subF_consv rfl (by rw [hS, List.length_append]; rfl) ?_)))
    · rw [h1] at hS
      simp only [Bool.not_true, Bool.false_and, Bool.false_eq_true, if_false, List.append_nil] at hS
      repeat (first | refine qan ?_ | refine qaj ?_ | refine qaf ?_ | refine qad ?_ | refine qaC ?_ | refine qas rfl ?_ | (refine qaS rfl rfl rfl ?_) | (refine qau ?_; (refine qac (qaw 0 rfl rfl rfl) rfl ?_ ?_ ?_); rfl; rfl) | (refine qak ?_; (refine qac (qae rfl) rfl ?_ ?_ ?_); rfl; rfl) | (refine qao ?_; (refine qac (qai rfl) rfl ?_ ?_ ?_); rfl; rfl) | (refine qal ?_; (refine qac (qag rfl) rfl ?_ ?_ ?_); rfl; rfl) | (refine l_add ?_; (refine qac (OpW.succ rfl rfl (by omega)) rfl ?_ ?_ ?_); rfl; rfl) | (refine qaT ?_; (refine qac (OpW.not rfl) rfl ?_ ?_ ?_); rfl; rfl) | (refine qaE ?_; (refine qac (qav rfl rfl rfl) rfl ?_ ?_ ?_); rfl; rfl) | (rw [h1]) | refine qar ?_)
      refine SQ.round3 (j + 1) a' c' (by omega) (by omega) ?_ (fun w hl => by rw [hS]; exact hl.drop1)
      (repeat (first | exact subF_nil _ | (refine subF_cons rfl ?_) | (refine subF_consv rfl (by rw [hS]) ?_)))
  · obtain rfl : j = ks.length := by omega
    rw [List.take_length] at *
    repeat (first | refine qan ?_ | refine qaj ?_ | refine qaf ?_ | refine qad ?_ | refine qas rfl ?_ | (refine qao ?_; (refine qac (qai rfl) rfl ?_ ?_ ?_); rfl; rfl) | (refine qal ?_; (refine qac (qag rfl) rfl ?_ ?_ ?_); rfl; rfl) | (refine l_len ?_; (refine qac (OpW.len rfl) rfl ?_ ?_ ?_); rfl; rfl) | (refine l_lss ?_; (refine qac (OpW.lssF rfl rfl (by omega)) rfl ?_ ?_ ?_); rfl; rfl) | refine qaA ?_ | refine SX.exit ?_ | refine qaF ?_ | refine qaD ?_)
    refine qaz rfl rfl (fun w' hl => ⟨a', c', rfl, (hl.own _ List.mem_cons_self).1, hl.mod⟩)
set_option maxRecDepth 100000 in
set_option maxHeartbeats 16000000 in
theorem sflowKidsW_any (l : List Node) (n : Int) (o : Bool) (a : Option Addr) (c : Nat) (R : Nat → Prop) (w : World) (hlen : l.length ≤ 1048576) (hfit : ∀ x ∈ l, x.fits 1048576) (h : NodeSlice o R w a l) :
    Calls Try.prog 47 #[.agg #[.slice a l.length c], .int .i64 n] w (NewSlice 3 1 w (flowW l n).length ((flowW l n).map icell).flatten) := by
  refine calls_sx Try.func47 rfl rfl (fun a h1 h2 h3 => ((Fr.nil h1 h2).arg (h3 1 _ rfl)).arg (h3 0 _ rfl)) ?_
  have hT := fun w' (hm : Mod (fun _ => False) w w') => streeOk_any l o a c R w' hlen hfit (h.keep hm)
  cases hv : treeOk l
  · have e : flowW l n = [] := by simp [flowW, hv]
    rw [e]
    rw [hv] at hT
    repeat (first | refine qan ?_ | refine qaj ?_ | refine qaf ?_ | refine qad ?_ | refine qaq rfl ?_ | (refine qaS rfl rfl rfl ?_) | (refine qat ?_; (refine qac (qap rfl (fun w hl => hT _ hl.mod)) rfl ?_ ?_ ?_); rfl; rfl) | (refine qau ?_; (refine qac (qam 0 rfl rfl rfl) rfl ?_ ?_ ?_); rfl; rfl) | (refine qao ?_; (refine qac (qai rfl) rfl ?_ ?_ ?_); rfl; rfl) | (refine qal ?_; (refine qac (qag rfl) rfl ?_ ?_ ?_); rfl; rfl) | (refine qaT ?_; (refine qac (OpW.not rfl) rfl ?_ ?_ ?_); rfl; rfl) | (refine qaE ?_; (refine qac (qav rfl rfl rfl) rfl ?_ ?_ ?_); rfl; rfl) | (refine l_box ?_; refine qaG ?_ ?_ rfl rfl (fun g => ?_); rfl; rfl) | (refine qaN ?_; first | (refine SXl.lit1 ?_ ?_ rfl rfl rfl (fun g => ?_); rfl; rfl) | (refine SXl.lit0 ?_ ?_ (fun _ h => h) rfl (fun g => ?_); rfl; rfl)) | refine qaA ?_ | refine qax ?_)
    refine qaz rfl rfl (fun w' hl => ⟨_, _, rfl, (hl.own _ List.mem_cons_self).1, hl.mod⟩)
  rw [hv] at hT
  cases hn : inB n 1 l.length
  · have e : flowW l n = [] := by simp [flowW, hn]
    rw [e]
    repeat (first | refine qan ?_ | refine qaj ?_ | refine qaf ?_ | refine qad ?_ | refine qaq rfl ?_ | (refine qat ?_; (first | refine qac (qap rfl (fun w hl => hT _ hl.mod)) rfl ?_ ?_ ?_ | refine qac (qap rfl (fun w hl => sisNode_any _ _ _ _ _)) rfl ?_ ?_ ?_); rfl; rfl) | (refine qau ?_; (refine qac (qam 0 rfl rfl rfl) rfl ?_ ?_ ?_); rfl; rfl) | (refine qao ?_; (refine qac (qai rfl) rfl ?_ ?_ ?_); rfl; rfl) | (refine qal ?_; (refine qac (qag rfl) rfl ?_ ?_ ?_); rfl; rfl) | (refine qaT ?_; (refine qac (OpW.not rfl) rfl ?_ ?_ ?_); rfl; rfl) | (refine qaE ?_; (refine qac (qav rfl rfl rfl) rfl ?_ ?_ ?_); rfl; rfl) | (refine l_box ?_; refine qaG ?_ ?_ rfl rfl (fun g => ?_); rfl; rfl) | (refine qaN ?_; first | (refine SXl.lit1 ?_ ?_ rfl rfl rfl (fun g => ?_); rfl; rfl) | (refine SXl.lit0 ?_ ?_ (fun _ h => h) rfl (fun g => ?_); rfl; rfl)) | (rw [hn]) | refine qaA ?_ | refine qax ?_)
    refine qaz rfl rfl (fun w' hl => ⟨_, _, rfl, (hl.own _ List.mem_cons_self).1, hl.mod⟩)
  have e : flowW l n = flowTo l (nodeAt l n).kids := by simp [flowW, hv, hn, flowTo_sorted]
  rw [e]
  obtain ⟨ka, kc, ra, rc, hk1, -, hN⟩ := node_row (c := c) hlen h hn
  obtain ⟨hkl, hkv⟩ := kids_in hv hn
  generalize nodeAt l n = zn at *
  repeat (first | refine qan ?_ | refine qaj ?_ | refine qaf ?_ | refine qad ?_ | refine SX.block ?_ | refine qaC ?_ | refine qas rfl ?_ | (refine qat ?_; (first | refine qac (qap rfl (fun w hl => hT _ hl.mod)) rfl ?_ ?_ ?_ | refine qac (qap rfl (fun w hl => sisNode_any _ _ _ _ _)) rfl ?_ ?_ ?_ | refine qac (qap rfl (fun w hl => hN _ hl.mod)) rfl ?_ ?_ ?_); rfl; rfl) | (refine l_field ?_; (refine qac (OpW.nodeKids rfl) rfl ?_ ?_ ?_); rfl; rfl) | (refine qau ?_; (refine qac (qam 0 rfl rfl rfl) rfl ?_ ?_ ?_); rfl; rfl) | (refine qao ?_; (refine qac (qai rfl) rfl ?_ ?_ ?_); rfl; rfl) | (refine qal ?_; (refine qac (qag rfl) rfl ?_ ?_ ?_); rfl; rfl) | (refine qaT ?_; (refine qac (OpW.not rfl) rfl ?_ ?_ ?_); rfl; rfl) | (refine qaE ?_; (refine qac (qav rfl rfl rfl) rfl ?_ ?_ ?_); rfl; rfl) | (refine l_box ?_; refine qaG ?_ ?_ rfl rfl (fun g => ?_); rfl; rfl) | (refine qaN ?_; first | (refine SXl.lit1 ?_ ?_ rfl rfl rfl (fun g => ?_); rfl; rfl) | (refine SXl.lit0 ?_ ?_ (fun _ h => h) rfl (fun g => ?_); rfl; rfl)) | (rw [hn]))
  rename_i g2
  generalize zn.kids = ks at *
  have hpl : ∀ j, (flowTo l (ks.take j)).length ≤ 12 := fun j => Nat.le_trans (flowTo_len _) (by rw [List.length_take]; omega)
  refine SX.loop3 (fun (j : Nat) (_ : Option Addr) (_ : Nat) => j ≤ ks.length) (fun j _ _ => ks.length - j) (fun j a' c' => [⟨g2, [.slice a l.length c], 37⟩]) (fun j a' c' => [⟨.slice a' (flowTo l (ks.take j)).length c', 3, 1, (flowTo l (ks.take j)).length, ((flowTo l (ks.take j)).map icell).flatten⟩]) (fun _ _ _ => []) (fun j a' c' => [(2, .pointer (some ⟨g2, 0, none⟩)), (5, .slice a' (flowTo l (ks.take j)).length c'), (6, .slice ka ks.length kc), (7, .int .i64 j)]) 0 _ _ (Nat.zero_le _) ?_ (fun _ hl => hl) ?_
  · (repeat (first | exact subF_nil _ | (refine subF_cons rfl ?_) | (refine subF_consv rfl (by rfl) ?_)))
  intro j a' c' hj
  have hpj := hpl j
  by_cases hjl : j < ks.length
  rotate_left
  · obtain rfl : j = ks.length := by omega
    rw [List.take_length] at *
    repeat (first | refine qan ?_ | refine qaj ?_ | refine qaf ?_ | refine qad ?_ | refine qas rfl ?_ | (refine qao ?_; (refine qac (qai rfl) rfl ?_ ?_ ?_); rfl; rfl) | (refine qal ?_; (refine qac (qag rfl) rfl ?_ ?_ ?_); rfl; rfl) | (refine l_len ?_; (refine qac (OpW.len rfl) rfl ?_ ?_ ?_); rfl; rfl) | (refine l_lss ?_; (refine qac (OpW.lssF rfl rfl (by omega)) rfl ?_ ?_ ?_); rfl; rfl) | refine qaA ?_ | refine SX.exit ?_ | refine qaF ?_ | refine qaD ?_)
    refine qaz rfl rfl (fun w' hl => ⟨a', c', rfl, (hl.own _ List.mem_cons_self).1, hl.mod⟩)
  obtain ⟨b3, o3, y, e3, hR3, hb3, hyk, hc3⟩ := IntSlice.get hk1 hjl
  subst e3
  replace hyk := hyk.out
  obtain ⟨ka2, kc2, ra2, rc2, -, -, hN2⟩ := node_row (c := c) hlen h (hkv y (List.mem_of_getElem? hyk))
  have hS := flowTo_next (l := l) hyk
  have hF : inFlow l y = (!(nodeAt l y).style.hidden && !(nodeAt l y).style.apart) := rfl
  have hFm : ∀ u ∈ flowTo l (ks.take j), inB u 1 l.length = true := fun u hu => hkv u (List.mem_of_mem_take (flowTo_mem hu))
  rw [hF] at hS
  clear hF
  have hO : ordAt l y = (nodeAt l y).style.order := rfl
  generalize nodeAt l y = z at *
  generalize hFe : flowTo l (ks.take j) = F at *
  repeat (first | refine qan ?_ | refine qaj ?_ | refine qaf ?_ | refine qad ?_ | refine SX.block ?_ | refine qaC ?_ | refine qaq rfl ?_ | (refine qao ?_; (refine qac (qai rfl) rfl ?_ ?_ ?_); rfl; rfl) | (refine l_len ?_; (refine qac (OpW.len rfl) rfl ?_ ?_ ?_); rfl; rfl) | (refine l_lss ?_; (refine qac (OpW.lssT rfl rfl (by omega)) rfl ?_ ?_ ?_); rfl; rfl))
  refine SX.drawnQ 66 [.int .i64 0, .int .i64 0, .int .i64 0, .int .i64 0, .int .i64 0, .int .i64 0, .bool false, .bool false, .int .i64 0, .int .i64 0, .int .i64 0, .int .i64 0, .int .i64 0, .int .i64 0, .int .i64 0, .int .i64 0, .int .i64 0, .int .i64 0, .int .i64 0, .int .i64 0, .int .i64 0, .int .i64 0, .int .i64 0, .int .i64 0, .int .i64 0, .int .i64 0, .int .i64 0, .int .i64 0, .int .i64 0, .int .i64 0, .int .i64 0, .int .i64 0, .int .i64 0, .int .i64 0, .int .i64 0, .int .i64 0, .int .i64 0, .int .i64 0, .int .i64 0, .int .i64 0, .int .i64 0, .int .i64 0, .int .i64 0, .int .i64 0, .int .i64 0, .int .i64 0, .int .i64 0, .int .i64 0, .int .i64 0, .int .i64 0, .int .i64 0, .int .i64 0, .int .i64 0, .int .i64 0, .int .i64 0, .int .i64 0, .int .i64 0, .int .i64 0, .int .i64 0, .int .i64 0] z.style.cells (by kernel_rfl) (by kernel_rfl) (fun B hf => ?_)
  repeat (first | (refine SXq.alloc hf (fun _ => rfl) rfl ?_) | (refine SXq.v (fun _ => (qap rfl (fun w hl => hN2 _ hl.mod))) rfl (fun _ => rfl) rfl ?_) | (refine SXq.v (fun _ => (OpW.nodeSty rfl)) rfl (fun _ => rfl) rfl ?_) | (refine SXq.v (fun _ => (OpW.loadOld rfl (by assumption) (fun h => h))) rfl (fun _ => rfl) rfl ?_) | (refine SXq.v (fun _ => (qam 0 rfl rfl rfl)) rfl (fun _ => rfl) rfl ?_) | (refine SXq.v (fun _ => (qai rfl)) rfl (fun _ => rfl) rfl ?_) | (refine SXq.v (fun _ => (qaO (by omega) rfl rfl)) rfl (fun _ => rfl) rfl ?_))
  refine SXq.store 7 hf (by kernel_rfl) List.mem_cons_self (fun _ => rfl) (fun _ => rfl) (fun _ => rfl) rfl rfl rfl ?_
  refine SXq.nil 7 8 hf (.tail _ (.head _)) (.head _) (fun xq => ?_)
  generalize gOf (xq 7) = g8
  cases h1 : z.style.hidden
  rotate_left
  · rw [h1] at hS
    simp only [Bool.not_true, Bool.false_and, Bool.false_eq_true, if_false] at hS
    repeat (first | refine qan ?_ | refine qaj ?_ | refine qaf ?_ | refine qad ?_ | refine qaq rfl ?_ | (refine qaS rfl rfl rfl ?_) | (refine qau ?_; (refine qac (qaw 0 rfl rfl rfl) rfl ?_ ?_ ?_); rfl; rfl) | (refine qak ?_; (refine qac (qae rfl) rfl ?_ ?_ ?_); rfl; rfl) | (refine qao ?_; (refine qac (qai rfl) rfl ?_ ?_ ?_); rfl; rfl) | (refine qal ?_; (refine qac (qag rfl) rfl ?_ ?_ ?_); rfl; rfl) | (refine l_add ?_; (refine qac (OpW.succ rfl rfl (by omega)) rfl ?_ ?_ ?_); rfl; rfl) | (refine qaE ?_; (refine qac (qav rfl rfl rfl) rfl ?_ ?_ ?_); rfl; rfl) | (rw [h1]) | refine SX.exit ?_ | refine qaF ?_ | refine qaD ?_)
    refine SQ.round3 (j + 1) a' c' (by omega) (by omega) ?_ (fun w hl => by rw [hS]; exact hl.drop1)
    (repeat (first | exact subF_nil _ | (refine subF_cons rfl ?_) | (refine subF_consv rfl (by rw [hS]) ?_)))
  cases h2 : z.style.apart
  rotate_left
  · rw [h1, h2] at hS
    simp only [Bool.not_false, Bool.not_true, Bool.and_false, Bool.false_eq_true, if_false] at hS
    repeat (first | refine qan ?_ | refine qaj ?_ | refine qaf ?_ | refine qad ?_ | refine qaq rfl ?_ | (refine qau ?_; (refine qac (qaw 0 rfl rfl rfl) rfl ?_ ?_ ?_); rfl; rfl) | (refine qak ?_; (refine qac (qae rfl) rfl ?_ ?_ ?_); rfl; rfl) | (refine qao ?_; (refine qac (qai rfl) rfl ?_ ?_ ?_); rfl; rfl) | (refine qal ?_; (refine qac (qag rfl) rfl ?_ ?_ ?_); rfl; rfl) | (refine l_add ?_; (refine qac (OpW.succ rfl rfl (by omega)) rfl ?_ ?_ ?_); rfl; rfl) | (refine qaE ?_; (refine qac (qav rfl rfl rfl) rfl ?_ ?_ ?_); rfl; rfl) | (rw [h1]) | (rw [h2]) | refine SX.exit ?_ | refine qaF ?_ | refine qaD ?_)
    refine SQ.round3 (j + 1) a' c' (by omega) (by omega) ?_ (fun w hl => by rw [hS]; exact hl.drop1)
    (repeat (first | exact subF_nil _ | (refine subF_cons rfl ?_) | (refine subF_consv rfl (by rw [hS]) ?_)))
  rw [h1, h2] at hS
  simp only [Bool.not_false, Bool.and_self, if_true] at hS
  repeat (first | refine qan ?_ | refine qaj ?_ | refine qaf ?_ | refine qad ?_ | refine SX.block ?_ | refine qaC ?_ | refine qas rfl ?_ | (refine qau ?_; (refine qac (qaw 0 rfl rfl rfl) rfl ?_ ?_ ?_); rfl; rfl) | (refine qak ?_; (refine qac (qae rfl) rfl ?_ ?_ ?_); rfl; rfl) | (refine qao ?_; (refine qac (qai rfl) rfl ?_ ?_ ?_); rfl; rfl) | (refine qal ?_; (refine qac (qag rfl) rfl ?_ ?_ ?_); rfl; rfl) | (refine l_len ?_; (refine qac (OpW.len rfl) rfl ?_ ?_ ?_); rfl; rfl) | (refine qaE ?_; (refine qac (qav rfl rfl rfl) rfl ?_ ?_ ?_); rfl; rfl) | (rw [h1]) | (rw [h2]))
  refine SX.know (fun w hl => own_roomI (hl.own _ List.mem_cons_self).1) (fun ⟨hcap, hat⟩ => ?_)
  refine SX.loop3 (fun (m : Nat) (_ _ : Unit) => m ≤ F.length ∧ posK l F y m = posK l F y F.length) (fun m _ _ => m) (fun _ _ _ => [⟨g8, z.style.cells, 66⟩, ⟨g2, [.slice a l.length c], 37⟩]) (fun _ _ _ => [⟨.slice a' F.length c', 3, 1, F.length, (F.map icell).flatten⟩]) (fun _ _ _ => []) (fun m _ _ => [(2, .pointer (some ⟨g2, 0, none⟩)), (5, .slice a' F.length c'), (6, .slice (some ⟨b3, o3, none⟩) ks.length kc), (7, .int .i64 j), (8, .pointer (some ⟨g8, 0, none⟩)), (9, .int .i64 m)]) F.length () () ⟨Nat.le_refl _, rfl⟩ ?_ (fun w hl => hl) ?_
  · (repeat (first | exact subF_nil _ | (refine subF_cons rfl ?_) | (refine subF_consv rfl (by rfl) ?_)))
  rintro m _ _ ⟨hm, hp⟩
  repeat (refine qan ?_)
  have hcase : (m = 0) ∨ (∃ (u : Int) (gq : Nat), m ≠ 0 ∧ F[m - 1]? = some u ∧ a' = some ⟨gq, 0, none⟩ ∧ ¬ z.style.order < ordAt l u) ∨ (∃ (u : Int) (gq : Nat), m ≠ 0 ∧ F[m - 1]? = some u ∧ a' = some ⟨gq, 0, none⟩ ∧ z.style.order < ordAt l u) := by
    by_cases hm0 : m = 0
    · exact .inl hm0
    · obtain ⟨gq, hq⟩ := hat (by omega)
      have hlt : m - 1 < F.length := by omega
      by_cases hlt2 : z.style.order < ordAt l F[m - 1]
      · exact .inr (.inr ⟨F[m - 1], gq, hm0, List.getElem?_eq_getElem hlt, hq, hlt2⟩)
      · exact .inr (.inl ⟨F[m - 1], gq, hm0, List.getElem?_eq_getElem hlt, hq, hlt2⟩)
  have hpm : posK l F y m = m ∨ posK l F y m = posK l F y (m - 1) := by
    cases m with
    | zero => exact .inl rfl
    | succ m => rw [posK]; split; exact .inr rfl; exact .inl rfl
  rcases hcase with hm0 | ⟨u, gq, hm0, hu, ha', hlt⟩ | ⟨u, gq, hm0, hu, ha', hlt⟩
  rotate_left 2
  · have hp2 : posK l F y (m - 1) = posK l F y F.length := by
      obtain ⟨m', rfl⟩ : ∃ m', m = m' + 1 := ⟨m - 1, by omega⟩
      rw [posK, if_pos (by rw [hO]; simp only [Nat.add_sub_cancel] at hu; rw [hu]; exact hlt)] at hp
      exact hp
    have hu2 : (F.map icell).flatten[0 + (m - 1)]? = some (.int .i64 u) := by rw [flat_ints, Nat.zero_add, List.getElem?_map, hu]; rfl
    obtain ⟨ka3, kc3, ra3, rc3, -, -, hN3⟩ := node_row (c := c) hlen h (hFm u (List.mem_of_getElem? hu))
    unfold ordAt at hlt
    generalize nodeAt l u = zu at *
    refine SX.drawnG (ζ := Unit) 16 (fun _ _ => [⟨g8, z.style.cells, 66⟩, ⟨g2, [.slice a l.length c], 37⟩]) (fun _ _ => [⟨.slice a' F.length c', 3, 1, F.length, (F.map icell).flatten⟩]) (fun _ _ => []) [] () (by kernel_rfl) (by kernel_rfl) (by kernel_rfl) ⟨rfl, rfl, rfl⟩ ?_
    repeat (first | (refine SXg.v0 (fun dn x p ha hK => (qam 1 rfl rfl rfl)) rfl (fun _ => rfl) rfl (fun _ _ => ⟨rfl, rfl, rfl⟩) rfl ?_) | (refine SXg.v0 (fun dn x p ha hK => (OpW.loadOwn (xs := (F.map icell).flatten) 0 rfl (congrArg (fun q => some (⟨.slice q F.length c', 3, 1, F.length, (F.map icell).flatten⟩ : Own)) ha') hu2)) rfl (fun _ => rfl) rfl (fun _ _ => ⟨rfl, rfl, rfl⟩) rfl ?_) | (refine SXg.v0 (fun dn x p ha hK => (qaw 0 rfl rfl rfl)) rfl (fun _ => rfl) rfl (fun _ _ => ⟨rfl, rfl, rfl⟩) rfl ?_) | (refine SXg.v0 (fun dn x p ha hK => ((qaO (i := m - 1) (by omega) (congrArg (fun q => some (Value.slice q F.length c')) ha') (congrArg (fun i : Int => some (Value.int .i64 i)) (by omega : ((m : Nat) : Int) - 1 = ((m - 1 : Nat) : Int)))))) rfl (fun _ => rfl) rfl (fun _ _ => ⟨rfl, rfl, rfl⟩) rfl ?_) | (refine SXg.v0 (fun dn x p ha hK => (qap (args := [.agg #[.slice a l.length c], .int .i64 u]) rfl (fun w hl => hN3 _ hl.mod))) rfl (fun _ => rfl) rfl (fun _ _ => ⟨rfl, rfl, rfl⟩) rfl ?_) | (refine SXg.v0 (fun dn x p ha hK => (OpW.nodeSty rfl)) rfl (fun _ => rfl) rfl (fun _ _ => ⟨rfl, rfl, rfl⟩) rfl ?_) | (refine SXg.v0 (fun dn x p ha hK => (OpW.styOrd rfl)) rfl (fun _ => rfl) rfl (fun _ _ => ⟨rfl, rfl, rfl⟩) rfl ?_) | (refine SXg.v0 (fun dn x p ha hK => (qae rfl)) rfl (fun _ => rfl) rfl (fun _ _ => ⟨rfl, rfl, rfl⟩) rfl ?_) | (refine SXg.v0 (fun dn x p ha hK => (qai rfl)) rfl (fun _ => rfl) rfl (fun _ _ => ⟨rfl, rfl, rfl⟩) rfl ?_) | (refine SXg.v0 (fun dn x p ha hK => (OpW.gtrT rfl rfl (by omega))) rfl (fun _ => rfl) rfl (fun _ _ => ⟨rfl, rfl, rfl⟩) rfl ?_) | (refine SXg.v0 (fun dn x p ha hK => (OpW.subi rfl rfl (by omega) (by omega))) rfl (fun _ => rfl) rfl (fun _ _ => ⟨rfl, rfl, rfl⟩) rfl ?_) | (refine SXg.v0 (fun dn x p ha hK => (qav rfl rfl rfl)) rfl (fun _ => rfl) rfl (fun _ _ => ⟨rfl, rfl, rfl⟩) rfl ?_))
    refine SXg.nilW (fun xq _ _ => ?_)
    repeat (first | refine qaj ?_ | refine qaf ?_ | refine qad ?_ | refine SX.block ?_ | refine qaC ?_ | refine qaq rfl ?_ | (refine qao ?_; (refine qac (qai rfl) rfl ?_ ?_ ?_); rfl; rfl) | (refine qal ?_; (refine qac (qag rfl) rfl ?_ ?_ ?_); rfl; rfl) | (refine l_sub ?_; (refine qac (OpW.subi rfl rfl (by omega) (by omega)) rfl ?_ ?_ ?_); rfl; rfl) | refine qar ?_)
    refine SQ.round3 (m - 1) () () ⟨by omega, hp2⟩ (by omega) ?_ (fun w hl => hl)
    (repeat (first | exact subF_nil _ | (refine subF_cons rfl ?_) | (refine subF_consv rfl (by exact congrArg _ (by omega)) ?_)))
  rotate_left
  have hstop : posK l F y F.length = m := by
    rw [← hp]
    obtain ⟨m', rfl⟩ : ∃ m', m = m' + 1 := ⟨m - 1, by omega⟩
    rw [posK, if_neg (by rw [hO]; simp only [Nat.add_sub_cancel] at hu; rw [hu]; exact hlt)]
  have hu2 : (F.map icell).flatten[0 + (m - 1)]? = some (.int .i64 u) := by rw [flat_ints, Nat.zero_add, List.getElem?_map, hu]; rfl
  obtain ⟨ka3, kc3, ra3, rc3, -, -, hN3⟩ := node_row (c := c) hlen h (hFm u (List.mem_of_getElem? hu))
  unfold ordAt at hlt
  generalize nodeAt l u = zu at *
  rotate_left
  have hstop : posK l F y F.length = m := by rw [← hp, hm0]; rfl
  all_goals
    refine SX.drawnG (ζ := Unit) 16 (fun _ _ => [⟨g8, z.style.cells, 66⟩, ⟨g2, [.slice a l.length c], 37⟩]) (fun _ _ => [⟨.slice a' F.length c', 3, 1, F.length, (F.map icell).flatten⟩]) (fun _ _ => []) [] () (by kernel_rfl) (by kernel_rfl) (by kernel_rfl) ⟨rfl, rfl, rfl⟩ ?_
    repeat (first | (refine SXg.no (fun _ => rfl) rfl rfl (fun _ _ => ⟨rfl, rfl, rfl⟩) rfl ?_) | (refine SXg.v0 (fun dn x p ha hK => (qam 1 rfl rfl rfl)) rfl (fun _ => rfl) rfl (fun _ _ => ⟨rfl, rfl, rfl⟩) rfl ?_) | (refine SXg.v0 (fun dn x p ha hK => (OpW.loadOwn (xs := (F.map icell).flatten) 0 rfl (congrArg (fun q => some (⟨.slice q F.length c', 3, 1, F.length, (F.map icell).flatten⟩ : Own)) ha') hu2)) rfl (fun _ => rfl) rfl (fun _ _ => ⟨rfl, rfl, rfl⟩) rfl ?_) | (refine SXg.v0 (fun dn x p ha hK => (qaw 0 rfl rfl rfl)) rfl (fun _ => rfl) rfl (fun _ _ => ⟨rfl, rfl, rfl⟩) rfl ?_) | (refine SXg.v0 (fun dn x p ha hK => ((qaO (i := m - 1) (by omega) (congrArg (fun q => some (Value.slice q F.length c')) ha') (congrArg (fun i : Int => some (Value.int .i64 i)) (by omega : ((m : Nat) : Int) - 1 = ((m - 1 : Nat) : Int)))))) rfl (fun _ => rfl) rfl (fun _ _ => ⟨rfl, rfl, rfl⟩) rfl ?_) | (refine SXg.v0 (fun dn x p ha hK => (qap (args := [.agg #[.slice a l.length c], .int .i64 u]) rfl (fun w hl => hN3 _ hl.mod))) rfl (fun _ => rfl) rfl (fun _ _ => ⟨rfl, rfl, rfl⟩) rfl ?_) | (refine SXg.v0 (fun dn x p ha hK => (OpW.nodeSty rfl)) rfl (fun _ => rfl) rfl (fun _ _ => ⟨rfl, rfl, rfl⟩) rfl ?_) | (refine SXg.v0 (fun dn x p ha hK => (OpW.styOrd rfl)) rfl (fun _ => rfl) rfl (fun _ _ => ⟨rfl, rfl, rfl⟩) rfl ?_) | (refine SXg.v0 (fun dn x p ha hK => (qae rfl)) rfl (fun _ => rfl) rfl (fun _ _ => ⟨rfl, rfl, rfl⟩) rfl ?_) | (refine SXg.v0 (fun dn x p ha hK => (qai rfl)) rfl (fun _ => rfl) rfl (fun _ _ => ⟨rfl, rfl, rfl⟩) rfl ?_) | (refine SXg.v0 (fun dn x p ha hK => (OpW.gtrT rfl rfl (by omega))) rfl (fun _ => rfl) rfl (fun _ _ => ⟨rfl, rfl, rfl⟩) rfl ?_) | (refine SXg.v0 (fun dn x p ha hK => (OpW.gtrF rfl rfl (by omega))) rfl (fun _ => rfl) rfl (fun _ _ => ⟨rfl, rfl, rfl⟩) rfl ?_) | (refine SXg.v0 (fun dn x p ha hK => (OpW.subi rfl rfl (by omega) (by omega))) rfl (fun _ => rfl) rfl (fun _ _ => ⟨rfl, rfl, rfl⟩) rfl ?_) | (refine SXg.v0 (fun dn x p ha hK => (qav rfl rfl rfl)) rfl (fun _ => rfl) rfl (fun _ _ => ⟨rfl, rfl, rfl⟩) rfl ?_))
    refine SXg.nilW (fun xq _ _ => ?_)
    repeat (first | refine qan ?_ | refine qad ?_ | refine qas rfl ?_ | refine SX.exit ?_ | refine qaF ?_ | refine qaD ?_)
    obtain ⟨A, B, hAB, hA⟩ : ∃ A B : List Int, F = A ++ B ∧ A.length = m := ⟨F.take m, F.drop m, (List.take_append_drop _ _).symm, by rw [List.length_take]; omega⟩
    have hAe : F.take m = A := by rw [hAB, ← hA, List.take_left]
    have hBe : F.drop m = B := by rw [hAB, ← hA, List.drop_left]
    have hBl : F.length - m = B.length := by rw [hAB, List.length_append]; omega
    have hIe : insK l F y = A ++ y :: B := by unfold insK; rw [hstop, hAe, hBe]
    have hIl : (A ++ y :: B).length = A.length + 1 + B.length := by simp; omega
    have hIf : ((A ++ y :: B).map icell).flatten = (A.map icell).flatten ++ [.int .i64 y] ++ (B.map icell).flatten := by rw [flat_ints, flat_ints, flat_ints, List.map_append, List.map_cons, List.append_assoc]; rfl
    refine SX.drawnG (ζ := Ch3) 11 (fun d p => [⟨g8, z.style.cells, 66⟩, ⟨g2, [.slice a l.length c], 37⟩] ++ (bif d 9 then [⟨p.g1, [.int .i64 y], 3⟩] else []))
      (fun d p => (bif d 0 then [bif d 10 then ch2O A y p else bif d 4 then ch1O A p else ch0O p] else []) ++ [⟨.slice a' F.length c', 3, 1, F.length, (F.map icell).flatten⟩]) (fun _ _ => [])
      [(0, fun p v => v = .slice (some ⟨p.g0, 0, none⟩) 0 0), (4, fun p v => v = .slice p.a1 A.length p.c1), (9, fun p v => v = .slice (some ⟨p.g1, 0, none⟩) 1 1), (10, fun p v => v = .slice p.a2 (A.length + 1) p.c2)] default (by kernel_rfl) (by kernel_rfl) (by kernel_rfl) ⟨rfl, rfl, rfl⟩ ?_
    refine SXg.l rfl (fun _ => rfl) rfl (fun dn x p ha hk => ?_) ?_
    · have d4 : dn 4 = false := ha.later 4 (by kernel_rfl)
      have u4 : upd dn 0 4 = false := d4
      have d10 : dn 10 = false := ha.later 10 (by kernel_rfl)
      have u10 : upd dn 0 10 = false := d10
      have d0 : dn 0 = false := ha.not
      have u0 : upd dn 0 0 = true := rfl
      have u9 : upd dn 0 9 = dn 9 := rfl
      simp only [d4, d10, d0, cond_true, cond_false, List.append_nil, List.nil_append]
      refine SXl.lit0R rfl rfl (fun _ h => h) (fun g => ?_)
      refine qaj (SQ.g { p with g0 := g } _ rfl (fun w hl => ?_) ⟨fun _ => rfl, hk.2.1, hk.2.2.1, hk.2.2.2.1, trivial⟩)
      simp only [u4, u10, u0, u9, cond_true, cond_false, List.append_nil, List.nil_append]
      exact hl
    repeat (first | (refine SXg.v0 (fun dn x p ha hK => ((OpW.sliceToS rfl rfl (by omega)))) rfl (fun _ => rfl) rfl (fun _ _ => ⟨rfl, rfl, rfl⟩) rfl ?_) | (refine SXg.v0 (fun dn x p ha hK => (qai rfl)) rfl (fun _ => rfl) rfl (fun _ _ => ⟨rfl, rfl, rfl⟩) rfl ?_))
    refine SXg.l rfl (fun _ => rfl) rfl (fun dn x p ha hk => ?_) ?_
    · have d0 : dn 0 = true := ha.done 0 (by kernel_rfl)
      have u0 : upd dn 4 0 = true := d0
      have d10 : dn 10 = false := ha.later 10 (by kernel_rfl)
      have u10 : upd dn 4 10 = false := d10
      have d4 : dn 4 = false := ha.not
      have u4 : upd dn 4 4 = true := rfl
      have u9 : upd dn 4 9 = dn 9 := rfl
      simp only [d0, d10, d4, cond_true, cond_false, List.append_nil, List.nil_append]
      have x0 : x 0 = .slice (some ⟨p.g0, 0, none⟩) 0 0 := hk.1 d0
      simp only [x0]
      refine SXl.appendS (cs := icell) 0 A rfl rfl rfl rfl rfl hA.symm (fun _ => rfl) icell_one1 (fun w hl => ⟨_, by rw [← hAe]; exact SliceAt.takeS (own_slice (hl.own _ (.tail _ (.head _))).1 (fun _ => rfl) Nat.one_ne_zero) m⟩) (by omega) (by omega) (fun a' c' => ?_)
      simp only [List.set_cons_zero, Nat.zero_add, List.nil_append]
      refine qaj (SQ.g { p with a1 := a', c1 := c' } _ rfl (fun w hl => ?_) ⟨hk.1, fun _ => rfl, hk.2.2.1, hk.2.2.2.1, trivial⟩)
      simp only [u0, u10, u4, u9, cond_true, cond_false, List.append_nil, List.nil_append]
      exact hl
    repeat (first | (refine SXg.v0 (fun dn x p ha hK => (OpW.loadOld rfl hc3 (fun h => h))) rfl (fun _ => rfl) rfl (fun _ _ => ⟨rfl, rfl, rfl⟩) rfl ?_) | (refine SXg.v0 (fun dn x p ha hK => ((qaO (by omega) rfl rfl))) rfl (fun _ => rfl) rfl (fun _ _ => ⟨rfl, rfl, rfl⟩) rfl ?_) | (refine SXg.v0 (fun dn x p ha hK => (qai rfl)) rfl (fun _ => rfl) rfl (fun _ _ => ⟨rfl, rfl, rfl⟩) rfl ?_))
    refine SXg.l rfl (fun _ => rfl) rfl (fun dn x p ha hk => ?_) ?_
    · have d10 : dn 10 = false := ha.later 10 (by kernel_rfl)
      have u10 : upd dn 9 10 = false := d10
      have d9 : dn 9 = false := ha.not
      have u9 : upd dn 9 9 = true := rfl
      have u0 : upd dn 9 0 = dn 0 := rfl
      have u4 : upd dn 9 4 = dn 4 := rfl
      simp only [d10, d9, cond_true, cond_false, List.append_nil, List.nil_append]
      refine SXl.lit1 rfl rfl rfl rfl rfl (fun g => ?_)
      refine qaj (SQ.g { p with g1 := g } _ rfl (fun w hl => ?_) ⟨hk.1, hk.2.1, fun _ => rfl, hk.2.2.2.1, trivial⟩)
      simp only [u10, u9, u0, u4, cond_true, cond_false, List.append_nil, List.nil_append]
      exact hl.blkLast
    refine SXg.l rfl (fun _ => rfl) rfl (fun dn x p ha hk => ?_) ?_
    · have d0 : dn 0 = true := ha.done 0 (by kernel_rfl)
      have u0 : upd dn 10 0 = true := d0
      have d4 : dn 4 = true := ha.done 4 (by kernel_rfl)
      have u4 : upd dn 10 4 = true := d4
      have d9 : dn 9 = true := ha.done 9 (by kernel_rfl)
      have u9 : upd dn 10 9 = true := d9
      have d10 : dn 10 = false := ha.not
      have u10 : upd dn 10 10 = true := rfl
      simp only [d0, d4, d9, d10, cond_true, cond_false, List.append_nil, List.nil_append]
      have x4 : x 4 = .slice p.a1 A.length p.c1 := hk.2.1 d4
      have x9 : x 9 = .slice (some ⟨p.g1, 0, none⟩) 1 1 := hk.2.2.1 d9
      simp only [x4, x9]
      refine SXl.append 0 2 rfl rfl rfl rfl rfl rfl rfl rfl (by omega) (by omega) (fun a' c' => ?_)
      try simp only [List.set_cons_zero]
      refine qaj (SQ.g { p with a2 := a', c2 := c' } _ rfl (fun w hl => ?_) ⟨hk.1, hk.2.1, hk.2.2.1, fun _ => rfl, trivial⟩)
      simp only [u0, u4, u9, u10, cond_true, cond_false, List.append_nil, List.nil_append]
      exact hl
    refine SXg.tail (fun xq pq hkq => ?_)
    have x10 : xq 10 = .slice pq.a2 (A.length + 1) pq.c2 := hkq.2.2.2.1 rfl
    simp only [x10]
    change SXl _ _ _ _ _ [⟨g8, z.style.cells, 66⟩, ⟨g2, [.slice a l.length c], 37⟩, ⟨pq.g1, [.int .i64 y], 3⟩] [ch2O A y pq, ⟨.slice a' F.length c', 3, 1, F.length, (F.map icell).flatten⟩] [] _ _ _
    unfold ch2O
    repeat (first | refine qaj ?_ | refine qaf ?_ | refine qad ?_ | (refine l_slice ?_; (refine qac ((OpW.sliceFromS rfl rfl (by omega))) rfl ?_ ?_ ?_); rfl; rfl) | (refine qao ?_; (refine qac (qai rfl) rfl ?_ ?_ ?_); rfl; rfl) | (refine qal ?_; (refine qac (qag rfl) rfl ?_ ?_ ?_); rfl; rfl))
    refine l_append ?_
    refine SXl.appendS (cs := icell) 0 B rfl rfl rfl rfl rfl hBl (fun _ => rfl) icell_one1 (fun w hl => ⟨_, by rw [← hBe]; exact SliceAt.dropS (own_slice (hl.own _ (.tail _ (.head _))).1 (fun _ => rfl) Nat.one_ne_zero) hcap m⟩) (by omega) (by omega) (fun a4 c4 => ?_)
    simp only [List.set_cons_zero]
    repeat (first | refine qaj ?_ | refine qaf ?_ | refine qad ?_ | (refine qao ?_; (refine qac (qai rfl) rfl ?_ ?_ ?_); rfl; rfl) | (refine qal ?_; (refine qac (qag rfl) rfl ?_ ?_ ?_); rfl; rfl) | (refine l_add ?_; (refine qac (OpW.succ rfl rfl (by omega)) rfl ?_ ?_ ?_); rfl; rfl) | refine qar ?_)
    refine SQ.round3 (j + 1) a4 c4 (by omega) (by omega) ?_ (fun w hl => by rw [hS, hIe, hIl, hIf]; exact (hl.blkSub (.cons _ (.cons_cons _ (List.nil_sublist _)))).ownSub (.cons_cons _ (List.nil_sublist _)))
    (repeat (first | exact subF_nil _ | (refine subF_cons rfl ?_) | (refine subF_consv rfl (by rw [hS, hIe, hIl]) ?_)))
end Go.Proofs.Ythffgbhphjkdeaa
namespace Go.Proofs.Ythffgbhphjkdeaa
open Go.RowKit
set_option linter.unusedVariables false
set_option linter.unusedSimpArgs false

/-- A cell that holds an int holds one of 64 bits. -/
def CellOk (v : Value) : Prop := ∀ n : Int, v = .int .i64 n → I64 n
def AllOk (c : List Value) : Prop := ∀ v ∈ c, CellOk v
theorem cellOk_int {n : Int} (h : I64 n) : CellOk (.int .i64 n) := fun m e => by cases e; exact h
theorem cellOk_bool (b : Bool) : CellOk (.bool b) := fun m e => by cases e
theorem AllOk.set {c : List Value} (h : AllOk c) {v : Value} (hv : CellOk v) (j : Nat) : AllOk (c.set j v) := fun u hu => by
  rcases List.mem_or_eq_of_mem_set hu with hu | rfl
  · exact h u hu
  · exact hv
theorem AllOk.over : ∀ {r c : List Value} {j : Nat}, AllOk c → AllOk r → AllOk (over c j r)
  | [], _, _, h, _ => h
  | v :: r, c, j, h, hr => AllOk.over (r := r) (h.set (hr v List.mem_cons_self) j) (fun u hu => hr u (List.mem_cons_of_mem _ hu))
theorem allOk_of {c : List Value} (h : c.all (fun v => match v with | .int .i64 n => decide (-9223372036854775808 ≤ n) && decide (n ≤ 9223372036854775807) | _ => true) = true) : AllOk c := fun v hv n e => by
  have := List.all_eq_true.1 h v hv
  subst e
  simp only [Bool.and_eq_true, decide_eq_true_eq] at this
  exact this
theorem SXl.drop1 {P : Program} {n : Nat} {W : World} {R : Rg W} {L : List Blk} {O : List Own} {E : List Res} {f : List (Nat × Value)} {Q : Exit → Go.Act → World → Prop} {ops : Array Oper} {rest : List Oper} {b : Blk} (h : SXl P n W R ops L O E f rest Q) : SXl P n W R ops (b :: L) O E f rest Q := ⟨fun a w hf hl => h.run a w hf hl.drop1⟩

theorem below_d (B gc : Nat) (w : World) (hc : Cur B 141 w gc) (n : Int) (h0 : 0 < n) (h1 : n ≤ 1000000000) : Calls Try.prog 111 #[.pointer (some ⟨gc, 0, none⟩), .int .i64 n] w (DrewV 141 B gc w (fun x : Int => .int .i64 x) (fun x => 0 ≤ x ∧ x < n)) :=
  (l01Below_any B gc w hc n h1).mono fun e w' ⟨x, hx, he, hc, hm⟩ => ⟨x, he, by omega, hm, hc⟩
theorem once_d (B gc : Nat) (w : World) (hc : Cur B 141 w gc) (n : Int) (h1 : n ≤ 1000000000) : Calls Try.prog 69 #[.pointer (some ⟨gc, 0, none⟩), .int .i64 n] w (DrewV 141 B gc w (fun b : Bool => .bool b) (fun _ => True)) :=
  (l01Once_any B gc w hc n h1).mono fun e w' ⟨b, he, hc, hm⟩ => ⟨b, he, trivial, hm, hc⟩
theorem pick_d {W : World} {B gc b : Nat} {hg : gc < W.heap.size} {hB : B ≤ gc} {L : List Blk} {O : List Own} {E : List Res} {w : World} {l : List Int} (hl : Loc W (curRg 141 B gc W hg hB) (⟨b, l.map (.int .i64), 3⟩ :: L) O E w) (h0 : 0 < l.length) (h1 : l.length ≤ 1000) :
    Calls Try.prog 71 #[.pointer (some ⟨gc, 0, none⟩), .slice (some ⟨b, 0, none⟩) l.length l.length] w (DrewV 141 B gc w (fun x : Int => .int .i64 x) (fun x => x ∈ l)) := by
  obtain ⟨hb, hcell⟩ := hl.blk _ (.head _)
  have hne : b ≠ gc := by
    rcases hb with h | h
    · exact h.elim
    · simp only at h; omega
  refine (l01PickInt_any B gc w hl.inv b l.length l (fun i hi => ?_) h0 h1 hne).mono fun e w' h => Drew.v h
  have := blk_cell (j := i) (v := .int .i64 (l.getD i 0)) hcell (by simp [List.getElem?_eq_getElem hi, List.getD, hi])
  rw [Nat.zero_add]
  exact this

set_option maxRecDepth 100000 in
set_option maxHeartbeats 8000000 in
theorem l02Int_d (B gc : Nat) (w : World) (hc : Cur B 141 w gc) : Calls Try.prog 126 #[.pointer (some ⟨gc, 0, none⟩)] w (DrewV 141 B gc w (fun x : Int => .int .i64 x) (fun x => I64 x)) := by
  refine calls_draw (as_ := [.pointer (some ⟨gc, 0, none⟩)]) hc Try.func126 rfl rfl (fun a h1 h2 h3 => ((Fr.nil h1 h2).arg (h3 0 _ rfl))) ?_
  repeat (first | refine qan ?_ | refine qaj ?_ | refine qaf ?_ | refine qad ?_ | (refine qao ?_; (refine qac (qai rfl) rfl ?_ ?_ ?_); rfl; rfl) | (refine qal ?_; (refine qac (qag rfl) rfl ?_ ?_ ?_); rfl; rfl))
  refine qat ?_
  refine qaB (ξ := Int) (v := fun x : Int => .int .i64 x) rfl rfl rfl (fun x => 0 ≤ x ∧ x < 6) (fun w hl => below_d B gc w hl.inv 6 (by decide) (by decide)) (fun x hx => ?_)
  by_cases h0 : x = 0
  · repeat (first | refine qan ?_ | refine qaj ?_ | refine qaf ?_ | refine qad ?_ | refine SX.block ?_ | refine qaq rfl ?_ | (refine qao ?_; (refine qac (qai rfl) rfl ?_ ?_ ?_); rfl; rfl) | (refine qal ?_; (refine qac (qag rfl) rfl ?_ ?_ ?_); rfl; rfl) | (refine l_eql ?_; (refine qac (qaQ rfl rfl (by omega)) rfl ?_ ?_ ?_); rfl; rfl))
    refine qaN ?_
    refine SXl.lit (cells := [.int .i64 0, .int .i64 1, .int .i64 (-1), .int .i64 64, .int .i64 1048576, .int .i64 1048577, .int .i64 (-1048576), .int .i64 (-1048577), .int .i64 9223372036854775807, .int .i64 (-9223372036854775808)]) (z := .int .i64 0) ?_ ?_ rfl (by decide) (by kernel_rfl) rfl (fun gl => ?_)
    rfl; rfl
    skip
    refine qat ?_
    refine qaB (ξ := Int) (v := fun x => .int .i64 x) rfl rfl rfl (fun x => x ∈ ([0, 1, -1, 64, 1048576, 1048577, -1048576, -1048577, 9223372036854775807, -9223372036854775808] : List Int)) (fun w hl => pick_d (l := [0, 1, -1, 64, 1048576, 1048577, -1048576, -1048577, 9223372036854775807, -9223372036854775808]) hl (by decide) (by decide)) (fun y hy => ?_)
    repeat (first | refine qaj ?_ | refine qad ?_ | (refine qal ?_; (refine qac (qag rfl) rfl ?_ ?_ ?_); rfl; rfl) | refine qaA ?_ | refine qax ?_ | refine qaH ?_)
    refine qaz rfl rfl (fun w' hl => ⟨_, rfl, by simp at hy; exact ⟨by omega, by omega⟩, hl.mod, hl.inv⟩)
  by_cases h1 : x = 1
  · repeat (first | refine qan ?_ | refine qaj ?_ | refine qaf ?_ | refine qad ?_ | refine SX.block ?_ | refine qaq rfl ?_ | refine qas rfl ?_ | (refine qao ?_; (refine qac (qai rfl) rfl ?_ ?_ ?_); rfl; rfl) | (refine qal ?_; (refine qac (qag rfl) rfl ?_ ?_ ?_); rfl; rfl) | (refine l_eql ?_; (first | refine qac (qaQ rfl rfl (by omega)) rfl ?_ ?_ ?_ | refine qac (qaP rfl rfl (by omega)) rfl ?_ ?_ ?_); rfl; rfl))
    refine qat ?_
    refine qaB (ξ := Int) (v := fun x : Int => .int .i64 x) rfl rfl rfl (fun x => 0 ≤ x ∧ x < 5000) (fun w hl => below_d B gc w hl.inv 5000 (by decide) (by decide)) (fun y hy => ?_)
    repeat (first | refine qaj ?_ | refine qad ?_ | (refine l_neg ?_; (refine qac ((OpW.negi rfl (by omega) (by omega))) rfl ?_ ?_ ?_); rfl; rfl) | (refine qal ?_; (refine qac (qag rfl) rfl ?_ ?_ ?_); rfl; rfl) | refine qaA ?_ | refine qax ?_ | refine qaH ?_)
    refine qaz rfl rfl (fun w' hl => ⟨_, rfl, ⟨by omega, by omega⟩, hl.mod, hl.inv⟩)
  repeat (first | refine qan ?_ | refine qaj ?_ | refine qaf ?_ | refine qad ?_ | refine SX.block ?_ | refine qaC ?_ | refine qas rfl ?_ | (refine qao ?_; (refine qac (qai rfl) rfl ?_ ?_ ?_); rfl; rfl) | (refine qal ?_; (refine qac (qag rfl) rfl ?_ ?_ ?_); rfl; rfl) | (refine l_eql ?_; (refine qac (qaP rfl rfl (by omega)) rfl ?_ ?_ ?_); rfl; rfl) | refine qar ?_)
  refine qat ?_
  refine qaB (ξ := Int) (v := fun x : Int => .int .i64 x) rfl rfl rfl (fun x => 0 ≤ x ∧ x < 8000) (fun w hl => below_d B gc w hl.inv 8000 (by decide) (by decide)) (fun y hy => ?_)
  repeat (first | refine qaj ?_ | refine qad ?_ | (refine qal ?_; (refine qac (qag rfl) rfl ?_ ?_ ?_); rfl; rfl) | refine qaA ?_)
  refine qaz rfl rfl (fun w' hl => ⟨_, rfl, ⟨by omega, by omega⟩, hl.mod, hl.inv⟩)

set_option maxRecDepth 100000 in
set_option maxHeartbeats 8000000 in
theorem l04Value_d (B gc : Nat) (w : World) (hc : Cur B 141 w gc) : Calls Try.prog 112 #[.pointer (some ⟨gc, 0, none⟩)] w (DrewV 141 B gc w (fun v : Val => .agg v.cells.toArray) (fun v => AllOk v.cells)) := by
  refine calls_draw (as_ := [.pointer (some ⟨gc, 0, none⟩)]) hc Try.func112 rfl rfl (fun a h1 h2 h3 => ((Fr.nil h1 h2).arg (h3 0 _ rfl))) ?_
  repeat (first | refine qan ?_ | refine qaj ?_ | refine qaf ?_ | refine qad ?_ | (refine qao ?_; (refine qac (qai rfl) rfl ?_ ?_ ?_); rfl; rfl) | (refine qaR ?_; refine SXl.alloc ?_ ?_ (fun g => ?_); rfl; rfl))
  refine qat ?_
  refine qaB (ξ := Int) (v := fun x : Int => .int .i64 x) rfl rfl rfl (fun x => 0 ≤ x ∧ x < 6) (fun w hl => below_d B gc w hl.inv 6 (by decide) (by decide)) (fun x hx => ?_)
  by_cases h0 : x = 0
  · repeat (first | refine qan ?_ | refine qaj ?_ | refine qaf ?_ | refine qad ?_ | refine SX.block ?_ | refine qaq rfl ?_ | (refine qao ?_; (refine qac (qai rfl) rfl ?_ ?_ ?_); rfl; rfl) | (refine qal ?_; (refine qac (qag rfl) rfl ?_ ?_ ?_); rfl; rfl) | (refine l_eql ?_; (refine qac (qaQ rfl rfl (by omega)) rfl ?_ ?_ ?_); rfl; rfl))
    refine qaN ?_
    refine SXl.lit (cells := [.int .i64 0, .int .i64 10, .int .i64 25, .int .i64 50, .int .i64 100, .int .i64 150, .int .i64 33]) (z := .int .i64 0) ?_ ?_ rfl (by decide) (by kernel_rfl) rfl (fun gl => ?_)
    rfl; rfl
    skip
    refine qat ?_
    refine qaB (ξ := Int) (v := fun x => .int .i64 x) rfl rfl rfl (fun x => x ∈ ([0, 10, 25, 50, 100, 150, 33] : List Int)) (fun w hl => pick_d (l := [0, 10, 25, 50, 100, 150, 33]) hl (by decide) (by decide)) (fun y hy => ?_)
    refine SXl.drop1 ?_
    have hy2 : 0 ≤ y ∧ y ≤ 150 := by simp at hy; omega
    repeat (first | refine qaj ?_ | refine qad ?_ | (refine l_build ?_; (refine qac ((OpW.build (vals := [(0, .int .i64 2), (1, .int .i64 y)]) (cells := [.int .i64 2, .int .i64 y]) rfl (by kernel_rfl))) rfl ?_ ?_ ?_); rfl; rfl) | (refine qay ?_; first | ((first | refine qaa 0 ?_ rfl rfl rfl rfl rfl rfl rfl ?_ | refine qaa 1 ?_ rfl rfl rfl rfl rfl rfl rfl ?_ | refine qaa 2 ?_ rfl rfl rfl rfl rfl rfl rfl ?_); rfl; simp only [List.set_cons_zero, List.set_cons_succ]) | ((first | refine qab 0 ?_ rfl rfl rfl rfl rfl rfl rfl ?_ | refine qab 1 ?_ rfl rfl rfl rfl rfl rfl rfl ?_ | refine qab 2 ?_ rfl rfl rfl rfl rfl rfl rfl ?_); rfl; simp only [over, List.set_cons_zero, List.set_cons_succ])) | refine qaA ?_ | refine qax ?_ | refine qaH ?_)
    refine qaK 0 rfl rfl rfl rfl (fun w' hl => ⟨⟨2, y⟩, rfl, (by intro u hu; simp [Val.cells] at hu; rcases hu with rfl | rfl <;> exact cellOk_int ⟨by omega, by omega⟩), hl.mod, hl.inv⟩)
  by_cases h12 : x = 1 ∨ x = 2
  · have hz2 : ∀ z : Int, 0 ≤ z ∧ z < 3000 → ∀ y : Int, y ∈ ([0, 64, 100, 640, 1000, 33, z] : List Int) → 0 ≤ y ∧ y ≤ 3000 := fun z hz y hy => by simp at hy; omega
    rcases h12 with h12 | h12
    · repeat (first | refine qan ?_ | refine qaj ?_ | refine qaf ?_ | refine qad ?_ | refine SX.block ?_ | refine qaC ?_ | refine qaq rfl ?_ | refine qas rfl ?_ | (refine qao ?_; (refine qac (qai rfl) rfl ?_ ?_ ?_); rfl; rfl) | (refine qal ?_; (refine qac (qag rfl) rfl ?_ ?_ ?_); rfl; rfl) | (refine l_eql ?_; (first | refine qac (qaQ rfl rfl (by omega)) rfl ?_ ?_ ?_ | refine qac (qaP rfl rfl (by omega)) rfl ?_ ?_ ?_); rfl; rfl))
      refine qat ?_
      refine qaB (ξ := Int) (v := fun x : Int => .int .i64 x) rfl rfl rfl (fun x => 0 ≤ x ∧ x < 3000) (fun w hl => below_d B gc w hl.inv 3000 (by decide) (by decide)) (fun z hz => ?_)
      skip
      refine qaN ?_
      refine SXl.lit (cells := [.int .i64 0, .int .i64 64, .int .i64 100, .int .i64 640, .int .i64 1000, .int .i64 33, .int .i64 z]) (z := .int .i64 0) ?_ ?_ rfl (by decide) (by kernel_rfl) rfl (fun gl => ?_)
      rfl; rfl
      skip
      refine qat ?_
      refine qaB (ξ := Int) (v := fun x => .int .i64 x) rfl rfl rfl (fun x => x ∈ ([0, 64, 100, 640, 1000, 33, z] : List Int)) (fun w hl => pick_d (l := [0, 64, 100, 640, 1000, 33, z]) hl (by simp) (by simp)) (fun y hy => ?_)
      refine SXl.drop1 ?_
      have hy2 := hz2 z hz y hy
      repeat (first | refine qaj ?_ | refine qad ?_ | (refine l_build ?_; (refine qac ((OpW.build (vals := [(0, .int .i64 1), (1, .int .i64 y)]) (cells := [.int .i64 1, .int .i64 y]) rfl (by kernel_rfl))) rfl ?_ ?_ ?_); rfl; rfl) | (refine qay ?_; first | ((first | refine qaa 0 ?_ rfl rfl rfl rfl rfl rfl rfl ?_ | refine qaa 1 ?_ rfl rfl rfl rfl rfl rfl rfl ?_ | refine qaa 2 ?_ rfl rfl rfl rfl rfl rfl rfl ?_); rfl; simp only [List.set_cons_zero, List.set_cons_succ]) | ((first | refine qab 0 ?_ rfl rfl rfl rfl rfl rfl rfl ?_ | refine qab 1 ?_ rfl rfl rfl rfl rfl rfl rfl ?_ | refine qab 2 ?_ rfl rfl rfl rfl rfl rfl rfl ?_); rfl; simp only [over, List.set_cons_zero, List.set_cons_succ])) | refine qaA ?_ | refine qax ?_ | refine qaH ?_)
      refine qaK 0 rfl rfl rfl rfl (fun w' hl => ⟨⟨1, y⟩, rfl, (by intro u hu; simp [Val.cells] at hu; rcases hu with rfl | rfl <;> exact cellOk_int ⟨by omega, by omega⟩), hl.mod, hl.inv⟩)
    · repeat (first | refine qan ?_ | refine qaj ?_ | refine qaf ?_ | refine qad ?_ | refine SX.block ?_ | refine qaq rfl ?_ | refine qas rfl ?_ | (refine qao ?_; (refine qac (qai rfl) rfl ?_ ?_ ?_); rfl; rfl) | (refine qal ?_; (refine qac (qag rfl) rfl ?_ ?_ ?_); rfl; rfl) | (refine l_eql ?_; (first | refine qac (qaQ rfl rfl (by omega)) rfl ?_ ?_ ?_ | refine qac (qaP rfl rfl (by omega)) rfl ?_ ?_ ?_); rfl; rfl))
      refine qat ?_
      refine qaB (ξ := Int) (v := fun x : Int => .int .i64 x) rfl rfl rfl (fun x => 0 ≤ x ∧ x < 3000) (fun w hl => below_d B gc w hl.inv 3000 (by decide) (by decide)) (fun z hz => ?_)
      skip
      refine qaN ?_
      refine SXl.lit (cells := [.int .i64 0, .int .i64 64, .int .i64 100, .int .i64 640, .int .i64 1000, .int .i64 33, .int .i64 z]) (z := .int .i64 0) ?_ ?_ rfl (by decide) (by kernel_rfl) rfl (fun gl => ?_)
      rfl; rfl
      skip
      refine qat ?_
      refine qaB (ξ := Int) (v := fun x => .int .i64 x) rfl rfl rfl (fun x => x ∈ ([0, 64, 100, 640, 1000, 33, z] : List Int)) (fun w hl => pick_d (l := [0, 64, 100, 640, 1000, 33, z]) hl (by simp) (by simp)) (fun y hy => ?_)
      refine SXl.drop1 ?_
      have hy2 := hz2 z hz y hy
      repeat (first | refine qaj ?_ | refine qad ?_ | (refine l_build ?_; (refine qac ((OpW.build (vals := [(0, .int .i64 1), (1, .int .i64 y)]) (cells := [.int .i64 1, .int .i64 y]) rfl (by kernel_rfl))) rfl ?_ ?_ ?_); rfl; rfl) | (refine qay ?_; first | ((first | refine qaa 0 ?_ rfl rfl rfl rfl rfl rfl rfl ?_ | refine qaa 1 ?_ rfl rfl rfl rfl rfl rfl rfl ?_ | refine qaa 2 ?_ rfl rfl rfl rfl rfl rfl rfl ?_); rfl; simp only [List.set_cons_zero, List.set_cons_succ]) | ((first | refine qab 0 ?_ rfl rfl rfl rfl rfl rfl rfl ?_ | refine qab 1 ?_ rfl rfl rfl rfl rfl rfl rfl ?_ | refine qab 2 ?_ rfl rfl rfl rfl rfl rfl rfl ?_); rfl; simp only [over, List.set_cons_zero, List.set_cons_succ])) | refine qaA ?_ | refine qax ?_ | refine qaH ?_)
      refine qaK 0 rfl rfl rfl rfl (fun w' hl => ⟨⟨1, y⟩, rfl, (by intro u hu; simp [Val.cells] at hu; rcases hu with rfl | rfl <;> exact cellOk_int ⟨by omega, by omega⟩), hl.mod, hl.inv⟩)
  repeat (first | refine qan ?_ | refine qaj ?_ | refine qaf ?_ | refine qad ?_ | refine SX.block ?_ | refine qaC ?_ | refine qas rfl ?_ | (refine l_build ?_; (refine qac ((OpW.build (vals := []) (cells := [.int .i64 0, .int .i64 0]) rfl (by kernel_rfl))) rfl ?_ ?_ ?_); rfl; rfl) | (refine qal ?_; (refine qac (qag rfl) rfl ?_ ?_ ?_); rfl; rfl) | (refine l_eql ?_; (refine qac (qaP rfl rfl (by omega)) rfl ?_ ?_ ?_); rfl; rfl) | (refine qay ?_; first | ((first | refine qaa 0 ?_ rfl rfl rfl rfl rfl rfl rfl ?_ | refine qaa 1 ?_ rfl rfl rfl rfl rfl rfl rfl ?_ | refine qaa 2 ?_ rfl rfl rfl rfl rfl rfl rfl ?_); rfl; simp only [List.set_cons_zero, List.set_cons_succ]) | ((first | refine qab 0 ?_ rfl rfl rfl rfl rfl rfl rfl ?_ | refine qab 1 ?_ rfl rfl rfl rfl rfl rfl rfl ?_ | refine qab 2 ?_ rfl rfl rfl rfl rfl rfl rfl ?_); rfl; simp only [over, List.set_cons_zero, List.set_cons_succ])) | refine qaA ?_ | refine qar ?_)
  refine qaK 0 rfl rfl rfl rfl (fun w' hl => ⟨⟨0, 0⟩, rfl, (by intro u hu; simp [Val.cells] at hu; rcases hu with rfl | rfl <;> exact cellOk_int ⟨by omega, by omega⟩), hl.mod, hl.inv⟩)

set_option maxRecDepth 100000 in
set_option maxHeartbeats 8000000 in
theorem l04Any_d (B gc : Nat) (w : World) (hc : Cur B 141 w gc) : Calls Try.prog 122 #[.pointer (some ⟨gc, 0, none⟩)] w (DrewV 141 B gc w (fun v : Val => .agg v.cells.toArray) (fun v => AllOk v.cells)) := by
  refine calls_draw (as_ := [.pointer (some ⟨gc, 0, none⟩)]) hc Try.func122 rfl rfl (fun a h1 h2 h3 => ((Fr.nil h1 h2).arg (h3 0 _ rfl))) ?_
  repeat (first | refine qan ?_ | refine qaj ?_ | refine qaf ?_ | refine qad ?_ | (refine qao ?_; (refine qac (qai rfl) rfl ?_ ?_ ?_); rfl; rfl) | (refine qaR ?_; refine SXl.alloc ?_ ?_ (fun g => ?_); rfl; rfl))
  refine qat ?_
  refine qaB (ξ := Val) (v := fun v => .agg v.cells.toArray) rfl rfl rfl (fun v => AllOk v.cells) (fun w hl => l04Value_d B gc w hl.inv) (fun v hv => ?_)
  repeat (first | refine qan ?_ | refine qaj ?_ | refine qaf ?_ | refine qad ?_ | (refine qao ?_; (refine qac (qai rfl) rfl ?_ ?_ ?_); rfl; rfl) | (refine qaR ?_; refine SXl.alloc ?_ ?_ (fun g => ?_); rfl; rfl) | (refine qay ?_; first | ((first | refine qah 0 ?_ rfl rfl rfl rfl rfl rfl ?_ | refine qah 1 ?_ rfl rfl rfl rfl rfl rfl ?_ | refine qah 2 ?_ rfl rfl rfl rfl rfl rfl ?_); rfl; simp only [List.set_cons_zero, List.set_cons_succ]) | ((first | refine qaa 0 ?_ rfl rfl rfl rfl rfl rfl rfl ?_ | refine qaa 1 ?_ rfl rfl rfl rfl rfl rfl rfl ?_ | refine qaa 2 ?_ rfl rfl rfl rfl rfl rfl rfl ?_); rfl; simp only [List.set_cons_zero, List.set_cons_succ]) | ((first | refine qab 0 ?_ rfl rfl rfl rfl rfl rfl rfl ?_ | refine qab 1 ?_ rfl rfl rfl rfl rfl rfl rfl ?_ | refine qab 2 ?_ rfl rfl rfl rfl rfl rfl rfl ?_); rfl; simp only [over, List.set_cons_zero, List.set_cons_succ])))
  refine qat ?_
  refine qaB (ξ := Int) (v := fun x : Int => .int .i64 x) rfl rfl rfl (fun x => 0 ≤ x ∧ x < 10) (fun w hl => below_d B gc w hl.inv 10 (by decide) (by decide)) (fun x hx => ?_)
  have hk : I64 v.kind := hv _ (.head _) _ rfl
  have hn : I64 v.n := hv _ (.tail _ (.head _)) _ rfl
  obtain ⟨k1, k2⟩ := hk
  obtain ⟨n1, n2⟩ := hn
  by_cases h0 : x = 0
  · repeat (first | refine qan ?_ | refine qaj ?_ | refine qaf ?_ | refine qad ?_ | refine SX.block ?_ | refine qaq rfl ?_ | (refine qao ?_; (refine qac (qai rfl) rfl ?_ ?_ ?_); rfl; rfl) | (refine qal ?_; (refine qac (qag rfl) rfl ?_ ?_ ?_); rfl; rfl) | (refine l_eql ?_; (refine qac (qaQ rfl rfl (by omega)) rfl ?_ ?_ ?_); rfl; rfl))
    refine qat ?_
    refine qaB (ξ := Int) (v := fun x : Int => .int .i64 x) rfl rfl rfl (fun x => 0 ≤ x ∧ x < 6) (fun w hl => below_d B gc w hl.inv 6 (by decide) (by decide)) (fun y hy => ?_)
    repeat (first | refine qan ?_ | refine qaj ?_ | refine qaf ?_ | refine qad ?_ | (refine qau ?_; (refine qac (qam 0 rfl rfl rfl) rfl ?_ ?_ ?_); rfl; rfl) | (refine qak ?_; (refine qac (qae rfl) rfl ?_ ?_ ?_); rfl; rfl) | (refine l_sub ?_; (refine qac (OpW.subi rfl rfl (by omega) (by omega)) rfl ?_ ?_ ?_); rfl; rfl) | (refine qay ?_; first | ((first | refine qah 0 ?_ rfl rfl rfl rfl rfl rfl ?_ | refine qah 1 ?_ rfl rfl rfl rfl rfl rfl ?_ | refine qah 2 ?_ rfl rfl rfl rfl rfl rfl ?_); rfl; simp only [List.set_cons_zero, List.set_cons_succ]) | ((first | refine qaa 0 ?_ rfl rfl rfl rfl rfl rfl rfl ?_ | refine qaa 1 ?_ rfl rfl rfl rfl rfl rfl rfl ?_ | refine qaa 2 ?_ rfl rfl rfl rfl rfl rfl rfl ?_); rfl; simp only [List.set_cons_zero, List.set_cons_succ]) | ((first | refine qab 0 ?_ rfl rfl rfl rfl rfl rfl rfl ?_ | refine qab 1 ?_ rfl rfl rfl rfl rfl rfl rfl ?_ | refine qab 2 ?_ rfl rfl rfl rfl rfl rfl rfl ?_); rfl; simp only [over, List.set_cons_zero, List.set_cons_succ])) | refine qaA ?_ | refine qar ?_)
    refine qaK 1 rfl rfl rfl rfl (fun w' hl => ⟨⟨y - 1, v.n⟩, rfl, (by intro u hu; simp [Val.cells] at hu; rcases hu with rfl | rfl <;> exact cellOk_int ⟨by omega, by omega⟩), hl.mod, hl.inv⟩)
  by_cases h1 : x = 1
  · repeat (first | refine qan ?_ | refine qaj ?_ | refine qaf ?_ | refine qad ?_ | refine SX.block ?_ | refine qaq rfl ?_ | refine qas rfl ?_ | (refine qao ?_; (refine qac (qai rfl) rfl ?_ ?_ ?_); rfl; rfl) | (refine qal ?_; (refine qac (qag rfl) rfl ?_ ?_ ?_); rfl; rfl) | (refine l_eql ?_; (first | refine qac (qaQ rfl rfl (by omega)) rfl ?_ ?_ ?_ | refine qac (qaP rfl rfl (by omega)) rfl ?_ ?_ ?_); rfl; rfl))
    refine qat ?_
    refine qaB (ξ := Int) (v := fun x => .int .i64 x) rfl rfl rfl (fun x => I64 x) (fun w hl => l02Int_d B gc w hl.inv) (fun y hy => ?_)
    obtain ⟨y1, y2⟩ := hy
    repeat (first | refine qan ?_ | refine qaj ?_ | refine qaf ?_ | refine qad ?_ | (refine qau ?_; (refine qac (qam 0 rfl rfl rfl) rfl ?_ ?_ ?_); rfl; rfl) | (refine qak ?_; (refine qac (qae rfl) rfl ?_ ?_ ?_); rfl; rfl) | (refine qay ?_; first | ((first | refine qah 0 ?_ rfl rfl rfl rfl rfl rfl ?_ | refine qah 1 ?_ rfl rfl rfl rfl rfl rfl ?_ | refine qah 2 ?_ rfl rfl rfl rfl rfl rfl ?_); rfl; simp only [List.set_cons_zero, List.set_cons_succ]) | ((first | refine qaa 0 ?_ rfl rfl rfl rfl rfl rfl rfl ?_ | refine qaa 1 ?_ rfl rfl rfl rfl rfl rfl rfl ?_ | refine qaa 2 ?_ rfl rfl rfl rfl rfl rfl rfl ?_); rfl; simp only [List.set_cons_zero, List.set_cons_succ]) | ((first | refine qab 0 ?_ rfl rfl rfl rfl rfl rfl rfl ?_ | refine qab 1 ?_ rfl rfl rfl rfl rfl rfl rfl ?_ | refine qab 2 ?_ rfl rfl rfl rfl rfl rfl rfl ?_); rfl; simp only [over, List.set_cons_zero, List.set_cons_succ])) | refine qaA ?_ | refine qar ?_)
    refine qaK 1 rfl rfl rfl rfl (fun w' hl => ⟨⟨v.kind, y⟩, rfl, (by intro u hu; simp [Val.cells] at hu; rcases hu with rfl | rfl <;> exact cellOk_int ⟨by omega, by omega⟩), hl.mod, hl.inv⟩)
  by_cases h2 : x = 2
  · repeat (first | refine qan ?_ | refine qaj ?_ | refine qaf ?_ | refine qad ?_ | refine SX.block ?_ | refine qaq rfl ?_ | refine qas rfl ?_ | (refine l_build ?_; (refine qac ((OpW.build (vals := [(0, .int .i64 3)]) (cells := [.int .i64 3, .int .i64 0]) rfl (by kernel_rfl))) rfl ?_ ?_ ?_); rfl; rfl) | (refine qau ?_; (refine qac (qam 0 rfl rfl rfl) rfl ?_ ?_ ?_); rfl; rfl) | (refine qal ?_; (refine qac (qag rfl) rfl ?_ ?_ ?_); rfl; rfl) | (refine l_eql ?_; (first | refine qac (qaQ rfl rfl (by omega)) rfl ?_ ?_ ?_ | refine qac (qaP rfl rfl (by omega)) rfl ?_ ?_ ?_); rfl; rfl) | (refine qay ?_; first | ((first | refine qah 0 ?_ rfl rfl rfl rfl rfl rfl ?_ | refine qah 1 ?_ rfl rfl rfl rfl rfl rfl ?_ | refine qah 2 ?_ rfl rfl rfl rfl rfl rfl ?_); rfl; simp only [List.set_cons_zero, List.set_cons_succ]) | ((first | refine qaa 0 ?_ rfl rfl rfl rfl rfl rfl rfl ?_ | refine qaa 1 ?_ rfl rfl rfl rfl rfl rfl rfl ?_ | refine qaa 2 ?_ rfl rfl rfl rfl rfl rfl rfl ?_); rfl; simp only [List.set_cons_zero, List.set_cons_succ]) | ((first | refine qab 0 ?_ rfl rfl rfl rfl rfl rfl rfl ?_ | refine qab 1 ?_ rfl rfl rfl rfl rfl rfl rfl ?_ | refine qab 2 ?_ rfl rfl rfl rfl rfl rfl rfl ?_); rfl; simp only [over, List.set_cons_zero, List.set_cons_succ])) | refine qaA ?_ | refine qar ?_)
    refine qaK 1 rfl rfl rfl rfl (fun w' hl => ⟨⟨3, 0⟩, rfl, (by intro u hu; simp [Val.cells] at hu; rcases hu with rfl | rfl <;> exact cellOk_int ⟨by omega, by omega⟩), hl.mod, hl.inv⟩)
  repeat (first | refine qan ?_ | refine qaj ?_ | refine qaf ?_ | refine qad ?_ | refine SX.block ?_ | refine qaC ?_ | refine qas rfl ?_ | (refine qau ?_; (refine qac (qam 0 rfl rfl rfl) rfl ?_ ?_ ?_); rfl; rfl) | (refine qal ?_; (refine qac (qag rfl) rfl ?_ ?_ ?_); rfl; rfl) | (refine l_eql ?_; (refine qac (qaP rfl rfl (by omega)) rfl ?_ ?_ ?_); rfl; rfl) | (refine qay ?_; first | ((first | refine qah 0 ?_ rfl rfl rfl rfl rfl rfl ?_ | refine qah 1 ?_ rfl rfl rfl rfl rfl rfl ?_ | refine qah 2 ?_ rfl rfl rfl rfl rfl rfl ?_); rfl; simp only [List.set_cons_zero, List.set_cons_succ]) | ((first | refine qaa 0 ?_ rfl rfl rfl rfl rfl rfl rfl ?_ | refine qaa 1 ?_ rfl rfl rfl rfl rfl rfl rfl ?_ | refine qaa 2 ?_ rfl rfl rfl rfl rfl rfl rfl ?_); rfl; simp only [List.set_cons_zero, List.set_cons_succ]) | ((first | refine qab 0 ?_ rfl rfl rfl rfl rfl rfl rfl ?_ | refine qab 1 ?_ rfl rfl rfl rfl rfl rfl rfl ?_ | refine qab 2 ?_ rfl rfl rfl rfl rfl rfl rfl ?_); rfl; simp only [over, List.set_cons_zero, List.set_cons_succ])) | refine qaA ?_ | refine qar ?_)
  refine qaK 1 rfl rfl rfl rfl (fun w' hl => ⟨⟨v.kind, v.n⟩, rfl, (by intro u hu; simp [Val.cells] at hu; rcases hu with rfl | rfl <;> exact cellOk_int ⟨by omega, by omega⟩), hl.mod, hl.inv⟩)
end Go.Proofs.Ythffgbhphjkdeaa
namespace Go.Proofs.Ythffgbhphjkdeaa
open Go.RowKit
set_option linter.unusedVariables false
set_option linter.unusedSimpArgs false

/-- A new style. -/
def newStyle : Style := { (default : Style) with dir := 2, wrap := 1, justify := 1, items := 1, content := 2 }
set_option maxRecDepth 100000 in
theorem sstyleNew_any (w : World) : Calls Try.prog 88 #[] w fun e w' => e = .returned (.agg newStyle.cells.toArray) ∧ Mod (fun _ => False) w w' := by
  refine calls_sx Try.func88 rfl rfl (fun a h1 h2 h3 => (Fr.nil h1 h2)) ?_
  repeat (first | refine qan ?_ | refine qaj ?_ | refine qaf ?_ | refine qad ?_ | refine SX.block ?_ | refine qaC ?_ | refine qaq rfl ?_ | refine qas rfl ?_ | (refine l_build ?_; (first | refine qac ((OpW.build (cells := newStyle.cells) rfl (by kernel_rfl))) rfl ?_ ?_ ?_ | refine qac (OpW.build rfl rfl) rfl ?_ ?_ ?_); rfl; rfl) | (refine qaR ?_; refine SXl.alloc ?_ ?_ (fun g => ?_); rfl; rfl) | (refine qay ?_; first | ((first | refine qaa 0 ?_ rfl rfl rfl rfl rfl rfl rfl ?_ | refine qaa 1 ?_ rfl rfl rfl rfl rfl rfl rfl ?_ | refine qaa 2 ?_ rfl rfl rfl rfl rfl rfl rfl ?_); rfl; simp only [List.set_cons_zero, List.set_cons_succ]) | ((first | refine qab 0 ?_ rfl rfl rfl rfl rfl rfl rfl ?_ | refine qab 1 ?_ rfl rfl rfl rfl rfl rfl rfl ?_ | refine qab 2 ?_ rfl rfl rfl rfl rfl rfl rfl ?_); rfl; simp only [over, List.set_cons_zero, List.set_cons_succ])) | refine qaA ?_ | refine SX.exit ?_ | refine qax ?_ | refine qaF ?_ | refine qar ?_ | refine qaH ?_ | refine qaD ?_ | refine SQ.blockOther rfl ?_)
  refine qaK 0 rfl rfl rfl rfl (fun w' hl => ⟨rfl, hl.mod⟩)

end Go.Proofs.Ythffgbhphjkdeaa
namespace Go.Proofs.Ythffgbhphjkdeaa
open Go.RowKit
set_option linter.unusedVariables false
set_option linter.unusedSimpArgs false

set_option maxRecDepth 100000 in
set_option maxHeartbeats 8000000 in
theorem l05Sides_d (B gc : Nat) (w : World) (hc : Cur B 141 w gc) : Calls Try.prog 113 #[.pointer (some ⟨gc, 0, none⟩)] w (DrewV 141 B gc w (fun v : Sides => .agg v.cells.toArray) (fun v => AllOk v.cells)) := by
  refine calls_draw (as_ := [.pointer (some ⟨gc, 0, none⟩)]) hc Try.func113 rfl rfl (fun a h1 h2 h3 => ((Fr.nil h1 h2).arg (h3 0 _ rfl))) ?_
  repeat (first | refine qan ?_ | refine qaj ?_ | refine qaf ?_ | refine qad ?_ | refine SX.block ?_ | (refine l_build ?_; (refine qac ((OpW.build (vals := []) (cells := Sides.cells default) rfl (by kernel_rfl))) rfl ?_ ?_ ?_); rfl; rfl) | (refine qal ?_; (refine qac (qag rfl) rfl ?_ ?_ ?_); rfl; rfl) | (refine qaR ?_; refine SXl.alloc ?_ ?_ (fun g => ?_); rfl; rfl) | (refine qay ?_; first | ((first | refine qaa 0 ?_ rfl rfl rfl rfl rfl rfl rfl ?_ | refine qaa 1 ?_ rfl rfl rfl rfl rfl rfl rfl ?_ | refine qaa 2 ?_ rfl rfl rfl rfl rfl rfl rfl ?_); rfl; simp only [List.set_cons_zero, List.set_cons_succ]) | ((first | refine qab 0 ?_ rfl rfl rfl rfl rfl rfl rfl ?_ | refine qab 1 ?_ rfl rfl rfl rfl rfl rfl rfl ?_ | refine qab 2 ?_ rfl rfl rfl rfl rfl rfl rfl ?_); rfl; simp only [over, List.set_cons_zero, List.set_cons_succ])))
  rename_i g2
  revert g; intro g3
  refine SX.loopi (ι := Nat × Sides) (fun i => i.1 ≤ 3 ∧ AllOk i.2.cells) (fun i => 4 - i.1) (fun i => [⟨g3, i.2.cells, 62⟩, ⟨g2, [.int .i64 0, .int .i64 0, .int .i64 0, .int .i64 0, .int .i64 0, .int .i64 0, .int .i64 0, .int .i64 0, .int .i64 0, .int .i64 0, .int .i64 0, .int .i64 0], 62⟩]) (fun _ => []) (fun _ => []) (fun i => [(0, .pointer (some ⟨gc, 0, none⟩)), (2, .pointer (some ⟨g2, 0, none⟩)), (3, .pointer (some ⟨g3, 0, none⟩)), (4, .int .i64 i.1)]) (0, default) ⟨by simp, allOk_of (by decide)⟩ ?_ (fun _ hl => hl) ?_
  · (repeat (first | exact subF_nil _ | (refine subF_cons rfl ?_) | (refine subF_consv rfl (by rfl) ?_)))
  rintro ⟨i, s⟩ ⟨hi, hs⟩
  simp only at hi hs
  repeat (first | refine qan ?_ | refine qaf ?_ | (refine qao ?_; (refine qac (qai rfl) rfl ?_ ?_ ?_); rfl; rfl))
  refine qat ?_
  refine qaB (ξ := Int) (v := fun x : Int => .int .i64 x) rfl rfl rfl (fun x => 0 ≤ x ∧ x < 4) (fun w hl => below_d B gc w hl.inv 4 (by decide) (by decide)) (fun x hx => ?_)
  by_cases hlt : (i : Int) < x
  rotate_left
  · repeat (first | refine qan ?_ | refine qaj ?_ | refine qaf ?_ | refine qad ?_ | refine qas rfl ?_ | (refine qau ?_; (refine qac (qam 0 rfl rfl rfl) rfl ?_ ?_ ?_); rfl; rfl) | (refine l_lss ?_; (refine qac (OpW.lssF rfl rfl (by omega)) rfl ?_ ?_ ?_); rfl; rfl) | (refine qay ?_; first | ((first | refine qaa 0 ?_ rfl rfl rfl rfl rfl rfl rfl ?_ | refine qaa 1 ?_ rfl rfl rfl rfl rfl rfl rfl ?_ | refine qaa 2 ?_ rfl rfl rfl rfl rfl rfl rfl ?_); rfl; simp only [List.set_cons_zero, List.set_cons_succ]) | ((first | refine qab 0 ?_ rfl rfl rfl rfl rfl rfl rfl ?_ | refine qab 1 ?_ rfl rfl rfl rfl rfl rfl rfl ?_ | refine qab 2 ?_ rfl rfl rfl rfl rfl rfl rfl ?_); rfl; simp only [over, List.set_cons_zero, List.set_cons_succ])) | refine qaA ?_ | refine SX.exit ?_ | refine qaF ?_ | refine qaD ?_)
    refine qaK 1 rfl rfl rfl rfl (fun w' hl => ⟨s, rfl, hs, hl.mod, hl.inv⟩)
  repeat (first | refine qan ?_ | refine qaj ?_ | refine qaf ?_ | refine qad ?_ | refine SX.block ?_ | refine qaC ?_ | refine qaq rfl ?_ | (refine qao ?_; (refine qac (qai rfl) rfl ?_ ?_ ?_); rfl; rfl) | (refine l_lss ?_; (refine qac (OpW.lssT rfl rfl (by omega)) rfl ?_ ?_ ?_); rfl; rfl))
  refine qat ?_
  refine qaB (ξ := Val) (v := fun v => .agg v.cells.toArray) rfl rfl rfl (fun v => AllOk v.cells) (fun w hl => l04Value_d B gc w hl.inv) (fun v hv => ?_)
  repeat (first | refine qan ?_ | refine qaj ?_ | refine qaf ?_ | refine qad ?_ | (refine qao ?_; (refine qac (qai rfl) rfl ?_ ?_ ?_); rfl; rfl) | (refine qaR ?_; refine SXl.alloc ?_ ?_ (fun g => ?_); rfl; rfl) | (refine qay ?_; first | ((first | refine qaa 0 ?_ rfl rfl rfl rfl rfl rfl rfl ?_ | refine qaa 1 ?_ rfl rfl rfl rfl rfl rfl rfl ?_ | refine qaa 2 ?_ rfl rfl rfl rfl rfl rfl rfl ?_); rfl; simp only [List.set_cons_zero, List.set_cons_succ]) | ((first | refine qab 0 ?_ rfl rfl rfl rfl rfl rfl rfl ?_ | refine qab 1 ?_ rfl rfl rfl rfl rfl rfl rfl ?_ | refine qab 2 ?_ rfl rfl rfl rfl rfl rfl rfl ?_); rfl; simp only [over, List.set_cons_zero, List.set_cons_succ])))
  refine qat ?_
  refine qaB (ξ := Bool) (v := fun b => .bool b) rfl rfl rfl (fun _ => True) (fun w hl => once_d B gc w hl.inv 4 (by decide)) (fun b _ => ?_)
  cases b
  · repeat (first | refine qan ?_ | refine qaj ?_ | refine qaf ?_ | refine qad ?_ | refine qaC ?_ | refine qas rfl ?_ | (refine qao ?_; (refine qac (qai rfl) rfl ?_ ?_ ?_); rfl; rfl))
    refine qat ?_
    refine qaB (ξ := Int) (v := fun x : Int => .int .i64 x) rfl rfl rfl (fun x => 0 ≤ x ∧ x < 6) (fun w hl => below_d B gc w hl.inv 6 (by decide) (by decide)) (fun y hy => ?_)
    by_cases h0 : y = 0
    · repeat (first | refine qan ?_ | refine qaj ?_ | refine qaf ?_ | refine qad ?_ | refine SX.block ?_ | refine qaq rfl ?_ | (refine qau ?_; (refine qac (qam 0 rfl rfl rfl) rfl ?_ ?_ ?_); rfl; rfl) | (refine qak ?_; (refine qac (qae rfl) rfl ?_ ?_ ?_); rfl; rfl) | (refine qao ?_; (refine qac (qai rfl) rfl ?_ ?_ ?_); rfl; rfl) | (refine qal ?_; (refine qac (qag rfl) rfl ?_ ?_ ?_); rfl; rfl) | (refine l_add ?_; (refine qac (OpW.succ rfl rfl (by omega)) rfl ?_ ?_ ?_); rfl; rfl) | (refine l_eql ?_; (refine qac (qaQ rfl rfl (by omega)) rfl ?_ ?_ ?_); rfl; rfl) | (refine qay ?_; first | ((first | refine qaa 0 ?_ rfl rfl rfl rfl rfl rfl rfl ?_ | refine qaa 1 ?_ rfl rfl rfl rfl rfl rfl rfl ?_ | refine qaa 2 ?_ rfl rfl rfl rfl rfl rfl rfl ?_); rfl; simp only [List.set_cons_zero, List.set_cons_succ]) | ((first | refine qab 0 ?_ rfl rfl rfl rfl rfl rfl rfl ?_ | refine qab 1 ?_ rfl rfl rfl rfl rfl rfl rfl ?_ | refine qab 2 ?_ rfl rfl rfl rfl rfl rfl rfl ?_); rfl; simp only [over, List.set_cons_zero, List.set_cons_succ])) | refine qar ?_)
      refine SQ.roundi (i + 1, { s with left := v }) ⟨by simp only; omega, AllOk.over (j := 0) hs hv⟩ (by simp only; omega) ?_ (fun _ hl => hl.drop1)
      (repeat (first | exact subF_nil _ | (refine subF_cons rfl ?_) | (refine subF_consv rfl (by rfl) ?_)))
    by_cases h1 : y = 1
    · repeat (first | refine qan ?_ | refine qaj ?_ | refine qaf ?_ | refine qad ?_ | refine SX.block ?_ | refine qaq rfl ?_ | refine qas rfl ?_ | (refine qau ?_; (refine qac (qam 0 rfl rfl rfl) rfl ?_ ?_ ?_); rfl; rfl) | (refine qak ?_; (refine qac (qae rfl) rfl ?_ ?_ ?_); rfl; rfl) | (refine qao ?_; (refine qac (qai rfl) rfl ?_ ?_ ?_); rfl; rfl) | (refine qal ?_; (refine qac (qag rfl) rfl ?_ ?_ ?_); rfl; rfl) | (refine l_add ?_; (refine qac (OpW.succ rfl rfl (by omega)) rfl ?_ ?_ ?_); rfl; rfl) | (refine l_eql ?_; (first | refine qac (qaQ rfl rfl (by omega)) rfl ?_ ?_ ?_ | refine qac (qaP rfl rfl (by omega)) rfl ?_ ?_ ?_); rfl; rfl) | (refine qay ?_; first | ((first | refine qaa 0 ?_ rfl rfl rfl rfl rfl rfl rfl ?_ | refine qaa 1 ?_ rfl rfl rfl rfl rfl rfl rfl ?_ | refine qaa 2 ?_ rfl rfl rfl rfl rfl rfl rfl ?_); rfl; simp only [List.set_cons_zero, List.set_cons_succ]) | ((first | refine qab 0 ?_ rfl rfl rfl rfl rfl rfl rfl ?_ | refine qab 1 ?_ rfl rfl rfl rfl rfl rfl rfl ?_ | refine qab 2 ?_ rfl rfl rfl rfl rfl rfl rfl ?_); rfl; simp only [over, List.set_cons_zero, List.set_cons_succ])) | refine qar ?_)
      refine SQ.roundi (i + 1, { s with top := v }) ⟨by simp only; omega, AllOk.over (j := 2) hs hv⟩ (by simp only; omega) ?_ (fun _ hl => hl.drop1)
      (repeat (first | exact subF_nil _ | (refine subF_cons rfl ?_) | (refine subF_consv rfl (by rfl) ?_)))
    by_cases h2 : y = 2
    · repeat (first | refine qan ?_ | refine qaj ?_ | refine qaf ?_ | refine qad ?_ | refine SX.block ?_ | refine qaq rfl ?_ | refine qas rfl ?_ | (refine qau ?_; (refine qac (qam 0 rfl rfl rfl) rfl ?_ ?_ ?_); rfl; rfl) | (refine qak ?_; (refine qac (qae rfl) rfl ?_ ?_ ?_); rfl; rfl) | (refine qao ?_; (refine qac (qai rfl) rfl ?_ ?_ ?_); rfl; rfl) | (refine qal ?_; (refine qac (qag rfl) rfl ?_ ?_ ?_); rfl; rfl) | (refine l_add ?_; (refine qac (OpW.succ rfl rfl (by omega)) rfl ?_ ?_ ?_); rfl; rfl) | (refine l_eql ?_; (first | refine qac (qaQ rfl rfl (by omega)) rfl ?_ ?_ ?_ | refine qac (qaP rfl rfl (by omega)) rfl ?_ ?_ ?_); rfl; rfl) | (refine qay ?_; first | ((first | refine qaa 0 ?_ rfl rfl rfl rfl rfl rfl rfl ?_ | refine qaa 1 ?_ rfl rfl rfl rfl rfl rfl rfl ?_ | refine qaa 2 ?_ rfl rfl rfl rfl rfl rfl rfl ?_); rfl; simp only [List.set_cons_zero, List.set_cons_succ]) | ((first | refine qab 0 ?_ rfl rfl rfl rfl rfl rfl rfl ?_ | refine qab 1 ?_ rfl rfl rfl rfl rfl rfl rfl ?_ | refine qab 2 ?_ rfl rfl rfl rfl rfl rfl rfl ?_); rfl; simp only [over, List.set_cons_zero, List.set_cons_succ])) | refine qar ?_)
      refine SQ.roundi (i + 1, { s with right := v }) ⟨by simp only; omega, AllOk.over (j := 4) hs hv⟩ (by simp only; omega) ?_ (fun _ hl => hl.drop1)
      (repeat (first | exact subF_nil _ | (refine subF_cons rfl ?_) | (refine subF_consv rfl (by rfl) ?_)))
    by_cases h3 : y = 3
    · repeat (first | refine qan ?_ | refine qaj ?_ | refine qaf ?_ | refine qad ?_ | refine SX.block ?_ | refine qaq rfl ?_ | refine qas rfl ?_ | (refine qau ?_; (refine qac (qam 0 rfl rfl rfl) rfl ?_ ?_ ?_); rfl; rfl) | (refine qak ?_; (refine qac (qae rfl) rfl ?_ ?_ ?_); rfl; rfl) | (refine qao ?_; (refine qac (qai rfl) rfl ?_ ?_ ?_); rfl; rfl) | (refine qal ?_; (refine qac (qag rfl) rfl ?_ ?_ ?_); rfl; rfl) | (refine l_add ?_; (refine qac (OpW.succ rfl rfl (by omega)) rfl ?_ ?_ ?_); rfl; rfl) | (refine l_eql ?_; (first | refine qac (qaQ rfl rfl (by omega)) rfl ?_ ?_ ?_ | refine qac (qaP rfl rfl (by omega)) rfl ?_ ?_ ?_); rfl; rfl) | (refine qay ?_; first | ((first | refine qaa 0 ?_ rfl rfl rfl rfl rfl rfl rfl ?_ | refine qaa 1 ?_ rfl rfl rfl rfl rfl rfl rfl ?_ | refine qaa 2 ?_ rfl rfl rfl rfl rfl rfl rfl ?_); rfl; simp only [List.set_cons_zero, List.set_cons_succ]) | ((first | refine qab 0 ?_ rfl rfl rfl rfl rfl rfl rfl ?_ | refine qab 1 ?_ rfl rfl rfl rfl rfl rfl rfl ?_ | refine qab 2 ?_ rfl rfl rfl rfl rfl rfl rfl ?_); rfl; simp only [over, List.set_cons_zero, List.set_cons_succ])) | refine qar ?_)
      refine SQ.roundi (i + 1, { s with bottom := v }) ⟨by simp only; omega, AllOk.over (j := 6) hs hv⟩ (by simp only; omega) ?_ (fun _ hl => hl.drop1)
      (repeat (first | exact subF_nil _ | (refine subF_cons rfl ?_) | (refine subF_consv rfl (by rfl) ?_)))
    by_cases h4 : y = 4
    · repeat (first | refine qan ?_ | refine qaj ?_ | refine qaf ?_ | refine qad ?_ | refine SX.block ?_ | refine qaq rfl ?_ | refine qas rfl ?_ | (refine qau ?_; (refine qac (qam 0 rfl rfl rfl) rfl ?_ ?_ ?_); rfl; rfl) | (refine qak ?_; (refine qac (qae rfl) rfl ?_ ?_ ?_); rfl; rfl) | (refine qao ?_; (refine qac (qai rfl) rfl ?_ ?_ ?_); rfl; rfl) | (refine qal ?_; (refine qac (qag rfl) rfl ?_ ?_ ?_); rfl; rfl) | (refine l_add ?_; (refine qac (OpW.succ rfl rfl (by omega)) rfl ?_ ?_ ?_); rfl; rfl) | (refine l_eql ?_; (first | refine qac (qaQ rfl rfl (by omega)) rfl ?_ ?_ ?_ | refine qac (qaP rfl rfl (by omega)) rfl ?_ ?_ ?_); rfl; rfl) | (refine qay ?_; first | ((first | refine qaa 0 ?_ rfl rfl rfl rfl rfl rfl rfl ?_ | refine qaa 1 ?_ rfl rfl rfl rfl rfl rfl rfl ?_ | refine qaa 2 ?_ rfl rfl rfl rfl rfl rfl rfl ?_); rfl; simp only [List.set_cons_zero, List.set_cons_succ]) | ((first | refine qab 0 ?_ rfl rfl rfl rfl rfl rfl rfl ?_ | refine qab 1 ?_ rfl rfl rfl rfl rfl rfl rfl ?_ | refine qab 2 ?_ rfl rfl rfl rfl rfl rfl rfl ?_); rfl; simp only [over, List.set_cons_zero, List.set_cons_succ])) | refine qar ?_)
      refine SQ.roundi (i + 1, { s with start := v }) ⟨by simp only; omega, AllOk.over (j := 8) hs hv⟩ (by simp only; omega) ?_ (fun _ hl => hl.drop1)
      (repeat (first | exact subF_nil _ | (refine subF_cons rfl ?_) | (refine subF_consv rfl (by rfl) ?_)))
    repeat (first | refine qan ?_ | refine qaj ?_ | refine qaf ?_ | refine qad ?_ | refine SX.block ?_ | refine qas rfl ?_ | (refine qau ?_; (refine qac (qam 0 rfl rfl rfl) rfl ?_ ?_ ?_); rfl; rfl) | (refine qak ?_; (refine qac (qae rfl) rfl ?_ ?_ ?_); rfl; rfl) | (refine qao ?_; (refine qac (qai rfl) rfl ?_ ?_ ?_); rfl; rfl) | (refine qal ?_; (refine qac (qag rfl) rfl ?_ ?_ ?_); rfl; rfl) | (refine l_add ?_; (refine qac (OpW.succ rfl rfl (by omega)) rfl ?_ ?_ ?_); rfl; rfl) | (refine l_eql ?_; (refine qac (qaP rfl rfl (by omega)) rfl ?_ ?_ ?_); rfl; rfl) | (refine qay ?_; first | ((first | refine qaa 0 ?_ rfl rfl rfl rfl rfl rfl rfl ?_ | refine qaa 1 ?_ rfl rfl rfl rfl rfl rfl rfl ?_ | refine qaa 2 ?_ rfl rfl rfl rfl rfl rfl rfl ?_); rfl; simp only [List.set_cons_zero, List.set_cons_succ]) | ((first | refine qab 0 ?_ rfl rfl rfl rfl rfl rfl rfl ?_ | refine qab 1 ?_ rfl rfl rfl rfl rfl rfl rfl ?_ | refine qab 2 ?_ rfl rfl rfl rfl rfl rfl rfl ?_); rfl; simp only [over, List.set_cons_zero, List.set_cons_succ])) | refine qar ?_)
    refine SQ.roundi (i + 1, { s with stop := v }) ⟨by simp only; omega, AllOk.over (j := 10) hs hv⟩ (by simp only; omega) ?_ (fun _ hl => hl.drop1)
    (repeat (first | exact subF_nil _ | (refine subF_cons rfl ?_) | (refine subF_consv rfl (by rfl) ?_)))
  · repeat (first | refine qan ?_ | refine qaj ?_ | refine qaf ?_ | refine qad ?_ | refine qaq rfl ?_ | (refine l_build ?_; (refine qac ((OpW.build (vals := [(0, .int .i64 3)]) (cells := Val.cells ⟨3, 0⟩) rfl (by kernel_rfl))) rfl ?_ ?_ ?_); rfl; rfl) | (refine qao ?_; (refine qac (qai rfl) rfl ?_ ?_ ?_); rfl; rfl) | (refine qay ?_; first | ((first | refine qaa 0 ?_ rfl rfl rfl rfl rfl rfl rfl ?_ | refine qaa 1 ?_ rfl rfl rfl rfl rfl rfl rfl ?_ | refine qaa 2 ?_ rfl rfl rfl rfl rfl rfl rfl ?_); rfl; simp only [List.set_cons_zero, List.set_cons_succ]) | ((first | refine qab 0 ?_ rfl rfl rfl rfl rfl rfl rfl ?_ | refine qab 1 ?_ rfl rfl rfl rfl rfl rfl rfl ?_ | refine qab 2 ?_ rfl rfl rfl rfl rfl rfl rfl ?_); rfl; simp only [over, List.set_cons_zero, List.set_cons_succ])))
    refine qat ?_
    refine qaB (ξ := Int) (v := fun x : Int => .int .i64 x) rfl rfl rfl (fun x => 0 ≤ x ∧ x < 6) (fun w hl => below_d B gc w hl.inv 6 (by decide) (by decide)) (fun y hy => ?_)
    by_cases h0 : y = 0
    · repeat (first | refine qan ?_ | refine qaj ?_ | refine qaf ?_ | refine qad ?_ | refine SX.block ?_ | refine qaq rfl ?_ | (refine qau ?_; (refine qac (qam 0 rfl rfl rfl) rfl ?_ ?_ ?_); rfl; rfl) | (refine qak ?_; (refine qac (qae rfl) rfl ?_ ?_ ?_); rfl; rfl) | (refine qao ?_; (refine qac (qai rfl) rfl ?_ ?_ ?_); rfl; rfl) | (refine qal ?_; (refine qac (qag rfl) rfl ?_ ?_ ?_); rfl; rfl) | (refine l_add ?_; (refine qac (OpW.succ rfl rfl (by omega)) rfl ?_ ?_ ?_); rfl; rfl) | (refine l_eql ?_; (refine qac (qaQ rfl rfl (by omega)) rfl ?_ ?_ ?_); rfl; rfl) | (refine qay ?_; first | ((first | refine qaa 0 ?_ rfl rfl rfl rfl rfl rfl rfl ?_ | refine qaa 1 ?_ rfl rfl rfl rfl rfl rfl rfl ?_ | refine qaa 2 ?_ rfl rfl rfl rfl rfl rfl rfl ?_); rfl; simp only [List.set_cons_zero, List.set_cons_succ]) | ((first | refine qab 0 ?_ rfl rfl rfl rfl rfl rfl rfl ?_ | refine qab 1 ?_ rfl rfl rfl rfl rfl rfl rfl ?_ | refine qab 2 ?_ rfl rfl rfl rfl rfl rfl rfl ?_); rfl; simp only [over, List.set_cons_zero, List.set_cons_succ])) | refine qar ?_)
      refine SQ.roundi (i + 1, { s with left := ⟨3, 0⟩ }) ⟨by simp only; omega, AllOk.over (j := 0) hs (allOk_of (c := Val.cells ⟨3, 0⟩) (by decide))⟩ (by simp only; omega) ?_ (fun _ hl => hl.drop1)
      (repeat (first | exact subF_nil _ | (refine subF_cons rfl ?_) | (refine subF_consv rfl (by rfl) ?_)))
    by_cases h1 : y = 1
    · repeat (first | refine qan ?_ | refine qaj ?_ | refine qaf ?_ | refine qad ?_ | refine SX.block ?_ | refine qaq rfl ?_ | refine qas rfl ?_ | (refine qau ?_; (refine qac (qam 0 rfl rfl rfl) rfl ?_ ?_ ?_); rfl; rfl) | (refine qak ?_; (refine qac (qae rfl) rfl ?_ ?_ ?_); rfl; rfl) | (refine qao ?_; (refine qac (qai rfl) rfl ?_ ?_ ?_); rfl; rfl) | (refine qal ?_; (refine qac (qag rfl) rfl ?_ ?_ ?_); rfl; rfl) | (refine l_add ?_; (refine qac (OpW.succ rfl rfl (by omega)) rfl ?_ ?_ ?_); rfl; rfl) | (refine l_eql ?_; (first | refine qac (qaQ rfl rfl (by omega)) rfl ?_ ?_ ?_ | refine qac (qaP rfl rfl (by omega)) rfl ?_ ?_ ?_); rfl; rfl) | (refine qay ?_; first | ((first | refine qaa 0 ?_ rfl rfl rfl rfl rfl rfl rfl ?_ | refine qaa 1 ?_ rfl rfl rfl rfl rfl rfl rfl ?_ | refine qaa 2 ?_ rfl rfl rfl rfl rfl rfl rfl ?_); rfl; simp only [List.set_cons_zero, List.set_cons_succ]) | ((first | refine qab 0 ?_ rfl rfl rfl rfl rfl rfl rfl ?_ | refine qab 1 ?_ rfl rfl rfl rfl rfl rfl rfl ?_ | refine qab 2 ?_ rfl rfl rfl rfl rfl rfl rfl ?_); rfl; simp only [over, List.set_cons_zero, List.set_cons_succ])) | refine qar ?_)
      refine SQ.roundi (i + 1, { s with top := ⟨3, 0⟩ }) ⟨by simp only; omega, AllOk.over (j := 2) hs (allOk_of (c := Val.cells ⟨3, 0⟩) (by decide))⟩ (by simp only; omega) ?_ (fun _ hl => hl.drop1)
      (repeat (first | exact subF_nil _ | (refine subF_cons rfl ?_) | (refine subF_consv rfl (by rfl) ?_)))
    by_cases h2 : y = 2
    · repeat (first | refine qan ?_ | refine qaj ?_ | refine qaf ?_ | refine qad ?_ | refine SX.block ?_ | refine qaq rfl ?_ | refine qas rfl ?_ | (refine qau ?_; (refine qac (qam 0 rfl rfl rfl) rfl ?_ ?_ ?_); rfl; rfl) | (refine qak ?_; (refine qac (qae rfl) rfl ?_ ?_ ?_); rfl; rfl) | (refine qao ?_; (refine qac (qai rfl) rfl ?_ ?_ ?_); rfl; rfl) | (refine qal ?_; (refine qac (qag rfl) rfl ?_ ?_ ?_); rfl; rfl) | (refine l_add ?_; (refine qac (OpW.succ rfl rfl (by omega)) rfl ?_ ?_ ?_); rfl; rfl) | (refine l_eql ?_; (first | refine qac (qaQ rfl rfl (by omega)) rfl ?_ ?_ ?_ | refine qac (qaP rfl rfl (by omega)) rfl ?_ ?_ ?_); rfl; rfl) | (refine qay ?_; first | ((first | refine qaa 0 ?_ rfl rfl rfl rfl rfl rfl rfl ?_ | refine qaa 1 ?_ rfl rfl rfl rfl rfl rfl rfl ?_ | refine qaa 2 ?_ rfl rfl rfl rfl rfl rfl rfl ?_); rfl; simp only [List.set_cons_zero, List.set_cons_succ]) | ((first | refine qab 0 ?_ rfl rfl rfl rfl rfl rfl rfl ?_ | refine qab 1 ?_ rfl rfl rfl rfl rfl rfl rfl ?_ | refine qab 2 ?_ rfl rfl rfl rfl rfl rfl rfl ?_); rfl; simp only [over, List.set_cons_zero, List.set_cons_succ])) | refine qar ?_)
      refine SQ.roundi (i + 1, { s with right := ⟨3, 0⟩ }) ⟨by simp only; omega, AllOk.over (j := 4) hs (allOk_of (c := Val.cells ⟨3, 0⟩) (by decide))⟩ (by simp only; omega) ?_ (fun _ hl => hl.drop1)
      (repeat (first | exact subF_nil _ | (refine subF_cons rfl ?_) | (refine subF_consv rfl (by rfl) ?_)))
    by_cases h3 : y = 3
    · repeat (first | refine qan ?_ | refine qaj ?_ | refine qaf ?_ | refine qad ?_ | refine SX.block ?_ | refine qaq rfl ?_ | refine qas rfl ?_ | (refine qau ?_; (refine qac (qam 0 rfl rfl rfl) rfl ?_ ?_ ?_); rfl; rfl) | (refine qak ?_; (refine qac (qae rfl) rfl ?_ ?_ ?_); rfl; rfl) | (refine qao ?_; (refine qac (qai rfl) rfl ?_ ?_ ?_); rfl; rfl) | (refine qal ?_; (refine qac (qag rfl) rfl ?_ ?_ ?_); rfl; rfl) | (refine l_add ?_; (refine qac (OpW.succ rfl rfl (by omega)) rfl ?_ ?_ ?_); rfl; rfl) | (refine l_eql ?_; (first | refine qac (qaQ rfl rfl (by omega)) rfl ?_ ?_ ?_ | refine qac (qaP rfl rfl (by omega)) rfl ?_ ?_ ?_); rfl; rfl) | (refine qay ?_; first | ((first | refine qaa 0 ?_ rfl rfl rfl rfl rfl rfl rfl ?_ | refine qaa 1 ?_ rfl rfl rfl rfl rfl rfl rfl ?_ | refine qaa 2 ?_ rfl rfl rfl rfl rfl rfl rfl ?_); rfl; simp only [List.set_cons_zero, List.set_cons_succ]) | ((first | refine qab 0 ?_ rfl rfl rfl rfl rfl rfl rfl ?_ | refine qab 1 ?_ rfl rfl rfl rfl rfl rfl rfl ?_ | refine qab 2 ?_ rfl rfl rfl rfl rfl rfl rfl ?_); rfl; simp only [over, List.set_cons_zero, List.set_cons_succ])) | refine qar ?_)
      refine SQ.roundi (i + 1, { s with bottom := ⟨3, 0⟩ }) ⟨by simp only; omega, AllOk.over (j := 6) hs (allOk_of (c := Val.cells ⟨3, 0⟩) (by decide))⟩ (by simp only; omega) ?_ (fun _ hl => hl.drop1)
      (repeat (first | exact subF_nil _ | (refine subF_cons rfl ?_) | (refine subF_consv rfl (by rfl) ?_)))
    by_cases h4 : y = 4
    · repeat (first | refine qan ?_ | refine qaj ?_ | refine qaf ?_ | refine qad ?_ | refine SX.block ?_ | refine qaq rfl ?_ | refine qas rfl ?_ | (refine qau ?_; (refine qac (qam 0 rfl rfl rfl) rfl ?_ ?_ ?_); rfl; rfl) | (refine qak ?_; (refine qac (qae rfl) rfl ?_ ?_ ?_); rfl; rfl) | (refine qao ?_; (refine qac (qai rfl) rfl ?_ ?_ ?_); rfl; rfl) | (refine qal ?_; (refine qac (qag rfl) rfl ?_ ?_ ?_); rfl; rfl) | (refine l_add ?_; (refine qac (OpW.succ rfl rfl (by omega)) rfl ?_ ?_ ?_); rfl; rfl) | (refine l_eql ?_; (first | refine qac (qaQ rfl rfl (by omega)) rfl ?_ ?_ ?_ | refine qac (qaP rfl rfl (by omega)) rfl ?_ ?_ ?_); rfl; rfl) | (refine qay ?_; first | ((first | refine qaa 0 ?_ rfl rfl rfl rfl rfl rfl rfl ?_ | refine qaa 1 ?_ rfl rfl rfl rfl rfl rfl rfl ?_ | refine qaa 2 ?_ rfl rfl rfl rfl rfl rfl rfl ?_); rfl; simp only [List.set_cons_zero, List.set_cons_succ]) | ((first | refine qab 0 ?_ rfl rfl rfl rfl rfl rfl rfl ?_ | refine qab 1 ?_ rfl rfl rfl rfl rfl rfl rfl ?_ | refine qab 2 ?_ rfl rfl rfl rfl rfl rfl rfl ?_); rfl; simp only [over, List.set_cons_zero, List.set_cons_succ])) | refine qar ?_)
      refine SQ.roundi (i + 1, { s with start := ⟨3, 0⟩ }) ⟨by simp only; omega, AllOk.over (j := 8) hs (allOk_of (c := Val.cells ⟨3, 0⟩) (by decide))⟩ (by simp only; omega) ?_ (fun _ hl => hl.drop1)
      (repeat (first | exact subF_nil _ | (refine subF_cons rfl ?_) | (refine subF_consv rfl (by rfl) ?_)))
    repeat (first | refine qan ?_ | refine qaj ?_ | refine qaf ?_ | refine qad ?_ | refine SX.block ?_ | refine qas rfl ?_ | (refine qau ?_; (refine qac (qam 0 rfl rfl rfl) rfl ?_ ?_ ?_); rfl; rfl) | (refine qak ?_; (refine qac (qae rfl) rfl ?_ ?_ ?_); rfl; rfl) | (refine qao ?_; (refine qac (qai rfl) rfl ?_ ?_ ?_); rfl; rfl) | (refine qal ?_; (refine qac (qag rfl) rfl ?_ ?_ ?_); rfl; rfl) | (refine l_add ?_; (refine qac (OpW.succ rfl rfl (by omega)) rfl ?_ ?_ ?_); rfl; rfl) | (refine l_eql ?_; (refine qac (qaP rfl rfl (by omega)) rfl ?_ ?_ ?_); rfl; rfl) | (refine qay ?_; first | ((first | refine qaa 0 ?_ rfl rfl rfl rfl rfl rfl rfl ?_ | refine qaa 1 ?_ rfl rfl rfl rfl rfl rfl rfl ?_ | refine qaa 2 ?_ rfl rfl rfl rfl rfl rfl rfl ?_); rfl; simp only [List.set_cons_zero, List.set_cons_succ]) | ((first | refine qab 0 ?_ rfl rfl rfl rfl rfl rfl rfl ?_ | refine qab 1 ?_ rfl rfl rfl rfl rfl rfl rfl ?_ | refine qab 2 ?_ rfl rfl rfl rfl rfl rfl rfl ?_); rfl; simp only [over, List.set_cons_zero, List.set_cons_succ])) | refine qar ?_)
    refine SQ.roundi (i + 1, { s with stop := ⟨3, 0⟩ }) ⟨by simp only; omega, AllOk.over (j := 10) hs (allOk_of (c := Val.cells ⟨3, 0⟩) (by decide))⟩ (by simp only; omega) ?_ (fun _ hl => hl.drop1)
    (repeat (first | exact subF_nil _ | (refine subF_cons rfl ?_) | (refine subF_consv rfl (by rfl) ?_)))

set_option maxRecDepth 100000 in
set_option maxHeartbeats 8000000 in
theorem l05Any_d (B gc : Nat) (w : World) (hc : Cur B 141 w gc) : Calls Try.prog 123 #[.pointer (some ⟨gc, 0, none⟩)] w (DrewV 141 B gc w (fun v : Sides => .agg v.cells.toArray) (fun v => AllOk v.cells)) := by
  refine calls_draw (as_ := [.pointer (some ⟨gc, 0, none⟩)]) hc Try.func123 rfl rfl (fun a h1 h2 h3 => ((Fr.nil h1 h2).arg (h3 0 _ rfl))) ?_
  repeat (first | refine qan ?_ | refine qaj ?_ | refine qaf ?_ | refine qad ?_ | (refine qao ?_; (refine qac (qai rfl) rfl ?_ ?_ ?_); rfl; rfl) | (refine qaR ?_; refine SXl.alloc ?_ ?_ (fun g => ?_); rfl; rfl))
  refine qat ?_
  refine qaB (ξ := Sides) (v := fun v => .agg v.cells.toArray) rfl rfl rfl (fun v => AllOk v.cells) (fun w hl => l05Sides_d B gc w hl.inv) (fun s hs => ?_)
  repeat (first | refine qan ?_ | refine qaj ?_ | refine qaf ?_ | refine qad ?_ | (refine qao ?_; (refine qac (qai rfl) rfl ?_ ?_ ?_); rfl; rfl) | (refine qaR ?_; refine SXl.alloc ?_ ?_ (fun g => ?_); rfl; rfl) | (refine qay ?_; first | ((first | refine qaa 0 ?_ rfl rfl rfl rfl rfl rfl rfl ?_ | refine qaa 1 ?_ rfl rfl rfl rfl rfl rfl rfl ?_ | refine qaa 2 ?_ rfl rfl rfl rfl rfl rfl rfl ?_); rfl; simp only [List.set_cons_zero, List.set_cons_succ]) | ((first | refine qab 0 ?_ rfl rfl rfl rfl rfl rfl rfl ?_ | refine qab 1 ?_ rfl rfl rfl rfl rfl rfl rfl ?_ | refine qab 2 ?_ rfl rfl rfl rfl rfl rfl rfl ?_); rfl; simp only [over, List.set_cons_zero, List.set_cons_succ])))
  refine qat ?_
  refine qaB (ξ := Bool) (v := fun b => .bool b) rfl rfl rfl (fun _ => True) (fun w hl => once_d B gc w hl.inv 8 (by decide)) (fun b1 _ => ?_)
  cases b1
  · repeat (first | refine qan ?_ | refine qaj ?_ | refine qaf ?_ | refine qad ?_ | refine qaC ?_ | refine qas rfl ?_ | (refine qao ?_; (refine qac (qai rfl) rfl ?_ ?_ ?_); rfl; rfl))
    refine qat ?_
    refine qaB (ξ := Bool) (v := fun b => .bool b) rfl rfl rfl (fun _ => True) (fun w hl => once_d B gc w hl.inv 8 (by decide)) (fun b2 _ => ?_)
    cases b2
    · repeat (first | refine qan ?_ | refine qaj ?_ | refine qaf ?_ | refine qad ?_ | refine qaC ?_ | refine qas rfl ?_ | (refine qau ?_; (refine qac (qam 0 rfl rfl rfl) rfl ?_ ?_ ?_); rfl; rfl) | (refine qay ?_; first | ((first | refine qaa 0 ?_ rfl rfl rfl rfl rfl rfl rfl ?_ | refine qaa 1 ?_ rfl rfl rfl rfl rfl rfl rfl ?_ | refine qaa 2 ?_ rfl rfl rfl rfl rfl rfl rfl ?_); rfl; simp only [List.set_cons_zero, List.set_cons_succ]) | ((first | refine qab 0 ?_ rfl rfl rfl rfl rfl rfl rfl ?_ | refine qab 1 ?_ rfl rfl rfl rfl rfl rfl rfl ?_ | refine qab 2 ?_ rfl rfl rfl rfl rfl rfl rfl ?_); rfl; simp only [over, List.set_cons_zero, List.set_cons_succ])) | refine qaA ?_)
      refine qaK 1 rfl rfl rfl rfl (fun w' hl => ⟨s, rfl, hs, hl.mod, hl.inv⟩)
    · repeat (first | refine qaj ?_ | refine qaf ?_ | refine qad ?_ | refine qaq rfl ?_ | (refine qao ?_; (refine qac (qai rfl) rfl ?_ ?_ ?_); rfl; rfl))
      refine qat ?_
      refine qaB (ξ := Val) (v := fun v => .agg v.cells.toArray) rfl rfl rfl (fun v => AllOk v.cells) (fun w hl => l04Any_d B gc w hl.inv) (fun v2 hv2 => ?_)
      repeat (first | refine qan ?_ | refine qaj ?_ | refine qaf ?_ | refine qad ?_ | (refine qau ?_; (refine qac (qam 0 rfl rfl rfl) rfl ?_ ?_ ?_); rfl; rfl) | (refine qak ?_; (refine qac (qae rfl) rfl ?_ ?_ ?_); rfl; rfl) | (refine qay ?_; first | ((first | refine qaa 0 ?_ rfl rfl rfl rfl rfl rfl rfl ?_ | refine qaa 1 ?_ rfl rfl rfl rfl rfl rfl rfl ?_ | refine qaa 2 ?_ rfl rfl rfl rfl rfl rfl rfl ?_); rfl; simp only [List.set_cons_zero, List.set_cons_succ]) | ((first | refine qab 0 ?_ rfl rfl rfl rfl rfl rfl rfl ?_ | refine qab 1 ?_ rfl rfl rfl rfl rfl rfl rfl ?_ | refine qab 2 ?_ rfl rfl rfl rfl rfl rfl rfl ?_); rfl; simp only [over, List.set_cons_zero, List.set_cons_succ])) | refine qaA ?_)
      refine qaK 1 rfl rfl rfl rfl (fun w' hl => ⟨{ s with start := v2 }, rfl, AllOk.over (j := 8) hs hv2, hl.mod, hl.inv⟩)
  · repeat (first | refine qaj ?_ | refine qaf ?_ | refine qad ?_ | refine qaq rfl ?_ | (refine qao ?_; (refine qac (qai rfl) rfl ?_ ?_ ?_); rfl; rfl))
    refine qat ?_
    refine qaB (ξ := Val) (v := fun v => .agg v.cells.toArray) rfl rfl rfl (fun v => AllOk v.cells) (fun w hl => l04Any_d B gc w hl.inv) (fun v1 hv1 => ?_)
    repeat (first | refine qan ?_ | refine qaj ?_ | refine qaf ?_ | refine qad ?_ | (refine qak ?_; (refine qac (qae rfl) rfl ?_ ?_ ?_); rfl; rfl) | (refine qao ?_; (refine qac (qai rfl) rfl ?_ ?_ ?_); rfl; rfl) | (refine qay ?_; first | ((first | refine qaa 0 ?_ rfl rfl rfl rfl rfl rfl rfl ?_ | refine qaa 1 ?_ rfl rfl rfl rfl rfl rfl rfl ?_ | refine qaa 2 ?_ rfl rfl rfl rfl rfl rfl rfl ?_); rfl; simp only [List.set_cons_zero, List.set_cons_succ]) | ((first | refine qab 0 ?_ rfl rfl rfl rfl rfl rfl rfl ?_ | refine qab 1 ?_ rfl rfl rfl rfl rfl rfl rfl ?_ | refine qab 2 ?_ rfl rfl rfl rfl rfl rfl rfl ?_); rfl; simp only [over, List.set_cons_zero, List.set_cons_succ])))
    refine qat ?_
    refine qaB (ξ := Bool) (v := fun b => .bool b) rfl rfl rfl (fun _ => True) (fun w hl => once_d B gc w hl.inv 8 (by decide)) (fun b2 _ => ?_)
    cases b2
    · repeat (first | refine qan ?_ | refine qaj ?_ | refine qaf ?_ | refine qad ?_ | refine qaC ?_ | refine qas rfl ?_ | (refine qau ?_; (refine qac (qam 0 rfl rfl rfl) rfl ?_ ?_ ?_); rfl; rfl) | (refine qay ?_; first | ((first | refine qaa 0 ?_ rfl rfl rfl rfl rfl rfl rfl ?_ | refine qaa 1 ?_ rfl rfl rfl rfl rfl rfl rfl ?_ | refine qaa 2 ?_ rfl rfl rfl rfl rfl rfl rfl ?_); rfl; simp only [List.set_cons_zero, List.set_cons_succ]) | ((first | refine qab 0 ?_ rfl rfl rfl rfl rfl rfl rfl ?_ | refine qab 1 ?_ rfl rfl rfl rfl rfl rfl rfl ?_ | refine qab 2 ?_ rfl rfl rfl rfl rfl rfl rfl ?_); rfl; simp only [over, List.set_cons_zero, List.set_cons_succ])) | refine qaA ?_)
      refine qaK 1 rfl rfl rfl rfl (fun w' hl => ⟨{ s with top := v1 }, rfl, (AllOk.over (j := 2) hs hv1), hl.mod, hl.inv⟩)
    · repeat (first | refine qaj ?_ | refine qaf ?_ | refine qad ?_ | refine qaq rfl ?_ | (refine qao ?_; (refine qac (qai rfl) rfl ?_ ?_ ?_); rfl; rfl))
      refine qat ?_
      refine qaB (ξ := Val) (v := fun v => .agg v.cells.toArray) rfl rfl rfl (fun v => AllOk v.cells) (fun w hl => l04Any_d B gc w hl.inv) (fun v2 hv2 => ?_)
      repeat (first | refine qan ?_ | refine qaj ?_ | refine qaf ?_ | refine qad ?_ | (refine qau ?_; (refine qac (qam 0 rfl rfl rfl) rfl ?_ ?_ ?_); rfl; rfl) | (refine qak ?_; (refine qac (qae rfl) rfl ?_ ?_ ?_); rfl; rfl) | (refine qay ?_; first | ((first | refine qaa 0 ?_ rfl rfl rfl rfl rfl rfl rfl ?_ | refine qaa 1 ?_ rfl rfl rfl rfl rfl rfl rfl ?_ | refine qaa 2 ?_ rfl rfl rfl rfl rfl rfl rfl ?_); rfl; simp only [List.set_cons_zero, List.set_cons_succ]) | ((first | refine qab 0 ?_ rfl rfl rfl rfl rfl rfl rfl ?_ | refine qab 1 ?_ rfl rfl rfl rfl rfl rfl rfl ?_ | refine qab 2 ?_ rfl rfl rfl rfl rfl rfl rfl ?_); rfl; simp only [over, List.set_cons_zero, List.set_cons_succ])) | refine qaA ?_)
      refine qaK 1 rfl rfl rfl rfl (fun w' hl => ⟨{ s with top := v1, start := v2 }, rfl, AllOk.over (j := 8) (AllOk.over (j := 2) hs hv1) hv2, hl.mod, hl.inv⟩)

set_option maxRecDepth 100000 in
set_option maxHeartbeats 8000000 in
theorem l05Edges_d (B gc : Nat) (w : World) (hc : Cur B 141 w gc) : Calls Try.prog 114 #[.pointer (some ⟨gc, 0, none⟩)] w (DrewV 141 B gc w (fun v : Edges => .agg v.cells.toArray) (fun v => AllOk v.cells)) := by
  refine calls_draw (as_ := [.pointer (some ⟨gc, 0, none⟩)]) hc Try.func114 rfl rfl (fun a h1 h2 h3 => ((Fr.nil h1 h2).arg (h3 0 _ rfl))) ?_
  repeat (first | refine qan ?_ | refine qaj ?_ | refine qaf ?_ | refine qad ?_ | (refine l_build ?_; (refine qac ((OpW.build (vals := []) (cells := Edges.cells default) rfl (by kernel_rfl))) rfl ?_ ?_ ?_); rfl; rfl) | (refine qao ?_; (refine qac (qai rfl) rfl ?_ ?_ ?_); rfl; rfl) | (refine qaR ?_; refine SXl.alloc ?_ ?_ (fun g => ?_); rfl; rfl) | (refine qay ?_; first | ((first | refine qah 0 ?_ rfl rfl rfl rfl rfl rfl ?_ | refine qah 1 ?_ rfl rfl rfl rfl rfl rfl ?_ | refine qah 2 ?_ rfl rfl rfl rfl rfl rfl ?_); rfl; simp only [List.set_cons_zero, List.set_cons_succ]) | ((first | refine qaa 0 ?_ rfl rfl rfl rfl rfl rfl rfl ?_ | refine qaa 1 ?_ rfl rfl rfl rfl rfl rfl rfl ?_ | refine qaa 2 ?_ rfl rfl rfl rfl rfl rfl rfl ?_); rfl; simp only [List.set_cons_zero, List.set_cons_succ]) | ((first | refine qab 0 ?_ rfl rfl rfl rfl rfl rfl rfl ?_ | refine qab 1 ?_ rfl rfl rfl rfl rfl rfl rfl ?_ | refine qab 2 ?_ rfl rfl rfl rfl rfl rfl rfl ?_); rfl; simp only [over, List.set_cons_zero, List.set_cons_succ])))
  refine qat ?_
  refine qaB (ξ := Bool) (v := fun b => .bool b) rfl rfl rfl (fun _ => True) (fun w hl => once_d B gc w hl.inv 2 (by decide)) (fun b _ => ?_)
  cases b
  rotate_left
  · repeat (first | refine qan ?_ | refine qaj ?_ | refine qaf ?_ | refine qad ?_ | refine qaq rfl ?_ | (refine qau ?_; (refine qac (qam 0 rfl rfl rfl) rfl ?_ ?_ ?_); rfl; rfl) | (refine qay ?_; first | ((first | refine qah 0 ?_ rfl rfl rfl rfl rfl rfl ?_ | refine qah 1 ?_ rfl rfl rfl rfl rfl rfl ?_ | refine qah 2 ?_ rfl rfl rfl rfl rfl rfl ?_); rfl; simp only [List.set_cons_zero, List.set_cons_succ]) | ((first | refine qaa 0 ?_ rfl rfl rfl rfl rfl rfl rfl ?_ | refine qaa 1 ?_ rfl rfl rfl rfl rfl rfl rfl ?_ | refine qaa 2 ?_ rfl rfl rfl rfl rfl rfl rfl ?_); rfl; simp only [List.set_cons_zero, List.set_cons_succ]) | ((first | refine qab 0 ?_ rfl rfl rfl rfl rfl rfl rfl ?_ | refine qab 1 ?_ rfl rfl rfl rfl rfl rfl rfl ?_ | refine qab 2 ?_ rfl rfl rfl rfl rfl rfl rfl ?_); rfl; simp only [over, List.set_cons_zero, List.set_cons_succ])) | refine qaA ?_ | refine qax ?_)
    refine qaK 1 rfl rfl rfl rfl (fun w' hl => ⟨default, rfl, allOk_of (by decide), hl.mod, hl.inv⟩)
  repeat (first | refine qan ?_ | refine qaj ?_ | refine qaf ?_ | refine qad ?_ | refine qaC ?_ | refine qas rfl ?_ | (refine qao ?_; (refine qac (qai rfl) rfl ?_ ?_ ?_); rfl; rfl))
  refine qaN ?_
  refine SXl.lit (cells := [.int .i64 0, .int .i64 64, .int .i64 10, .int .i64 33]) (z := .int .i64 0) ?_ ?_ rfl (by decide) (by kernel_rfl) rfl (fun gl => ?_)
  rfl; rfl
  skip
  refine qat ?_
  refine qaB (ξ := Int) (v := fun x => .int .i64 x) rfl rfl rfl (fun x => x ∈ ([0, 64, 10, 33] : List Int)) (fun w hl => pick_d (l := [0, 64, 10, 33]) hl (by decide) (by decide)) (fun x0 hx0 => ?_)
  refine SXl.drop1 ?_
  have hy0 : 0 ≤ x0 ∧ x0 ≤ 64 := by simp at hx0; omega
  repeat (first | refine qan ?_ | refine qaj ?_ | refine qaf ?_ | refine qad ?_ | (refine qak ?_; (refine qac (qae rfl) rfl ?_ ?_ ?_); rfl; rfl) | (refine qao ?_; (refine qac (qai rfl) rfl ?_ ?_ ?_); rfl; rfl) | (refine qay ?_; first | ((first | refine qah 0 ?_ rfl rfl rfl rfl rfl rfl ?_ | refine qah 1 ?_ rfl rfl rfl rfl rfl rfl ?_ | refine qah 2 ?_ rfl rfl rfl rfl rfl rfl ?_); rfl; simp only [List.set_cons_zero, List.set_cons_succ]) | ((first | refine qaa 0 ?_ rfl rfl rfl rfl rfl rfl rfl ?_ | refine qaa 1 ?_ rfl rfl rfl rfl rfl rfl rfl ?_ | refine qaa 2 ?_ rfl rfl rfl rfl rfl rfl rfl ?_); rfl; simp only [List.set_cons_zero, List.set_cons_succ]) | ((first | refine qab 0 ?_ rfl rfl rfl rfl rfl rfl rfl ?_ | refine qab 1 ?_ rfl rfl rfl rfl rfl rfl rfl ?_ | refine qab 2 ?_ rfl rfl rfl rfl rfl rfl rfl ?_); rfl; simp only [over, List.set_cons_zero, List.set_cons_succ])))
  refine qaN ?_
  refine SXl.lit (cells := [.int .i64 0, .int .i64 64, .int .i64 10, .int .i64 33]) (z := .int .i64 0) ?_ ?_ rfl (by decide) (by kernel_rfl) rfl (fun gl => ?_)
  rfl; rfl
  skip
  refine qat ?_
  refine qaB (ξ := Int) (v := fun x => .int .i64 x) rfl rfl rfl (fun x => x ∈ ([0, 64, 10, 33] : List Int)) (fun w hl => pick_d (l := [0, 64, 10, 33]) hl (by decide) (by decide)) (fun x1 hx1 => ?_)
  refine SXl.drop1 ?_
  have hy1 : 0 ≤ x1 ∧ x1 ≤ 64 := by simp at hx1; omega
  repeat (first | refine qan ?_ | refine qaj ?_ | refine qaf ?_ | refine qad ?_ | (refine qak ?_; (refine qac (qae rfl) rfl ?_ ?_ ?_); rfl; rfl) | (refine qao ?_; (refine qac (qai rfl) rfl ?_ ?_ ?_); rfl; rfl) | (refine qay ?_; first | ((first | refine qah 0 ?_ rfl rfl rfl rfl rfl rfl ?_ | refine qah 1 ?_ rfl rfl rfl rfl rfl rfl ?_ | refine qah 2 ?_ rfl rfl rfl rfl rfl rfl ?_); rfl; simp only [List.set_cons_zero, List.set_cons_succ]) | ((first | refine qaa 0 ?_ rfl rfl rfl rfl rfl rfl rfl ?_ | refine qaa 1 ?_ rfl rfl rfl rfl rfl rfl rfl ?_ | refine qaa 2 ?_ rfl rfl rfl rfl rfl rfl rfl ?_); rfl; simp only [List.set_cons_zero, List.set_cons_succ]) | ((first | refine qab 0 ?_ rfl rfl rfl rfl rfl rfl rfl ?_ | refine qab 1 ?_ rfl rfl rfl rfl rfl rfl rfl ?_ | refine qab 2 ?_ rfl rfl rfl rfl rfl rfl rfl ?_); rfl; simp only [over, List.set_cons_zero, List.set_cons_succ])))
  refine qaN ?_
  refine SXl.lit (cells := [.int .i64 0, .int .i64 64, .int .i64 10]) (z := .int .i64 0) ?_ ?_ rfl (by decide) (by kernel_rfl) rfl (fun gl => ?_)
  rfl; rfl
  skip
  refine qat ?_
  refine qaB (ξ := Int) (v := fun x => .int .i64 x) rfl rfl rfl (fun x => x ∈ ([0, 64, 10] : List Int)) (fun w hl => pick_d (l := [0, 64, 10]) hl (by decide) (by decide)) (fun x2 hx2 => ?_)
  refine SXl.drop1 ?_
  have hy2 : 0 ≤ x2 ∧ x2 ≤ 64 := by simp at hx2; omega
  repeat (first | refine qan ?_ | refine qaj ?_ | refine qaf ?_ | refine qad ?_ | (refine qak ?_; (refine qac (qae rfl) rfl ?_ ?_ ?_); rfl; rfl) | (refine qao ?_; (refine qac (qai rfl) rfl ?_ ?_ ?_); rfl; rfl) | (refine qay ?_; first | ((first | refine qah 0 ?_ rfl rfl rfl rfl rfl rfl ?_ | refine qah 1 ?_ rfl rfl rfl rfl rfl rfl ?_ | refine qah 2 ?_ rfl rfl rfl rfl rfl rfl ?_); rfl; simp only [List.set_cons_zero, List.set_cons_succ]) | ((first | refine qaa 0 ?_ rfl rfl rfl rfl rfl rfl rfl ?_ | refine qaa 1 ?_ rfl rfl rfl rfl rfl rfl rfl ?_ | refine qaa 2 ?_ rfl rfl rfl rfl rfl rfl rfl ?_); rfl; simp only [List.set_cons_zero, List.set_cons_succ]) | ((first | refine qab 0 ?_ rfl rfl rfl rfl rfl rfl rfl ?_ | refine qab 1 ?_ rfl rfl rfl rfl rfl rfl rfl ?_ | refine qab 2 ?_ rfl rfl rfl rfl rfl rfl rfl ?_); rfl; simp only [over, List.set_cons_zero, List.set_cons_succ])))
  refine qaN ?_
  refine SXl.lit (cells := [.int .i64 0, .int .i64 64, .int .i64 10]) (z := .int .i64 0) ?_ ?_ rfl (by decide) (by kernel_rfl) rfl (fun gl => ?_)
  rfl; rfl
  skip
  refine qat ?_
  refine qaB (ξ := Int) (v := fun x => .int .i64 x) rfl rfl rfl (fun x => x ∈ ([0, 64, 10] : List Int)) (fun w hl => pick_d (l := [0, 64, 10]) hl (by decide) (by decide)) (fun x3 hx3 => ?_)
  refine SXl.drop1 ?_
  have hy3 : 0 ≤ x3 ∧ x3 ≤ 64 := by simp at hx3; omega
  repeat (first | refine qan ?_ | refine qaj ?_ | refine qaf ?_ | refine qad ?_ | (refine qau ?_; (refine qac (qam 0 rfl rfl rfl) rfl ?_ ?_ ?_); rfl; rfl) | (refine qak ?_; (refine qac (qae rfl) rfl ?_ ?_ ?_); rfl; rfl) | (refine qay ?_; first | ((first | refine qah 0 ?_ rfl rfl rfl rfl rfl rfl ?_ | refine qah 1 ?_ rfl rfl rfl rfl rfl rfl ?_ | refine qah 2 ?_ rfl rfl rfl rfl rfl rfl ?_); rfl; simp only [List.set_cons_zero, List.set_cons_succ]) | ((first | refine qaa 0 ?_ rfl rfl rfl rfl rfl rfl rfl ?_ | refine qaa 1 ?_ rfl rfl rfl rfl rfl rfl rfl ?_ | refine qaa 2 ?_ rfl rfl rfl rfl rfl rfl rfl ?_); rfl; simp only [List.set_cons_zero, List.set_cons_succ]) | ((first | refine qab 0 ?_ rfl rfl rfl rfl rfl rfl rfl ?_ | refine qab 1 ?_ rfl rfl rfl rfl rfl rfl rfl ?_ | refine qab 2 ?_ rfl rfl rfl rfl rfl rfl rfl ?_); rfl; simp only [over, List.set_cons_zero, List.set_cons_succ])) | refine qaA ?_)
  refine qaK 1 rfl rfl rfl rfl (fun w' hl => ⟨⟨x0, x1, x2, x3⟩, rfl, ((((allOk_of (c := Edges.cells default) (by decide)).set (cellOk_int (n := x0) ⟨by omega, by omega⟩) 0).set (cellOk_int (n := x1) ⟨by omega, by omega⟩) 1).set (cellOk_int (n := x2) ⟨by omega, by omega⟩) 2).set (cellOk_int (n := x3) ⟨by omega, by omega⟩) 3, hl.mod, hl.inv⟩)

set_option maxRecDepth 100000 in
set_option maxHeartbeats 8000000 in
theorem l05AnyEdges_d (B gc : Nat) (w : World) (hc : Cur B 141 w gc) : Calls Try.prog 124 #[.pointer (some ⟨gc, 0, none⟩)] w (DrewV 141 B gc w (fun v : Edges => .agg v.cells.toArray) (fun v => AllOk v.cells)) := by
  refine calls_draw (as_ := [.pointer (some ⟨gc, 0, none⟩)]) hc Try.func124 rfl rfl (fun a h1 h2 h3 => ((Fr.nil h1 h2).arg (h3 0 _ rfl))) ?_
  repeat (first | refine qan ?_ | refine qaj ?_ | refine qaf ?_ | refine qad ?_ | (refine qao ?_; (refine qac (qai rfl) rfl ?_ ?_ ?_); rfl; rfl) | (refine qaR ?_; refine SXl.alloc ?_ ?_ (fun g => ?_); rfl; rfl))
  refine qat ?_
  refine qaB (ξ := Edges) (v := fun v => .agg v.cells.toArray) rfl rfl rfl (fun v => AllOk v.cells) (fun w hl => l05Edges_d B gc w hl.inv) (fun s hs => ?_)
  repeat (first | refine qan ?_ | refine qaj ?_ | refine qaf ?_ | refine qad ?_ | (refine qao ?_; (refine qac (qai rfl) rfl ?_ ?_ ?_); rfl; rfl) | (refine qaR ?_; refine SXl.alloc ?_ ?_ (fun g => ?_); rfl; rfl) | (refine qay ?_; first | ((first | refine qah 0 ?_ rfl rfl rfl rfl rfl rfl ?_ | refine qah 1 ?_ rfl rfl rfl rfl rfl rfl ?_ | refine qah 2 ?_ rfl rfl rfl rfl rfl rfl ?_); rfl; simp only [List.set_cons_zero, List.set_cons_succ]) | ((first | refine qaa 0 ?_ rfl rfl rfl rfl rfl rfl rfl ?_ | refine qaa 1 ?_ rfl rfl rfl rfl rfl rfl rfl ?_ | refine qaa 2 ?_ rfl rfl rfl rfl rfl rfl rfl ?_); rfl; simp only [List.set_cons_zero, List.set_cons_succ]) | ((first | refine qab 0 ?_ rfl rfl rfl rfl rfl rfl rfl ?_ | refine qab 1 ?_ rfl rfl rfl rfl rfl rfl rfl ?_ | refine qab 2 ?_ rfl rfl rfl rfl rfl rfl rfl ?_); rfl; simp only [over, List.set_cons_zero, List.set_cons_succ])))
  refine qat ?_
  refine qaB (ξ := Bool) (v := fun b => .bool b) rfl rfl rfl (fun _ => True) (fun w hl => once_d B gc w hl.inv 6 (by decide)) (fun b _ => ?_)
  cases b
  · repeat (first | refine qan ?_ | refine qaj ?_ | refine qaf ?_ | refine qad ?_ | refine qaC ?_ | refine qas rfl ?_ | (refine qau ?_; (refine qac (qam 0 rfl rfl rfl) rfl ?_ ?_ ?_); rfl; rfl) | (refine qay ?_; first | ((first | refine qah 0 ?_ rfl rfl rfl rfl rfl rfl ?_ | refine qah 1 ?_ rfl rfl rfl rfl rfl rfl ?_ | refine qah 2 ?_ rfl rfl rfl rfl rfl rfl ?_); rfl; simp only [List.set_cons_zero, List.set_cons_succ]) | ((first | refine qaa 0 ?_ rfl rfl rfl rfl rfl rfl rfl ?_ | refine qaa 1 ?_ rfl rfl rfl rfl rfl rfl rfl ?_ | refine qaa 2 ?_ rfl rfl rfl rfl rfl rfl rfl ?_); rfl; simp only [List.set_cons_zero, List.set_cons_succ]) | ((first | refine qab 0 ?_ rfl rfl rfl rfl rfl rfl rfl ?_ | refine qab 1 ?_ rfl rfl rfl rfl rfl rfl rfl ?_ | refine qab 2 ?_ rfl rfl rfl rfl rfl rfl rfl ?_); rfl; simp only [over, List.set_cons_zero, List.set_cons_succ])) | refine qaA ?_)
    refine qaK 1 rfl rfl rfl rfl (fun w' hl => ⟨s, rfl, hs, hl.mod, hl.inv⟩)
  · repeat (first | refine qaj ?_ | refine qaf ?_ | refine qad ?_ | refine qaq rfl ?_ | (refine qao ?_; (refine qac (qai rfl) rfl ?_ ?_ ?_); rfl; rfl))
    refine qat ?_
    refine qaB (ξ := Int) (v := fun x => .int .i64 x) rfl rfl rfl (fun x => I64 x) (fun w hl => l02Int_d B gc w hl.inv) (fun y hy => ?_)
    repeat (first | refine qan ?_ | refine qaj ?_ | refine qaf ?_ | refine qad ?_ | (refine qau ?_; (refine qac (qam 0 rfl rfl rfl) rfl ?_ ?_ ?_); rfl; rfl) | (refine qak ?_; (refine qac (qae rfl) rfl ?_ ?_ ?_); rfl; rfl) | (refine qay ?_; first | ((first | refine qah 0 ?_ rfl rfl rfl rfl rfl rfl ?_ | refine qah 1 ?_ rfl rfl rfl rfl rfl rfl ?_ | refine qah 2 ?_ rfl rfl rfl rfl rfl rfl ?_); rfl; simp only [List.set_cons_zero, List.set_cons_succ]) | ((first | refine qaa 0 ?_ rfl rfl rfl rfl rfl rfl rfl ?_ | refine qaa 1 ?_ rfl rfl rfl rfl rfl rfl rfl ?_ | refine qaa 2 ?_ rfl rfl rfl rfl rfl rfl rfl ?_); rfl; simp only [List.set_cons_zero, List.set_cons_succ]) | ((first | refine qab 0 ?_ rfl rfl rfl rfl rfl rfl rfl ?_ | refine qab 1 ?_ rfl rfl rfl rfl rfl rfl rfl ?_ | refine qab 2 ?_ rfl rfl rfl rfl rfl rfl rfl ?_); rfl; simp only [over, List.set_cons_zero, List.set_cons_succ])) | refine qaA ?_)
    refine qaK 1 rfl rfl rfl rfl (fun w' hl => ⟨{ s with right := y }, rfl, hs.set (cellOk_int hy) 2, hl.mod, hl.inv⟩)
end Go.Proofs.Ythffgbhphjkdeaa
