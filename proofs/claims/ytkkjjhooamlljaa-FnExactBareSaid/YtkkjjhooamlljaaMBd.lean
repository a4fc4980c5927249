/-
  PROVED: contracts of functions and words on memory, several texts put together: what each says stands at its theorems. Conditions: as told there.
-/
import Derived.Test.YtkkjjhooamlljaaMBc
set_option linter.unusedVariables false
set_option linter.unusedSimpArgs false
namespace Go.Proofs.Ytkkjjhooamlljaa
open Go.RowKit
set_option linter.unusedVariables false
set_option linter.unusedSimpArgs false

end Go.Proofs.Ytkkjjhooamlljaa
namespace Go.Proofs.Ytkkjjhooamlljaa
open Go.RowKit

section
variable {l : List Node} {i : Nat} {x : Node}
end
instance : TFv Try.prog 112 1 1 := ⟨_, _, _, Try.underlying112, rfl, rfl, Try.underlying81, rfl⟩
end Go.Proofs.Ytkkjjhooamlljaa
namespace Go.Proofs.Ytkkjjhooamlljaa
open Go.RowKit
set_option linter.unusedVariables false
set_option linter.unusedSimpArgs false


end Go.Proofs.Ytkkjjhooamlljaa
namespace Go.Proofs.Ytkkjjhooamlljaa
open Go.RowKit
set_option linter.unusedVariables false
set_option linter.unusedSimpArgs false

/-- Where a tree of the call's own lies. -/
structure TreeQ where
  ps : List PNode
  a : Option Addr
  c : Nat
def TreeQ.v (q : TreeQ) : Value := .agg [.slice q.a q.ps.length q.c].toArray
def TreeQ.os (q : TreeQ) : List Own := treeO q.ps q.a q.c
/-- A new tree. -/
def NewTree (l : List Node) (w : World) (e : Ending) (w' : World) : Prop := NewO TreeQ TreeQ.v TreeQ.os (fun q => bare q.ps = l) w e w'
theorem icell_one1 (x : Int) : ∀ u ∈ icell x, u.oneCell' = true := fun u hu => by simp [icell] at hu; subst hu; rfl
theorem rule_one1 (x : Rule) : ∀ u ∈ Rule.cells x, u.oneCell' = true := fun u hu => by simp [Rule.cells] at hu; rcases hu with rfl | rfl | rfl <;> rfl
theorem rowP_ones (x : PNode) : (rowP x).all (·.oneCell') = true := List.all_eq_true.2 (rowP_one x)
theorem Loc.drop2 {W : World} {R : Rg W} {a b : Blk} {L : List Blk} {O : List Own} {E : List Res} {w : World} (h : Loc W R (a :: b :: L) O E w) : Loc W R L O E w := h.drop1.drop1
/-- One node more. -/
theorem Loc.treePush {W : World} {R : Rg W} {L : List Blk} {E : List Res} {w : World} {ps : List PNode} {x : PNode} {a : Option Addr} {c : Nat}
    (h : Loc W R L (rulesO x :: kidsO x :: ⟨.slice a (ps.length + 1) c, 112, 64, ps.length + 1, (ps.map rowP).flatten ++ rowP x⟩ :: partsO ps) E w) : Loc W R L (treeO (ps ++ [x]) a c) E w := by
  refine h.ownPerm ?_
  unfold treeO nodesO
  rw [partsO_append, List.map_append, List.flatten_append, List.length_append]
  simp only [List.map_cons, List.map_nil, List.flatten_cons, List.flatten_nil, List.append_nil, List.length_cons, List.length_nil, Nat.zero_add]
  rw [partsO_cons]
  generalize (⟨_, _, _, _, _⟩ : Own) = n
  generalize partsO ps = p
  refine List.Perm.symm ?_
  refine (List.Perm.swap _ _ _).trans ?_
  refine ((List.Perm.swap _ _ _).cons _).trans ?_
  refine (List.Perm.swap _ _ _).trans ?_
  refine List.Perm.cons _ ?_
  show List.Perm ([kidsO x, rulesO x] ++ p) (p ++ [kidsO x, rulesO x])
  exact List.perm_append_comm
set_option maxRecDepth 100000 in
set_option maxHeartbeats 8000000 in
theorem scopyTree_any (l : List Node) (o : Bool) (a : Option Addr) (c : Nat) (R : Nat → Prop) (w : World) (hlen : l.length ≤ 1048576) (hfit : ∀ x ∈ l, x.fits 1048576) (h : NodeSlice o R w a l) :
    Calls Try.prog 31 #[.agg #[.slice a l.length c]] w (NewTree l w) := by
  refine calls_sx Try.func31 rfl rfl (fun a h1 h2 h3 => ((Fr.nil h1 h2).arg (h3 0 _ rfl))) ?_
  repeat (first | refine SX.seq ?_ | refine SXl.nil ?_ | refine SX.region ?_ | refine SQ.thenNormal ?_ | refine SX.block ?_ | (refine l_assign ?_; (refine SXl.v (OpW.assign rfl) rfl ?_ ?_ ?_); rfl; rfl) | (refine l_build ?_; (refine SXl.v (OpW.build rfl rfl) rfl ?_ ?_ ?_); rfl; rfl) | (refine l_alloc ?_; refine SXl.alloc ?_ ?_ (fun g => ?_); rfl; rfl) | (refine l_box ?_; refine SXl.box ?_ ?_ rfl rfl (fun g => ?_); rfl; rfl) | (refine l_store ?_; first | (refine SXl.store 0 ?_ rfl rfl rfl rfl rfl rfl ?_; rfl; simp only [List.set_cons_zero, List.set_cons_succ]) | (refine SXl.store 1 ?_ rfl rfl rfl rfl rfl rfl ?_; rfl; simp only [List.set_cons_zero, List.set_cons_succ]) | (refine SXl.store 2 ?_ rfl rfl rfl rfl rfl rfl ?_; rfl; simp only [List.set_cons_zero, List.set_cons_succ]) | (refine SXl.storeAll 0 ?_ rfl rfl rfl rfl rfl rfl rfl ?_; rfl; simp only [List.set_cons_zero, List.set_cons_succ]) | (refine SXl.storeAll 1 ?_ rfl rfl rfl rfl rfl rfl rfl ?_; rfl; simp only [List.set_cons_zero, List.set_cons_succ]) | (refine SXl.storeAll 2 ?_ rfl rfl rfl rfl rfl rfl rfl ?_; rfl; simp only [List.set_cons_zero, List.set_cons_succ]) | (refine SXl.storeRow 0 ?_ rfl rfl rfl rfl rfl rfl rfl ?_; rfl; simp only [over, List.set_cons_zero, List.set_cons_succ]) | (refine SXl.storeRow 1 ?_ rfl rfl rfl rfl rfl rfl rfl ?_; rfl; simp only [over, List.set_cons_zero, List.set_cons_succ]) | (refine SXl.storeRow 2 ?_ rfl rfl rfl rfl rfl rfl rfl ?_; rfl; simp only [over, List.set_cons_zero, List.set_cons_succ])))
  rename_i g1 g2
  refine SX.ownNil 112 64 ?_
  refine SX.loop3 (fun (k : Nat) (q : TreeQ) (_ : Unit) => k ≤ l.length ∧ bare q.ps = l.take k) (fun k _ _ => l.length - k) (fun _ q _ => [⟨g, [.slice q.a q.ps.length q.c], 35⟩, ⟨g2, [.slice none 0 0], 35⟩, ⟨g1, [.slice a l.length c], 35⟩]) (fun _ q _ => q.os) (fun _ _ _ => []) (fun k _ _ => [(1, .pointer (some ⟨g1, 0, none⟩)), (2, .pointer (some ⟨g2, 0, none⟩)), (3, .pointer (some ⟨g, 0, none⟩)), (4, .int .i64 k)]) 0 ⟨[], none, 0⟩ () ⟨Nat.zero_le _, rfl⟩ ?_ (fun w hl => hl) ?_
  · (repeat (first | exact subF_nil _ | (refine subF_cons rfl ?_) | (refine subF_consv rfl (by rfl) ?_)))
  rintro k q _ ⟨hk, hq⟩
  have hql : q.ps.length = k := by rw [← bare_len, hq, List.length_take]; omega
  by_cases hlt : k < l.length
  rotate_left
  · have hk' : k = l.length := by omega
    repeat (first | refine SX.seq ?_ | refine SXl.nil ?_ | refine SX.region ?_ | refine SQ.thenNormal ?_ | refine SX.condF rfl ?_ | (refine l_load ?_; (first | refine SXl.v (OpW.load 2 rfl rfl rfl) rfl ?_ ?_ ?_ | refine SXl.v (OpW.loadAll 0 rfl rfl rfl) rfl ?_ ?_ ?_); rfl; rfl) | (refine l_fieldAddr ?_; (refine SXl.v (OpW.fieldAddr rfl) rfl ?_ ?_ ?_); rfl; rfl) | (refine l_move ?_; (refine SXl.v (OpW.move rfl) rfl ?_ ?_ ?_); rfl; rfl) | (refine l_len ?_; (refine SXl.v (OpW.len rfl) rfl ?_ ?_ ?_); rfl; rfl) | (refine l_lss ?_; (refine SXl.v (OpW.lssF rfl rfl (by omega)) rfl ?_ ?_ ?_); rfl; rfl) | (refine l_store ?_; first | (refine SXl.store 0 ?_ rfl rfl rfl rfl rfl rfl ?_; rfl; simp only [List.set_cons_zero, List.set_cons_succ]) | (refine SXl.store 1 ?_ rfl rfl rfl rfl rfl rfl ?_; rfl; simp only [List.set_cons_zero, List.set_cons_succ]) | (refine SXl.store 2 ?_ rfl rfl rfl rfl rfl rfl ?_; rfl; simp only [List.set_cons_zero, List.set_cons_succ]) | (refine SXl.storeAll 0 ?_ rfl rfl rfl rfl rfl rfl rfl ?_; rfl; simp only [List.set_cons_zero, List.set_cons_succ]) | (refine SXl.storeAll 1 ?_ rfl rfl rfl rfl rfl rfl rfl ?_; rfl; simp only [List.set_cons_zero, List.set_cons_succ]) | (refine SXl.storeAll 2 ?_ rfl rfl rfl rfl rfl rfl rfl ?_; rfl; simp only [List.set_cons_zero, List.set_cons_succ]) | (refine SXl.storeRow 0 ?_ rfl rfl rfl rfl rfl rfl rfl ?_; rfl; simp only [over, List.set_cons_zero, List.set_cons_succ]) | (refine SXl.storeRow 1 ?_ rfl rfl rfl rfl rfl rfl rfl ?_; rfl; simp only [over, List.set_cons_zero, List.set_cons_succ]) | (refine SXl.storeRow 2 ?_ rfl rfl rfl rfl rfl rfl rfl ?_; rfl; simp only [over, List.set_cons_zero, List.set_cons_succ])) | refine SX.ret ?_ | refine SX.exit ?_ | refine SQ.thenExit ?_ | refine SQ.blockExit ?_)
    refine SQ.bodyCell 1 rfl rfl rfl rfl (fun w' hl => ⟨q, rfl, (show bare q.ps = l by rw [hq, hk', List.take_length]), hl.owns, hl.mod⟩)
  obtain ⟨b1, o1, x, r1, rfl, hR1, hb1, hxk, hr1, hl1, hc1⟩ := h.get hlt
  obtain ⟨ka, kc, ra, rc, rfl, hk1, ht1, _⟩ := hr1
  have hf := hfit x (List.mem_of_getElem? hxk.out)
  obtain ⟨hf1, hf2⟩ := hf
  repeat (first | refine SX.seq ?_ | refine SXl.nil ?_ | refine SX.region ?_ | refine SQ.thenNormal ?_ | refine SX.block ?_ | refine SX.skip ?_ | refine SX.condT rfl ?_ | (refine l_load ?_; (first | refine SXl.v (OpW.loadRowOld rfl hc1 (nodeRow_len _ _ _ _ _ _ _ _ _) (Nat.succ_pos _) (fun h => h)) rfl ?_ ?_ ?_ | refine SXl.v (OpW.load 0 rfl rfl rfl) rfl ?_ ?_ ?_ | refine SXl.v (OpW.load 2 rfl rfl rfl) rfl ?_ ?_ ?_); rfl; rfl) | (refine l_fieldAddr ?_; (refine SXl.v (OpW.fieldAddr rfl) rfl ?_ ?_ ?_); rfl; rfl) | (refine l_move ?_; (refine SXl.v (OpW.move rfl) rfl ?_ ?_ ?_); rfl; rfl) | (refine l_len ?_; (refine SXl.v (OpW.len rfl) rfl ?_ ?_ ?_); rfl; rfl) | (refine l_lss ?_; (refine SXl.v (OpW.lssT rfl rfl (by omega)) rfl ?_ ?_ ?_); rfl; rfl) | (refine l_indexAddr ?_; (refine SXl.v (OpW.indexAddr (by omega) rfl rfl) rfl ?_ ?_ ?_); rfl; rfl) | (refine l_alloc ?_; refine SXl.alloc ?_ ?_ (fun g => ?_); rfl; rfl) | (refine l_store ?_; first | (refine SXl.store 0 ?_ rfl rfl rfl rfl rfl rfl ?_; rfl; simp only [List.set_cons_zero, List.set_cons_succ]) | (refine SXl.store 1 ?_ rfl rfl rfl rfl rfl rfl ?_; rfl; simp only [List.set_cons_zero, List.set_cons_succ]) | (refine SXl.store 2 ?_ rfl rfl rfl rfl rfl rfl ?_; rfl; simp only [List.set_cons_zero, List.set_cons_succ]) | (refine SXl.storeAll 0 ?_ rfl rfl rfl rfl rfl rfl rfl ?_; rfl; simp only [List.set_cons_zero, List.set_cons_succ]) | (refine SXl.storeAll 1 ?_ rfl rfl rfl rfl rfl rfl rfl ?_; rfl; simp only [List.set_cons_zero, List.set_cons_succ]) | (refine SXl.storeAll 2 ?_ rfl rfl rfl rfl rfl rfl rfl ?_; rfl; simp only [List.set_cons_zero, List.set_cons_succ]) | (refine SXl.storeRow 0 ?_ rfl rfl rfl rfl rfl rfl rfl ?_; rfl; simp only [over, List.set_cons_zero, List.set_cons_succ]) | (refine SXl.storeRow 1 ?_ rfl rfl rfl rfl rfl rfl rfl ?_; rfl; simp only [over, List.set_cons_zero, List.set_cons_succ]) | (refine SXl.storeRow 2 ?_ rfl rfl rfl rfl rfl rfl rfl ?_; rfl; simp only [over, List.set_cons_zero, List.set_cons_succ])) | (refine l_buildSlice ?_; first | (refine SXl.lit1 ?_ ?_ rfl rfl rfl (fun g => ?_); rfl; rfl) | (refine SXl.lit0 ?_ ?_ (fun _ h => h) rfl (fun g => ?_); rfl; rfl)))
  refine l_append ?_
  refine SXl.appendS (cs := icell) 0 x.kids rfl rfl rfl rfl rfl rfl (fun _ => rfl) icell_one1 (fun w hl => ⟨_, SliceAt.flatKeep hk1 hl.mod⟩) (by omega) (by omega) (fun a1 c1 => ?_)
  simp only [List.set_cons_zero, Nat.zero_add, List.nil_append]
  repeat (first | refine SX.seq ?_ | refine SXl.nil ?_ | refine SX.region ?_ | refine SQ.thenNormal ?_ | (refine l_fieldAddr ?_; (refine SXl.v (OpW.fieldAddr rfl) rfl ?_ ?_ ?_); rfl; rfl) | (refine l_store ?_; first | (refine SXl.store 0 ?_ rfl rfl rfl rfl rfl rfl ?_; rfl; simp only [List.set_cons_zero, List.set_cons_succ]) | (refine SXl.store 1 ?_ rfl rfl rfl rfl rfl rfl ?_; rfl; simp only [List.set_cons_zero, List.set_cons_succ]) | (refine SXl.store 2 ?_ rfl rfl rfl rfl rfl rfl ?_; rfl; simp only [List.set_cons_zero, List.set_cons_succ]) | (refine SXl.storeAll 0 ?_ rfl rfl rfl rfl rfl rfl rfl ?_; rfl; simp only [List.set_cons_zero, List.set_cons_succ]) | (refine SXl.storeAll 1 ?_ rfl rfl rfl rfl rfl rfl rfl ?_; rfl; simp only [List.set_cons_zero, List.set_cons_succ]) | (refine SXl.storeAll 2 ?_ rfl rfl rfl rfl rfl rfl rfl ?_; rfl; simp only [List.set_cons_zero, List.set_cons_succ]) | (refine SXl.storeRow 0 ?_ rfl rfl rfl rfl rfl rfl rfl ?_; rfl; simp only [over, List.set_cons_zero, List.set_cons_succ]) | (refine SXl.storeRow 1 ?_ rfl rfl rfl rfl rfl rfl rfl ?_; rfl; simp only [over, List.set_cons_zero, List.set_cons_succ]) | (refine SXl.storeRow 2 ?_ rfl rfl rfl rfl rfl rfl rfl ?_; rfl; simp only [over, List.set_cons_zero, List.set_cons_succ])))
  refine l_buildSlice ?_
  refine SXl.lit0R rfl rfl (fun _ h => h) (fun g4 => ?_)
  repeat (first | (refine l_load ?_; (refine SXl.v (OpW.load 0 rfl rfl rfl) rfl ?_ ?_ ?_); rfl; rfl) | (refine l_fieldAddr ?_; (refine SXl.v (OpW.fieldAddr rfl) rfl ?_ ?_ ?_); rfl; rfl))
  refine l_append ?_
  refine SXl.appendS (cs := Rule.cells) 0 x.rules rfl rfl rfl rfl rfl rfl (fun _ => rfl) rule_one1 (fun w hl => ⟨_, SliceAt.flatKeep ht1 hl.mod⟩) (by omega) (by omega) (fun a2 c2 => ?_)
  simp only [List.set_cons_zero, Nat.zero_add, List.nil_append]
  repeat (first | refine SXl.nil ?_ | refine SX.region ?_ | refine SQ.thenNormal ?_ | (refine l_load ?_; (first | refine SXl.v (OpW.load 1 rfl rfl rfl) rfl ?_ ?_ ?_ | refine SXl.v (OpW.loadAll 0 rfl rfl rfl) rfl ?_ ?_ ?_); rfl; rfl) | (refine l_fieldAddr ?_; (refine SXl.v (OpW.fieldAddr rfl) rfl ?_ ?_ ?_); rfl; rfl) | (refine l_build ?_; (refine SXl.v (OpW.build rfl rfl) rfl ?_ ?_ ?_); rfl; rfl) | (refine l_store ?_; first | (refine SXl.store 0 ?_ rfl rfl rfl rfl rfl rfl ?_; rfl; simp only [List.set_cons_zero, List.set_cons_succ]) | (refine SXl.store 1 ?_ rfl rfl rfl rfl rfl rfl ?_; rfl; simp only [List.set_cons_zero, List.set_cons_succ]) | (refine SXl.store 2 ?_ rfl rfl rfl rfl rfl rfl ?_; rfl; simp only [List.set_cons_zero, List.set_cons_succ]) | (refine SXl.storeAll 0 ?_ rfl rfl rfl rfl rfl rfl rfl ?_; rfl; simp only [List.set_cons_zero, List.set_cons_succ]) | (refine SXl.storeAll 1 ?_ rfl rfl rfl rfl rfl rfl rfl ?_; rfl; simp only [List.set_cons_zero, List.set_cons_succ]) | (refine SXl.storeAll 2 ?_ rfl rfl rfl rfl rfl rfl rfl ?_; rfl; simp only [List.set_cons_zero, List.set_cons_succ]) | (refine SXl.storeRow 0 ?_ rfl rfl rfl rfl rfl rfl rfl ?_; rfl; simp only [over, List.set_cons_zero, List.set_cons_succ]) | (refine SXl.storeRow 1 ?_ rfl rfl rfl rfl rfl rfl rfl ?_; rfl; simp only [over, List.set_cons_zero, List.set_cons_succ]) | (refine SXl.storeRow 2 ?_ rfl rfl rfl rfl rfl rfl rfl ?_; rfl; simp only [over, List.set_cons_zero, List.set_cons_succ])))
  refine l_buildSlice ?_
  refine SXl.litRow1 (sz := 64) (r := rowP (x, ⟨a1, c1, a2, c2⟩)) rfl rfl rfl rfl rfl (by decide) (by decide) (fun g5 => ?_)
  skip
  refine l_append ?_
  refine SXl.append 2 0 rfl rfl rfl rfl rfl rfl rfl (rowP_ones _) (by omega) (by omega) (fun a3 c3 => ?_)
  repeat (first | refine SXl.nil ?_ | refine SX.region ?_ | refine SQ.thenNormal ?_ | (refine l_fieldAddr ?_; (refine SXl.v (OpW.fieldAddr rfl) rfl ?_ ?_ ?_); rfl; rfl) | (refine l_move ?_; (refine SXl.v (OpW.move rfl) rfl ?_ ?_ ?_); rfl; rfl) | (refine l_assign ?_; (refine SXl.v (OpW.assign rfl) rfl ?_ ?_ ?_); rfl; rfl) | (refine l_add ?_; (refine SXl.v (OpW.succ rfl rfl (by omega)) rfl ?_ ?_ ?_); rfl; rfl) | (refine l_store ?_; first | (refine SXl.store 0 ?_ rfl rfl rfl rfl rfl rfl ?_; rfl; simp only [List.set_cons_zero, List.set_cons_succ]) | (refine SXl.store 1 ?_ rfl rfl rfl rfl rfl rfl ?_; rfl; simp only [List.set_cons_zero, List.set_cons_succ]) | (refine SXl.store 2 ?_ rfl rfl rfl rfl rfl rfl ?_; rfl; simp only [List.set_cons_zero, List.set_cons_succ]) | (refine SXl.storeAll 0 ?_ rfl rfl rfl rfl rfl rfl rfl ?_; rfl; simp only [List.set_cons_zero, List.set_cons_succ]) | (refine SXl.storeAll 1 ?_ rfl rfl rfl rfl rfl rfl rfl ?_; rfl; simp only [List.set_cons_zero, List.set_cons_succ]) | (refine SXl.storeAll 2 ?_ rfl rfl rfl rfl rfl rfl rfl ?_; rfl; simp only [List.set_cons_zero, List.set_cons_succ]) | (refine SXl.storeRow 0 ?_ rfl rfl rfl rfl rfl rfl rfl ?_; rfl; simp only [over, List.set_cons_zero, List.set_cons_succ]) | (refine SXl.storeRow 1 ?_ rfl rfl rfl rfl rfl rfl rfl ?_; rfl; simp only [over, List.set_cons_zero, List.set_cons_succ]) | (refine SXl.storeRow 2 ?_ rfl rfl rfl rfl rfl rfl rfl ?_; rfl; simp only [over, List.set_cons_zero, List.set_cons_succ])) | refine SQ.blockNormal ?_)
  refine SQ.round3 (k + 1) ⟨q.ps ++ [(x, ⟨a1, c1, a2, c2⟩)], a3, c3⟩ () ⟨by omega, ?_⟩ (by omega) ?_ (fun w hl => by
    show Loc _ _ (⟨_, [.slice a3 (q.ps ++ [_]).length c3], _⟩ :: _) _ _ _
    rw [List.length_append]
    exact hl.drop2.treePush)
  · show bare (q.ps ++ [(x, _)]) = _
    rw [List.take_add_one, hxk.out, bare, List.map_append, ← hq]; rfl
  · (repeat (first | exact subF_nil _ | (refine subF_cons rfl ?_) | (refine subF_consv rfl (by rw [List.length_append]; rfl) ?_)))
end Go.Proofs.Ytkkjjhooamlljaa
namespace Go.Proofs.Ytkkjjhooamlljaa
open Go.RowKit
set_option linter.unusedVariables false
set_option linter.unusedSimpArgs false


end Go.Proofs.Ytkkjjhooamlljaa
namespace Go.Proofs.Ytkkjjhooamlljaa
open Go.RowKit
set_option linter.unusedVariables false
set_option linter.unusedSimpArgs false

def intsO (l : List Int) (q : Option Addr × Nat) : Own := ⟨.slice q.1 l.length q.2, 3, 1, l.length, (l.map icell).flatten⟩
def rulesOf (l : List Rule) (q : Option Addr × Nat) : Own := ⟨.slice q.1 l.length q.2, 145, 3, l.length, (l.map Rule.cells).flatten⟩
set_option maxRecDepth 100000 in
set_option maxHeartbeats 4000000 in
theorem copyInts_any (l : List Int) (a : Option Addr) (m c : Nat) (R : Nat → Prop) (w : World) (hm : m = l.length) (hl : l.length ≤ 1048576) (h : IntSlice R w a l) :
    Calls Try.prog 56 #[.slice a m c] w (NewO (Option Addr × Nat) (fun q => .slice q.1 l.length q.2) (fun q => [intsO l q]) (fun _ => True) w) := by
  refine calls_sx Try.func56 rfl rfl (fun a h1 h2 h3 => ((Fr.nil h1 h2).arg (h3 0 _ rfl))) ?_
  refine SX.ownNil 3 1 ?_
  repeat (first | refine SX.seq ?_ | refine SXl.nil ?_ | refine SX.region ?_ | refine SQ.thenNormal ?_ | (refine l_move ?_; (refine SXl.v (OpW.move rfl) rfl ?_ ?_ ?_); rfl; rfl) | (refine l_assign ?_; (refine SXl.v (OpW.assign rfl) rfl ?_ ?_ ?_); rfl; rfl))
  refine l_append ?_
  refine SXl.appendS (cs := icell) 0 l rfl rfl rfl rfl rfl hm (fun _ => rfl) icell_one1 (fun w hl => ⟨_, SliceAt.flatKeep h hl.mod⟩) (by omega) (by omega) (fun a1 c1 => ?_)
  simp only [List.set_cons_zero, Nat.zero_add, List.nil_append]
  repeat (first | refine SXl.nil ?_ | refine SQ.thenNormal ?_ | (refine l_assign ?_; (refine SXl.v (OpW.assign rfl) rfl ?_ ?_ ?_); rfl; rfl) | refine SX.ret ?_)
  refine SQ.body1 rfl rfl (fun w' hl => ⟨(a1, c1), rfl, trivial, hl.owns, hl.mod⟩)
set_option maxRecDepth 100000 in
set_option maxHeartbeats 4000000 in
theorem copyTable_any (l : List Rule) (a : Option Addr) (c : Nat) (R : Nat → Prop) (w : World) (hl : l.length ≤ 1048576) (h : SliceAt (Flat Rule.cells) 3 R w a l) :
    Calls Try.prog 57 #[.agg #[.slice a l.length c]] w (NewO (Option Addr × Nat) (fun q => .agg [.slice q.1 l.length q.2].toArray) (fun q => [rulesOf l q]) (fun _ => True) w) := by
  refine calls_sx Try.func57 rfl rfl (fun a h1 h2 h3 => ((Fr.nil h1 h2).arg (h3 0 _ rfl))) ?_
  refine SX.ownNil 145 3 ?_
  repeat (first | refine SX.seq ?_ | refine SXl.nil ?_ | refine SX.region ?_ | refine SQ.thenNormal ?_ | (refine l_load ?_; (refine SXl.v (OpW.load 1 rfl rfl rfl) rfl ?_ ?_ ?_); rfl; rfl) | (refine l_fieldAddr ?_; (refine SXl.v (OpW.fieldAddr rfl) rfl ?_ ?_ ?_); rfl; rfl) | (refine l_alloc ?_; refine SXl.alloc ?_ ?_ (fun g => ?_); rfl; rfl) | (refine l_box ?_; refine SXl.box ?_ ?_ rfl rfl (fun g => ?_); rfl; rfl))
  refine l_append ?_
  refine SXl.appendS (cs := Rule.cells) 0 l rfl rfl rfl rfl rfl rfl (fun _ => rfl) rule_one1 (fun w hl => ⟨_, SliceAt.flatKeep h hl.mod⟩) (by omega) (by omega) (fun a1 c1 => ?_)
  simp only [List.set_cons_zero, Nat.zero_add, List.nil_append]
  repeat (first | refine SXl.nil ?_ | refine SQ.thenNormal ?_ | (refine l_build ?_; (refine SXl.v ((OpW.build (vals := [(0, .slice a1 l.length c1)]) (cells := [.slice a1 l.length c1]) rfl (by kernel_rfl))) rfl ?_ ?_ ?_); rfl; rfl) | (refine l_store ?_; first | (refine SXl.storeAll 0 ?_ rfl rfl rfl rfl rfl rfl rfl ?_; rfl; simp only [List.set_cons_zero, List.set_cons_succ]) | (refine SXl.storeAll 1 ?_ rfl rfl rfl rfl rfl rfl rfl ?_; rfl; simp only [List.set_cons_zero, List.set_cons_succ]) | (refine SXl.storeAll 2 ?_ rfl rfl rfl rfl rfl rfl rfl ?_; rfl; simp only [List.set_cons_zero, List.set_cons_succ]) | (refine SXl.storeRow 0 ?_ rfl rfl rfl rfl rfl rfl rfl ?_; rfl; simp only [over, List.set_cons_zero, List.set_cons_succ]) | (refine SXl.storeRow 1 ?_ rfl rfl rfl rfl rfl rfl rfl ?_; rfl; simp only [over, List.set_cons_zero, List.set_cons_succ]) | (refine SXl.storeRow 2 ?_ rfl rfl rfl rfl rfl rfl rfl ?_; rfl; simp only [over, List.set_cons_zero, List.set_cons_succ])) | refine SX.ret ?_)
  refine SQ.bodyCell 0 rfl rfl rfl rfl (fun w' hl => ⟨(a1, c1), rfl, trivial, hl.owns, hl.mod⟩)

set_option maxRecDepth 100000 in
set_option maxHeartbeats 8000000 in
theorem copyTree_any (l : List Node) (o : Bool) (a : Option Addr) (c : Nat) (R : Nat → Prop) (w : World) (hlen : l.length ≤ 1048576) (hfit : ∀ x ∈ l, x.fits 1048576) (h : NodeSlice o R w a l) :
    Calls Try.prog 37 #[.agg #[.slice a l.length c]] w (NewTree l w) := by
  refine calls_sx Try.func37 rfl rfl (fun a h1 h2 h3 => ((Fr.nil h1 h2).arg (h3 0 _ rfl))) ?_
  repeat (first | refine SX.seq ?_ | refine SXl.nil ?_ | refine SX.region ?_ | refine SQ.thenNormal ?_ | refine SX.block ?_ | (refine l_load ?_; (refine SXl.v (OpW.load 2 rfl rfl rfl) rfl ?_ ?_ ?_); rfl; rfl) | (refine l_fieldAddr ?_; (refine SXl.v (OpW.fieldAddr rfl) rfl ?_ ?_ ?_); rfl; rfl) | (refine l_move ?_; (refine SXl.v (OpW.move rfl) rfl ?_ ?_ ?_); rfl; rfl) | (refine l_len ?_; (refine SXl.v (OpW.len rfl) rfl ?_ ?_ ?_); rfl; rfl) | (refine l_alloc ?_; refine SXl.alloc ?_ ?_ (fun g => ?_); rfl; rfl) | (refine l_box ?_; refine SXl.box ?_ ?_ rfl rfl (fun g => ?_); rfl; rfl))
  rename_i g1 g2
  refine SX.ownNil 112 64 ?_
  refine SX.loop3 (fun (k : Nat) (q : TreeQ) (_ : Unit) => k ≤ l.length ∧ bare q.ps = l.take k) (fun k _ _ => l.length - k) (fun _ q _ => [⟨g, [.slice q.a q.ps.length q.c], 35⟩, ⟨g2, [.slice none 0 0], 35⟩, ⟨g1, [.slice a l.length c], 35⟩]) (fun _ q _ => q.os) (fun _ _ _ => []) (fun k _ _ => [(2, .pointer (some ⟨g2, 0, none⟩)), (3, .pointer (some ⟨g, 0, none⟩)), (7, .slice a l.length c), (8, .int .i64 l.length), (9, .int .i64 k)]) 0 ⟨[], none, 0⟩ () ⟨Nat.zero_le _, rfl⟩ ?_ (fun w hl => hl) ?_
  · (repeat (first | exact subF_nil _ | (refine subF_cons rfl ?_) | (refine subF_consv rfl (by rfl) ?_)))
  rintro k q _ ⟨hk, hq⟩
  have hql : q.ps.length = k := by rw [← bare_len, hq, List.length_take]; omega
  by_cases hlt : k < l.length
  rotate_left
  · have hk' : k = l.length := by omega
    repeat (first | refine SX.seq ?_ | refine SXl.nil ?_ | refine SX.region ?_ | refine SQ.thenNormal ?_ | refine SX.condF rfl ?_ | (refine l_load ?_; (refine SXl.v (OpW.loadAll 0 rfl rfl rfl) rfl ?_ ?_ ?_); rfl; rfl) | (refine l_lss ?_; (refine SXl.v (OpW.lssF rfl rfl (by omega)) rfl ?_ ?_ ?_); rfl; rfl) | (refine l_store ?_; first | (refine SXl.store 0 ?_ rfl rfl rfl rfl rfl rfl ?_; rfl; simp only [List.set_cons_zero, List.set_cons_succ]) | (refine SXl.store 1 ?_ rfl rfl rfl rfl rfl rfl ?_; rfl; simp only [List.set_cons_zero, List.set_cons_succ]) | (refine SXl.store 2 ?_ rfl rfl rfl rfl rfl rfl ?_; rfl; simp only [List.set_cons_zero, List.set_cons_succ]) | (refine SXl.storeAll 0 ?_ rfl rfl rfl rfl rfl rfl rfl ?_; rfl; simp only [List.set_cons_zero, List.set_cons_succ]) | (refine SXl.storeAll 1 ?_ rfl rfl rfl rfl rfl rfl rfl ?_; rfl; simp only [List.set_cons_zero, List.set_cons_succ]) | (refine SXl.storeAll 2 ?_ rfl rfl rfl rfl rfl rfl rfl ?_; rfl; simp only [List.set_cons_zero, List.set_cons_succ]) | (refine SXl.storeRow 0 ?_ rfl rfl rfl rfl rfl rfl rfl ?_; rfl; simp only [over, List.set_cons_zero, List.set_cons_succ]) | (refine SXl.storeRow 1 ?_ rfl rfl rfl rfl rfl rfl rfl ?_; rfl; simp only [over, List.set_cons_zero, List.set_cons_succ]) | (refine SXl.storeRow 2 ?_ rfl rfl rfl rfl rfl rfl rfl ?_; rfl; simp only [over, List.set_cons_zero, List.set_cons_succ])) | refine SX.ret ?_ | refine SX.exit ?_ | refine SQ.thenExit ?_ | refine SQ.blockExit ?_)
    refine SQ.bodyCell 1 rfl rfl rfl rfl (fun w' hl => ⟨q, rfl, (show bare q.ps = l by rw [hq, hk', List.take_length]), hl.owns, hl.mod⟩)
  obtain ⟨b1, o1, x, r1, rfl, hR1, hb1, hxk, hr1, hl1, hc1⟩ := h.get hlt
  obtain ⟨ka, kc, ra, rc, rfl, hk1, ht1, _⟩ := hr1
  have hf := hfit x (List.mem_of_getElem? hxk.out)
  obtain ⟨hf1, hf2⟩ := hf
  repeat (first | refine SX.seq ?_ | refine SXl.nil ?_ | refine SX.region ?_ | refine SQ.thenNormal ?_ | refine SX.block ?_ | refine SX.skip ?_ | refine SX.condT rfl ?_ | (refine l_load ?_; (first | refine SXl.v (OpW.loadRowOld rfl hc1 (nodeRow_len _ _ _ _ _ _ _ _ _) (Nat.succ_pos _) (fun h => h)) rfl ?_ ?_ ?_ | refine SXl.v (OpW.load 0 rfl rfl rfl) rfl ?_ ?_ ?_); rfl; rfl) | (refine l_fieldAddr ?_; (refine SXl.v (OpW.fieldAddr rfl) rfl ?_ ?_ ?_); rfl; rfl) | (refine l_lss ?_; (refine SXl.v (OpW.lssT rfl rfl (by omega)) rfl ?_ ?_ ?_); rfl; rfl) | (refine l_indexAddr ?_; (refine SXl.v (OpW.indexAddr (by omega) rfl rfl) rfl ?_ ?_ ?_); rfl; rfl) | (refine l_alloc ?_; refine SXl.alloc ?_ ?_ (fun g => ?_); rfl; rfl) | (refine l_store ?_; first | (refine SXl.store 0 ?_ rfl rfl rfl rfl rfl rfl ?_; rfl; simp only [List.set_cons_zero, List.set_cons_succ]) | (refine SXl.store 1 ?_ rfl rfl rfl rfl rfl rfl ?_; rfl; simp only [List.set_cons_zero, List.set_cons_succ]) | (refine SXl.store 2 ?_ rfl rfl rfl rfl rfl rfl ?_; rfl; simp only [List.set_cons_zero, List.set_cons_succ]) | (refine SXl.storeAll 0 ?_ rfl rfl rfl rfl rfl rfl rfl ?_; rfl; simp only [List.set_cons_zero, List.set_cons_succ]) | (refine SXl.storeAll 1 ?_ rfl rfl rfl rfl rfl rfl rfl ?_; rfl; simp only [List.set_cons_zero, List.set_cons_succ]) | (refine SXl.storeAll 2 ?_ rfl rfl rfl rfl rfl rfl rfl ?_; rfl; simp only [List.set_cons_zero, List.set_cons_succ]) | (refine SXl.storeRow 0 ?_ rfl rfl rfl rfl rfl rfl rfl ?_; rfl; simp only [over, List.set_cons_zero, List.set_cons_succ]) | (refine SXl.storeRow 1 ?_ rfl rfl rfl rfl rfl rfl rfl ?_; rfl; simp only [over, List.set_cons_zero, List.set_cons_succ]) | (refine SXl.storeRow 2 ?_ rfl rfl rfl rfl rfl rfl rfl ?_; rfl; simp only [over, List.set_cons_zero, List.set_cons_succ])))
  refine l_call ?_
  refine SXl.callO rfl rfl rfl (fun w' hl => copyInts_any x.kids ka _ kc _ w' rfl (by omega) (SliceAt.flatKeep hk1 hl.mod)) (fun q1 _ => ?_)
  repeat (first | refine SX.seq ?_ | refine SXl.nil ?_ | refine SX.region ?_ | refine SQ.thenNormal ?_ | (refine l_load ?_; (refine SXl.v (OpW.loadRow 0 rfl rfl rfl rfl) rfl ?_ ?_ ?_); rfl; rfl) | (refine l_fieldAddr ?_; (refine SXl.v (OpW.fieldAddr rfl) rfl ?_ ?_ ?_); rfl; rfl) | (refine l_store ?_; first | (refine SXl.store 0 ?_ rfl rfl rfl rfl rfl rfl ?_; rfl; simp only [List.set_cons_zero, List.set_cons_succ]) | (refine SXl.store 1 ?_ rfl rfl rfl rfl rfl rfl ?_; rfl; simp only [List.set_cons_zero, List.set_cons_succ]) | (refine SXl.store 2 ?_ rfl rfl rfl rfl rfl rfl ?_; rfl; simp only [List.set_cons_zero, List.set_cons_succ]) | (refine SXl.storeAll 0 ?_ rfl rfl rfl rfl rfl rfl rfl ?_; rfl; simp only [List.set_cons_zero, List.set_cons_succ]) | (refine SXl.storeAll 1 ?_ rfl rfl rfl rfl rfl rfl rfl ?_; rfl; simp only [List.set_cons_zero, List.set_cons_succ]) | (refine SXl.storeAll 2 ?_ rfl rfl rfl rfl rfl rfl rfl ?_; rfl; simp only [List.set_cons_zero, List.set_cons_succ]) | (refine SXl.storeRow 0 ?_ rfl rfl rfl rfl rfl rfl rfl ?_; rfl; simp only [over, List.set_cons_zero, List.set_cons_succ]) | (refine SXl.storeRow 1 ?_ rfl rfl rfl rfl rfl rfl rfl ?_; rfl; simp only [over, List.set_cons_zero, List.set_cons_succ]) | (refine SXl.storeRow 2 ?_ rfl rfl rfl rfl rfl rfl rfl ?_; rfl; simp only [over, List.set_cons_zero, List.set_cons_succ])))
  refine l_call ?_
  refine SXl.callO rfl rfl rfl (fun w' hl => copyTable_any x.rules ra rc _ w' (by omega) (SliceAt.flatKeep ht1 hl.mod)) (fun q2 _ => ?_)
  repeat (first | refine SXl.nil ?_ | refine SX.region ?_ | refine SQ.thenNormal ?_ | (refine l_load ?_; (first | refine SXl.v (OpW.load 1 rfl rfl rfl) rfl ?_ ?_ ?_ | refine SXl.v (OpW.loadAll 0 rfl rfl rfl) rfl ?_ ?_ ?_); rfl; rfl) | (refine l_fieldAddr ?_; (refine SXl.v (OpW.fieldAddr rfl) rfl ?_ ?_ ?_); rfl; rfl) | (refine l_store ?_; first | (refine SXl.store 0 ?_ rfl rfl rfl rfl rfl rfl ?_; rfl; simp only [List.set_cons_zero, List.set_cons_succ]) | (refine SXl.store 1 ?_ rfl rfl rfl rfl rfl rfl ?_; rfl; simp only [List.set_cons_zero, List.set_cons_succ]) | (refine SXl.store 2 ?_ rfl rfl rfl rfl rfl rfl ?_; rfl; simp only [List.set_cons_zero, List.set_cons_succ]) | (refine SXl.storeAll 0 ?_ rfl rfl rfl rfl rfl rfl rfl ?_; rfl; simp only [List.set_cons_zero, List.set_cons_succ]) | (refine SXl.storeAll 1 ?_ rfl rfl rfl rfl rfl rfl rfl ?_; rfl; simp only [List.set_cons_zero, List.set_cons_succ]) | (refine SXl.storeAll 2 ?_ rfl rfl rfl rfl rfl rfl rfl ?_; rfl; simp only [List.set_cons_zero, List.set_cons_succ]) | (refine SXl.storeRow 0 ?_ rfl rfl rfl rfl rfl rfl rfl ?_; rfl; simp only [over, List.set_cons_zero, List.set_cons_succ]) | (refine SXl.storeRow 1 ?_ rfl rfl rfl rfl rfl rfl rfl ?_; rfl; simp only [over, List.set_cons_zero, List.set_cons_succ]) | (refine SXl.storeRow 2 ?_ rfl rfl rfl rfl rfl rfl rfl ?_; rfl; simp only [over, List.set_cons_zero, List.set_cons_succ])))
  refine l_buildSlice ?_
  refine SXl.litRow1 (sz := 64) (r := rowP (x, ⟨q1.1, q1.2, q2.1, q2.2⟩)) rfl rfl rfl rfl rfl (by decide) (by decide) (fun g5 => ?_)
  skip
  refine l_append ?_
  refine SXl.append 2 0 rfl rfl rfl rfl rfl rfl rfl (rowP_ones _) (by omega) (by omega) (fun a3 c3 => ?_)
  repeat (first | refine SXl.nil ?_ | refine SX.region ?_ | refine SQ.thenNormal ?_ | (refine l_fieldAddr ?_; (refine SXl.v (OpW.fieldAddr rfl) rfl ?_ ?_ ?_); rfl; rfl) | (refine l_move ?_; (refine SXl.v (OpW.move rfl) rfl ?_ ?_ ?_); rfl; rfl) | (refine l_add ?_; (refine SXl.v (OpW.succ rfl rfl (by omega)) rfl ?_ ?_ ?_); rfl; rfl) | (refine l_store ?_; first | (refine SXl.store 0 ?_ rfl rfl rfl rfl rfl rfl ?_; rfl; simp only [List.set_cons_zero, List.set_cons_succ]) | (refine SXl.store 1 ?_ rfl rfl rfl rfl rfl rfl ?_; rfl; simp only [List.set_cons_zero, List.set_cons_succ]) | (refine SXl.store 2 ?_ rfl rfl rfl rfl rfl rfl ?_; rfl; simp only [List.set_cons_zero, List.set_cons_succ]) | (refine SXl.storeAll 0 ?_ rfl rfl rfl rfl rfl rfl rfl ?_; rfl; simp only [List.set_cons_zero, List.set_cons_succ]) | (refine SXl.storeAll 1 ?_ rfl rfl rfl rfl rfl rfl rfl ?_; rfl; simp only [List.set_cons_zero, List.set_cons_succ]) | (refine SXl.storeAll 2 ?_ rfl rfl rfl rfl rfl rfl rfl ?_; rfl; simp only [List.set_cons_zero, List.set_cons_succ]) | (refine SXl.storeRow 0 ?_ rfl rfl rfl rfl rfl rfl rfl ?_; rfl; simp only [over, List.set_cons_zero, List.set_cons_succ]) | (refine SXl.storeRow 1 ?_ rfl rfl rfl rfl rfl rfl rfl ?_; rfl; simp only [over, List.set_cons_zero, List.set_cons_succ]) | (refine SXl.storeRow 2 ?_ rfl rfl rfl rfl rfl rfl rfl ?_; rfl; simp only [over, List.set_cons_zero, List.set_cons_succ])) | refine SQ.blockNormal ?_)
  refine SQ.round3 (k + 1) ⟨q.ps ++ [(x, ⟨q1.1, q1.2, q2.1, q2.2⟩)], a3, c3⟩ () ⟨by omega, ?_⟩ (by omega) ?_ (fun w hl => by
    show Loc _ _ (⟨_, [.slice a3 (q.ps ++ [_]).length c3], _⟩ :: _) _ _ _
    rw [List.length_append]
    exact hl.drop2.treePush)
  · show bare (q.ps ++ [(x, _)]) = _
    rw [List.take_add_one, hxk.out, bare, List.map_append, ← hq]; rfl
  · (repeat (first | exact subF_nil _ | (refine subF_cons rfl ?_) | (refine subF_consv rfl (by rw [List.length_append]; rfl) ?_)))
end Go.Proofs.Ytkkjjhooamlljaa
namespace Go.Proofs.Ytkkjjhooamlljaa
open Go.RowKit
set_option linter.unusedVariables false
set_option linter.unusedSimpArgs false

theorem frameB_one (x : Frame) : ∀ u ∈ x.cells, u.oneCell' = true := fun u hu => by
  simp [Frame.cells] at hu
  rcases hu with rfl | rfl | rfl | rfl | rfl <;> rfl
theorem askedB_one (x : Asked) : ∀ u ∈ x.cells, u.oneCell' = true := fun u hu => by
  simp [Asked.cells] at hu
  rcases hu with rfl | rfl | rfl | rfl | rfl | rfl <;> rfl
set_option maxRecDepth 100000 in
set_option maxHeartbeats 8000000 in
theorem copyFrames_o (fs : List Frame) (a : Option Addr) (m c : Nat) (R : Nat → Prop) (w : World) (hm : m = fs.length) (hl : fs.length ≤ 1048576) (h : SliceAt (Flat Frame.cells) 5 R w a fs) :
    Calls Try.prog 39 #[.slice a m c] w (NewO (Option Addr × Nat) (fun q => .slice q.1 fs.length q.2) (fun q => [framesO fs q]) (fun _ => True) w) := by
  refine calls_sx Try.func39 rfl rfl (fun a h1 h2 h3 => ((Fr.nil h1 h2).arg (h3 0 _ rfl))) ?_
  refine SX.ownNil 69 5 ?_
  repeat (first | refine SX.seq ?_ | refine SXl.nil ?_ | refine SX.region ?_ | refine SQ.thenNormal ?_ | (refine l_move ?_; (refine SXl.v (OpW.move rfl) rfl ?_ ?_ ?_); rfl; rfl) | (refine l_assign ?_; (refine SXl.v (OpW.assign rfl) rfl ?_ ?_ ?_); rfl; rfl))
  refine l_append ?_
  refine SXl.appendS (cs := Frame.cells) 0 fs rfl rfl rfl rfl rfl hm (fun _ => rfl) frameB_one (fun w hl => ⟨_, h.flatKeep hl.mod⟩) (by omega) (by omega) (fun a2 c2 => ?_)
  simp only [List.set_cons_zero, Nat.zero_add, List.nil_append]
  repeat (first | refine SXl.nil ?_ | refine SQ.thenNormal ?_ | (refine l_assign ?_; (refine SXl.v (OpW.assign rfl) rfl ?_ ?_ ?_); rfl; rfl) | refine SX.ret ?_)
  refine SQ.body1 rfl rfl (fun w' hl => ⟨(a2, c2), rfl, trivial, hl.owns, hl.mod⟩)
set_option maxRecDepth 100000 in
set_option maxHeartbeats 8000000 in
theorem copyBox_o (bw bh bb : Int) (fs : List Frame) (a : Option Addr) (c : Nat) (R : Nat → Prop) (w : World) (hl : fs.length ≤ 1048576) (h : SliceAt (Flat Frame.cells) 5 R w a fs) :
    Calls Try.prog 58 #[.agg #[.int .i64 bw, .int .i64 bh, .int .i64 bb, .slice a fs.length c]] w (NewO (Option Addr × Nat) (fun q => .agg [.int .i64 bw, .int .i64 bh, .int .i64 bb, .slice q.1 fs.length q.2].toArray) (fun q => [framesO fs q]) (fun _ => True) w) := by
  refine calls_sx Try.func58 rfl rfl (fun a h1 h2 h3 => ((Fr.nil h1 h2).arg (h3 0 _ rfl))) ?_
  repeat (first | refine SX.seq ?_ | refine SXl.nil ?_ | refine SX.region ?_ | refine SQ.thenNormal ?_ | (refine l_load ?_; (refine SXl.v (OpW.load 1 rfl rfl rfl) rfl ?_ ?_ ?_); rfl; rfl) | (refine l_fieldAddr ?_; (refine SXl.v (OpW.fieldAddr rfl) rfl ?_ ?_ ?_); rfl; rfl) | (refine l_alloc ?_; refine SXl.alloc ?_ ?_ (fun g => ?_); rfl; rfl) | (refine l_box ?_; refine SXl.box ?_ ?_ rfl rfl (fun g => ?_); rfl; rfl))
  refine l_call ?_
  refine SXl.callO rfl rfl rfl (fun w' hl' => copyFrames_o fs a _ c R w' rfl hl (h.flatKeep hl'.mod)) (fun q _ => ?_)
  repeat (first | refine SX.seq ?_ | refine SXl.nil ?_ | refine SX.region ?_ | refine SQ.thenNormal ?_ | (refine l_load ?_; (refine SXl.v (OpW.loadAll 1 rfl rfl rfl) rfl ?_ ?_ ?_); rfl; rfl) | (refine l_fieldAddr ?_; (refine SXl.v (OpW.fieldAddr rfl) rfl ?_ ?_ ?_); rfl; rfl) | (refine l_store ?_; first | (refine SXl.store 0 ?_ rfl rfl rfl rfl rfl rfl ?_; rfl; simp only [List.set_cons_zero, List.set_cons_succ]) | (refine SXl.store 1 ?_ rfl rfl rfl rfl rfl rfl ?_; rfl; simp only [List.set_cons_zero, List.set_cons_succ]) | (refine SXl.store 2 ?_ rfl rfl rfl rfl rfl rfl ?_; rfl; simp only [List.set_cons_zero, List.set_cons_succ]) | (refine SXl.storeAll 0 ?_ rfl rfl rfl rfl rfl rfl rfl ?_; rfl; simp only [List.set_cons_zero, List.set_cons_succ]) | (refine SXl.storeAll 1 ?_ rfl rfl rfl rfl rfl rfl rfl ?_; rfl; simp only [List.set_cons_zero, List.set_cons_succ]) | (refine SXl.storeAll 2 ?_ rfl rfl rfl rfl rfl rfl rfl ?_; rfl; simp only [List.set_cons_zero, List.set_cons_succ]) | (refine SXl.storeRow 0 ?_ rfl rfl rfl rfl rfl rfl rfl ?_; rfl; simp only [over, List.set_cons_zero, List.set_cons_succ]) | (refine SXl.storeRow 1 ?_ rfl rfl rfl rfl rfl rfl rfl ?_; rfl; simp only [over, List.set_cons_zero, List.set_cons_succ]) | (refine SXl.storeRow 2 ?_ rfl rfl rfl rfl rfl rfl rfl ?_; rfl; simp only [over, List.set_cons_zero, List.set_cons_succ])) | refine SX.ret ?_)
  refine SQ.bodyCell 0 rfl rfl rfl rfl (fun w' hl => ⟨q, rfl, trivial, hl.owns.left, hl.mod⟩)
set_option maxRecDepth 100000 in
set_option maxHeartbeats 8000000 in
theorem copyKept_d (ms : List Memo) (as_ : List Asked) (o : Bool) (a b : Option Addr) (c d : Nat) (R : Nat → Prop) (w : World) (hl : ms.length ≤ 1048576) (hf : ∀ x ∈ ms, x.frames.length ≤ 1048576) (hal : as_.length ≤ 1048576) (h : MemoSlice o R w a ms) (h' : AskedSlice R w b as_) :
    Calls Try.prog 38 #[.agg #[.slice a ms.length c, .slice b as_.length d]] w (NewO ((Option Addr × Nat) × (Option Addr × Nat)) (fun q => .agg [.slice q.1.1 ms.length q.1.2, .slice q.2.1 as_.length q.2.2].toArray) (fun _ => []) (fun _ => True) w) := by
  refine calls_sx Try.func38 rfl rfl (fun a h1 h2 h3 => ((Fr.nil h1 h2).arg (h3 0 _ rfl))) ?_
  refine SX.ownNil 122 6 ?_
  repeat (first | refine SX.seq ?_ | refine SXl.nil ?_ | refine SX.region ?_ | refine SQ.thenNormal ?_ | (refine l_load ?_; (refine SXl.v (OpW.load 1 rfl rfl rfl) rfl ?_ ?_ ?_); rfl; rfl) | (refine l_fieldAddr ?_; (refine SXl.v (OpW.fieldAddr rfl) rfl ?_ ?_ ?_); rfl; rfl) | (refine l_alloc ?_; refine SXl.alloc ?_ ?_ (fun g => ?_); rfl; rfl) | (refine l_box ?_; refine SXl.box ?_ ?_ rfl rfl (fun g => ?_); rfl; rfl))
  refine l_append ?_
  refine SXl.appendS (cs := Asked.cells) 0 as_ rfl rfl rfl rfl rfl rfl (fun _ => rfl) askedB_one (fun w hl => ⟨_, SliceAt.flatKeep h' hl.mod⟩) (by omega) (by omega) (fun a2 c2 => ?_)
  simp only [List.set_cons_zero, Nat.zero_add, List.nil_append]
  refine SXl.ownNil 117 10 ?_
  repeat (first | refine SX.seq ?_ | refine SXl.nil ?_ | refine SX.region ?_ | refine SQ.thenNormal ?_ | refine SX.block ?_ | (refine l_build ?_; (refine SXl.v ((OpW.build (vals := [(1, .slice a2 as_.length c2)]) (cells := [.slice none 0 0, .slice a2 as_.length c2]) rfl (by kernel_rfl))) rfl ?_ ?_ ?_); rfl; rfl) | (refine l_load ?_; (refine SXl.v (OpW.load 2 rfl rfl rfl) rfl ?_ ?_ ?_); rfl; rfl) | (refine l_fieldAddr ?_; (refine SXl.v (OpW.fieldAddr rfl) rfl ?_ ?_ ?_); rfl; rfl) | (refine l_move ?_; (refine SXl.v (OpW.move rfl) rfl ?_ ?_ ?_); rfl; rfl) | (refine l_len ?_; (refine SXl.v (OpW.len rfl) rfl ?_ ?_ ?_); rfl; rfl) | (refine l_alloc ?_; refine SXl.alloc ?_ ?_ (fun g => ?_); rfl; rfl) | (refine l_store ?_; first | (refine SXl.store 0 ?_ rfl rfl rfl rfl rfl rfl ?_; rfl; simp only [List.set_cons_zero, List.set_cons_succ]) | (refine SXl.store 1 ?_ rfl rfl rfl rfl rfl rfl ?_; rfl; simp only [List.set_cons_zero, List.set_cons_succ]) | (refine SXl.store 2 ?_ rfl rfl rfl rfl rfl rfl ?_; rfl; simp only [List.set_cons_zero, List.set_cons_succ]) | (refine SXl.storeAll 0 ?_ rfl rfl rfl rfl rfl rfl rfl ?_; rfl; simp only [List.set_cons_zero, List.set_cons_succ]) | (refine SXl.storeAll 1 ?_ rfl rfl rfl rfl rfl rfl rfl ?_; rfl; simp only [List.set_cons_zero, List.set_cons_succ]) | (refine SXl.storeAll 2 ?_ rfl rfl rfl rfl rfl rfl rfl ?_; rfl; simp only [List.set_cons_zero, List.set_cons_succ]) | (refine SXl.storeRow 0 ?_ rfl rfl rfl rfl rfl rfl rfl ?_; rfl; simp only [over, List.set_cons_zero, List.set_cons_succ]) | (refine SXl.storeRow 1 ?_ rfl rfl rfl rfl rfl rfl rfl ?_; rfl; simp only [over, List.set_cons_zero, List.set_cons_succ]) | (refine SXl.storeRow 2 ?_ rfl rfl rfl rfl rfl rfl rfl ?_; rfl; simp only [over, List.set_cons_zero, List.set_cons_succ])))
  rename_i g1 g2
  refine SX.loop3 (fun (k : Nat) (_ : Option Addr × Nat) (_ : List Value) => k ≤ ms.length) (fun k _ _ => ms.length - k) (fun k q _ => [⟨g, [.slice q.1 k q.2, .slice a2 as_.length c2], 39⟩, ⟨g2, [.slice none 0 0, .slice none 0 0], 39⟩, ⟨g1, [.slice a ms.length c, .slice b as_.length d], 39⟩]) (fun k q xs => [⟨.slice q.1 k q.2, 117, 10, k, xs⟩]) (fun _ _ _ => []) (fun k _ _ => [(2, .pointer (some ⟨g2, 0, none⟩)), (3, .pointer (some ⟨g, 0, none⟩)), (11, .slice a ms.length c), (12, .int .i64 ms.length), (13, .int .i64 k)]) 0 (none, 0) [] (Nat.zero_le _) ?_ (fun w hl => hl.ownSub (List.cons_sublist_cons.2 (List.nil_sublist _))) ?_
  · (repeat (first | exact subF_nil _ | (refine subF_cons rfl ?_) | (refine subF_consv rfl (by rfl) ?_)))
  rintro k ⟨qa, qc⟩ xs hk
  by_cases hlt : k < ms.length
  rotate_left
  · obtain rfl : k = ms.length := by omega
    repeat (first | refine SX.seq ?_ | refine SXl.nil ?_ | refine SX.region ?_ | refine SQ.thenNormal ?_ | refine SX.condF rfl ?_ | (refine l_load ?_; (refine SXl.v (OpW.loadAll 0 rfl rfl rfl) rfl ?_ ?_ ?_); rfl; rfl) | (refine l_lss ?_; (refine SXl.v (OpW.lssF rfl rfl (by omega)) rfl ?_ ?_ ?_); rfl; rfl) | (refine l_store ?_; first | (refine SXl.store 0 ?_ rfl rfl rfl rfl rfl rfl ?_; rfl; simp only [List.set_cons_zero, List.set_cons_succ]) | (refine SXl.store 1 ?_ rfl rfl rfl rfl rfl rfl ?_; rfl; simp only [List.set_cons_zero, List.set_cons_succ]) | (refine SXl.store 2 ?_ rfl rfl rfl rfl rfl rfl ?_; rfl; simp only [List.set_cons_zero, List.set_cons_succ]) | (refine SXl.storeAll 0 ?_ rfl rfl rfl rfl rfl rfl rfl ?_; rfl; simp only [List.set_cons_zero, List.set_cons_succ]) | (refine SXl.storeAll 1 ?_ rfl rfl rfl rfl rfl rfl rfl ?_; rfl; simp only [List.set_cons_zero, List.set_cons_succ]) | (refine SXl.storeAll 2 ?_ rfl rfl rfl rfl rfl rfl rfl ?_; rfl; simp only [List.set_cons_zero, List.set_cons_succ]) | (refine SXl.storeRow 0 ?_ rfl rfl rfl rfl rfl rfl rfl ?_; rfl; simp only [over, List.set_cons_zero, List.set_cons_succ]) | (refine SXl.storeRow 1 ?_ rfl rfl rfl rfl rfl rfl rfl ?_; rfl; simp only [over, List.set_cons_zero, List.set_cons_succ]) | (refine SXl.storeRow 2 ?_ rfl rfl rfl rfl rfl rfl rfl ?_; rfl; simp only [over, List.set_cons_zero, List.set_cons_succ])) | refine SX.ret ?_ | refine SX.exit ?_ | refine SQ.thenExit ?_ | refine SQ.blockExit ?_)
    refine SQ.bodyCell 1 rfl rfl rfl rfl (fun w' hl => ⟨((qa, qc), (a2, c2)), rfl, trivial, hl.dropO.owns, hl.mod⟩)
  obtain ⟨b1, o1, x, r1, rfl, hR1, hb1, hxk, hr1, hl1, hc1⟩ := h.get hlt
  obtain ⟨fa, fc, rfl, hfr, _⟩ := hr1
  have hfx := hf x (List.mem_of_getElem? hxk.out)
  have hB := fun (w' : World) (hm : Mod (fun _ => False) w w') => copyBox_o x.bw x.bh x.bb x.frames fa fc R w' hfx (hfr.flatKeep hm)
  unfold memoRow at hc1
  repeat (first | refine SX.seq ?_ | refine SXl.nil ?_ | refine SX.region ?_ | refine SQ.thenNormal ?_ | refine SX.block ?_ | refine SX.skip ?_ | refine SX.condT rfl ?_ | (refine l_load ?_; (first | refine SXl.v (OpW.loadRowOld rfl hc1 rfl (Nat.succ_pos _) (fun h => h)) rfl ?_ ?_ ?_ | refine SXl.v (OpW.loadRow 0 rfl rfl rfl rfl) rfl ?_ ?_ ?_); rfl; rfl) | (refine l_fieldAddr ?_; (refine SXl.v (OpW.fieldAddr rfl) rfl ?_ ?_ ?_); rfl; rfl) | (refine l_lss ?_; (refine SXl.v (OpW.lssT rfl rfl (by omega)) rfl ?_ ?_ ?_); rfl; rfl) | (refine l_indexAddr ?_; (refine SXl.v (OpW.indexAddr (by omega) rfl rfl) rfl ?_ ?_ ?_); rfl; rfl) | (refine l_alloc ?_; refine SXl.alloc ?_ ?_ (fun g => ?_); rfl; rfl) | (refine l_store ?_; first | (refine SXl.store 0 ?_ rfl rfl rfl rfl rfl rfl ?_; rfl; simp only [List.set_cons_zero, List.set_cons_succ]) | (refine SXl.store 1 ?_ rfl rfl rfl rfl rfl rfl ?_; rfl; simp only [List.set_cons_zero, List.set_cons_succ]) | (refine SXl.store 2 ?_ rfl rfl rfl rfl rfl rfl ?_; rfl; simp only [List.set_cons_zero, List.set_cons_succ]) | (refine SXl.storeAll 0 ?_ rfl rfl rfl rfl rfl rfl rfl ?_; rfl; simp only [List.set_cons_zero, List.set_cons_succ]) | (refine SXl.storeAll 1 ?_ rfl rfl rfl rfl rfl rfl rfl ?_; rfl; simp only [List.set_cons_zero, List.set_cons_succ]) | (refine SXl.storeAll 2 ?_ rfl rfl rfl rfl rfl rfl rfl ?_; rfl; simp only [List.set_cons_zero, List.set_cons_succ]) | (refine SXl.storeRow 0 ?_ rfl rfl rfl rfl rfl rfl rfl ?_; rfl; simp only [over, List.set_cons_zero, List.set_cons_succ]) | (refine SXl.storeRow 1 ?_ rfl rfl rfl rfl rfl rfl rfl ?_; rfl; simp only [over, List.set_cons_zero, List.set_cons_succ]) | (refine SXl.storeRow 2 ?_ rfl rfl rfl rfl rfl rfl rfl ?_; rfl; simp only [over, List.set_cons_zero, List.set_cons_succ])))
  refine l_call ?_
  refine SXl.callO rfl rfl rfl (fun w' hl => hB w' hl.mod) (fun q1 _ => ?_)
  simp only [List.cons_append, List.nil_append]
  repeat (first | refine SXl.nil ?_ | refine SX.region ?_ | refine SQ.thenNormal ?_ | (refine l_load ?_; (first | refine SXl.v (OpW.load 1 rfl rfl rfl) rfl ?_ ?_ ?_ | refine SXl.v (OpW.loadAll 0 rfl rfl rfl) rfl ?_ ?_ ?_); rfl; rfl) | (refine l_fieldAddr ?_; (refine SXl.v (OpW.fieldAddr rfl) rfl ?_ ?_ ?_); rfl; rfl) | (refine l_store ?_; first | (refine SXl.store 0 ?_ rfl rfl rfl rfl rfl rfl ?_; rfl; simp only [List.set_cons_zero, List.set_cons_succ]) | (refine SXl.store 1 ?_ rfl rfl rfl rfl rfl rfl ?_; rfl; simp only [List.set_cons_zero, List.set_cons_succ]) | (refine SXl.store 2 ?_ rfl rfl rfl rfl rfl rfl ?_; rfl; simp only [List.set_cons_zero, List.set_cons_succ]) | (refine SXl.storeAll 0 ?_ rfl rfl rfl rfl rfl rfl rfl ?_; rfl; simp only [List.set_cons_zero, List.set_cons_succ]) | (refine SXl.storeAll 1 ?_ rfl rfl rfl rfl rfl rfl rfl ?_; rfl; simp only [List.set_cons_zero, List.set_cons_succ]) | (refine SXl.storeAll 2 ?_ rfl rfl rfl rfl rfl rfl rfl ?_; rfl; simp only [List.set_cons_zero, List.set_cons_succ]) | (refine SXl.storeRow 0 ?_ rfl rfl rfl rfl rfl rfl rfl ?_; rfl; simp only [over, List.set_cons_zero, List.set_cons_succ]) | (refine SXl.storeRow 1 ?_ rfl rfl rfl rfl rfl rfl rfl ?_; rfl; simp only [over, List.set_cons_zero, List.set_cons_succ]) | (refine SXl.storeRow 2 ?_ rfl rfl rfl rfl rfl rfl rfl ?_; rfl; simp only [over, List.set_cons_zero, List.set_cons_succ])))
  refine l_buildSlice ?_
  refine SXl.litRow1 (sz := 10) (r := memoRow x q1.1 q1.2) rfl rfl rfl rfl rfl (by decide) (by decide) (fun g5 => ?_)
  repeat (first | refine SXl.nil ?_ | refine SX.region ?_ | refine SQ.thenNormal ?_ | (refine l_fieldAddr ?_; (refine SXl.v (OpW.fieldAddr rfl) rfl ?_ ?_ ?_); rfl; rfl) | (refine l_move ?_; (refine SXl.v (OpW.move rfl) rfl ?_ ?_ ?_); rfl; rfl) | (refine l_add ?_; (refine SXl.v (OpW.succ rfl rfl (by omega)) rfl ?_ ?_ ?_); rfl; rfl) | (refine l_store ?_; first | (refine SXl.store 0 ?_ rfl rfl rfl rfl rfl rfl ?_; rfl; simp only [List.set_cons_zero, List.set_cons_succ]) | (refine SXl.store 1 ?_ rfl rfl rfl rfl rfl rfl ?_; rfl; simp only [List.set_cons_zero, List.set_cons_succ]) | (refine SXl.store 2 ?_ rfl rfl rfl rfl rfl rfl ?_; rfl; simp only [List.set_cons_zero, List.set_cons_succ]) | (refine SXl.storeAll 0 ?_ rfl rfl rfl rfl rfl rfl rfl ?_; rfl; simp only [List.set_cons_zero, List.set_cons_succ]) | (refine SXl.storeAll 1 ?_ rfl rfl rfl rfl rfl rfl rfl ?_; rfl; simp only [List.set_cons_zero, List.set_cons_succ]) | (refine SXl.storeAll 2 ?_ rfl rfl rfl rfl rfl rfl rfl ?_; rfl; simp only [List.set_cons_zero, List.set_cons_succ]) | (refine SXl.storeRow 0 ?_ rfl rfl rfl rfl rfl rfl rfl ?_; rfl; simp only [over, List.set_cons_zero, List.set_cons_succ]) | (refine SXl.storeRow 1 ?_ rfl rfl rfl rfl rfl rfl rfl ?_; rfl; simp only [over, List.set_cons_zero, List.set_cons_succ]) | (refine SXl.storeRow 2 ?_ rfl rfl rfl rfl rfl rfl rfl ?_; rfl; simp only [over, List.set_cons_zero, List.set_cons_succ])) | (refine l_append ?_; first | (refine SXl.append 0 0 rfl rfl rfl rfl rfl rfl rfl rfl (by omega) (by omega) (fun a c => ?_); simp only [List.set_cons_zero, List.set_cons_succ]) | (refine SXl.append 1 0 rfl rfl rfl rfl rfl rfl rfl rfl (by omega) (by omega) (fun a c => ?_); simp only [List.set_cons_zero, List.set_cons_succ])) | refine SQ.blockNormal ?_)
  refine SQ.round3 (k + 1) (_, _) (xs ++ memoRow x q1.1 q1.2) (by omega) (by omega) ?_ (fun w hl => hl.drop1.drop1.dropO)
  (repeat (first | exact subF_nil _ | (refine subF_cons rfl ?_) | (refine subF_consv rfl (by rfl) ?_)))
theorem engine_parts {x : Engine} {o : Bool} {R : Nat → Prop} {w : World} {ta ka kb fa : Option Addr} {tc kc kd fc : Nat} (h : EngineIn o R w [.slice ta x.tree.length tc, .slice ka x.kept.memos.length kc, .slice kb x.kept.asked.length kd, .slice fa x.frames.length fc, .int .i64 x.root, .int .i64 x.wide, .int .i64 x.high, .bool x.rtl] x) :
    NodeSlice o R w ta x.tree ∧ MemoSlice o R w ka x.kept.memos ∧ AskedSlice R w kb x.kept.asked ∧ SliceAt (Flat Frame.cells) 5 R w fa x.frames := by
  obtain ⟨t, k0, k1, f, c, e, ⟨a1, c1, et, h1, _⟩, ⟨a2, c2, a3, c3, ek, h2, h3, _⟩, h4, _⟩ := h
  simp only [List.cons.injEq, and_true] at e et ek
  obtain ⟨rfl, rfl, rfl, e2⟩ := e
  obtain ⟨e3, e4⟩ := ek
  simp only [Value.slice.injEq] at et e3 e4 e2
  obtain ⟨rfl, -, rfl⟩ := et
  obtain ⟨rfl, -, rfl⟩ := e3
  obtain ⟨rfl, -, rfl⟩ := e4
  obtain ⟨⟨rfl, -, rfl⟩, -⟩ := e2
  exact ⟨h1, h2, h3, h4⟩
abbrev BareQ := TreeQ × (Option Addr × Nat)
def bareQ (x : Engine) (q : BareQ) : Value := .agg (bareV q.1.ps q.1.a q.1.c x.frames q.2 x.root x.wide x.high x.rtl).toArray
def bareOs (x : Engine) (q : BareQ) : List Own := treeO q.1.ps q.1.a q.1.c ++ [framesO x.frames q.2]
set_option maxRecDepth 100000 in
set_option maxHeartbeats 8000000 in
theorem copyEngine_d (x : Engine) (o : Bool) (ta ka kb fa : Option Addr) (tc kc kd fc : Nat) (R : Nat → Prop) (w : World) (F : x.fits 1048576) (h : EngineIn o R w [.slice ta x.tree.length tc, .slice ka x.kept.memos.length kc, .slice kb x.kept.asked.length kd, .slice fa x.frames.length fc, .int .i64 x.root, .int .i64 x.wide, .int .i64 x.high, .bool x.rtl] x) :
    Calls Try.prog 18 #[.agg #[.slice ta x.tree.length tc, .slice ka x.kept.memos.length kc, .slice kb x.kept.asked.length kd, .slice fa x.frames.length fc, .int .i64 x.root, .int .i64 x.wide, .int .i64 x.high, .bool x.rtl]] w
      (NewO (BareQ × ((Option Addr × Nat) × (Option Addr × Nat))) (fun q => .agg [.slice q.1.1.a q.1.1.ps.length q.1.1.c, .slice q.2.1.1 x.kept.memos.length q.2.1.2, .slice q.2.2.1 x.kept.asked.length q.2.2.2, .slice q.1.2.1 x.frames.length q.1.2.2, .int .i64 x.root, .int .i64 x.wide, .int .i64 x.high, .bool x.rtl].toArray) (fun q => bareOs x q.1) (fun q => bare q.1.1.ps = x.tree) w) := by
  obtain ⟨hn, hm, ha, hf⟩ := engine_parts h
  obtain ⟨F1, ⟨F2, F3, F4⟩, F5⟩ := F
  refine calls_sx Try.func18 rfl rfl (fun a h1 h2 h3 => ((Fr.nil h1 h2).arg (h3 0 _ rfl))) ?_
  repeat (first | refine SX.seq ?_ | refine SXl.nil ?_ | refine SX.region ?_ | refine SQ.thenNormal ?_ | (refine l_load ?_; (refine SXl.v (OpW.loadRow 1 rfl rfl rfl rfl) rfl ?_ ?_ ?_); rfl; rfl) | (refine l_fieldAddr ?_; (refine SXl.v (OpW.fieldAddr rfl) rfl ?_ ?_ ?_); rfl; rfl) | (refine l_alloc ?_; refine SXl.alloc ?_ ?_ (fun g => ?_); rfl; rfl) | (refine l_box ?_; refine SXl.box ?_ ?_ rfl rfl (fun g => ?_); rfl; rfl))
  refine l_call ?_
  refine SXl.callO rfl rfl rfl (fun w' hl => copyTree_any x.tree o ta tc R w' F1.1 F1.2 (hn.keep hl.mod)) (fun q1 hq1 => ?_)
  obtain ⟨ps, pa, pc⟩ := q1
  simp only [TreeQ.v, TreeQ.os] at hq1 ⊢
  have hpl : ps.length = x.tree.length := by rw [← hq1, bare_len]
  have hK := fun (w' : World) (hm' : Mod (fun _ => False) w w') => copyKept_d x.kept.memos x.kept.asked o ka kb kc kd R w' F2 F4 F3 (hm.keep hm') (SliceAt.flatKeep ha hm')
  have hFr := fun (w' : World) (hm' : Mod (fun _ => False) w w') => copyFrames_o x.frames fa _ fc R w' rfl F5 (SliceAt.flatKeep hf hm')
  repeat (first | refine SX.seq ?_ | refine SXl.nil ?_ | refine SX.region ?_ | refine SQ.thenNormal ?_ | (refine l_load ?_; (refine SXl.v (OpW.loadRow 1 rfl rfl rfl rfl) rfl ?_ ?_ ?_); rfl; rfl) | (refine l_fieldAddr ?_; (refine SXl.v (OpW.fieldAddr rfl) rfl ?_ ?_ ?_); rfl; rfl) | (refine l_store ?_; first | (refine SXl.store 0 ?_ rfl rfl rfl rfl rfl rfl ?_; rfl; simp only [List.set_cons_zero, List.set_cons_succ]) | (refine SXl.store 1 ?_ rfl rfl rfl rfl rfl rfl ?_; rfl; simp only [List.set_cons_zero, List.set_cons_succ]) | (refine SXl.store 2 ?_ rfl rfl rfl rfl rfl rfl ?_; rfl; simp only [List.set_cons_zero, List.set_cons_succ]) | (refine SXl.storeAll 0 ?_ rfl rfl rfl rfl rfl rfl rfl ?_; rfl; simp only [List.set_cons_zero, List.set_cons_succ]) | (refine SXl.storeAll 1 ?_ rfl rfl rfl rfl rfl rfl rfl ?_; rfl; simp only [List.set_cons_zero, List.set_cons_succ]) | (refine SXl.storeAll 2 ?_ rfl rfl rfl rfl rfl rfl rfl ?_; rfl; simp only [List.set_cons_zero, List.set_cons_succ]) | (refine SXl.storeRow 0 ?_ rfl rfl rfl rfl rfl rfl rfl ?_; rfl; simp only [over, List.set_cons_zero, List.set_cons_succ]) | (refine SXl.storeRow 1 ?_ rfl rfl rfl rfl rfl rfl rfl ?_; rfl; simp only [over, List.set_cons_zero, List.set_cons_succ]) | (refine SXl.storeRow 2 ?_ rfl rfl rfl rfl rfl rfl rfl ?_; rfl; simp only [over, List.set_cons_zero, List.set_cons_succ])))
  refine l_call ?_
  refine SXl.callO rfl rfl rfl (fun w' hl => hK w' hl.mod) (fun q2 _ => ?_)
  repeat (first | refine SX.seq ?_ | refine SXl.nil ?_ | refine SX.region ?_ | refine SQ.thenNormal ?_ | (refine l_load ?_; (refine SXl.v (OpW.load 1 rfl rfl rfl) rfl ?_ ?_ ?_); rfl; rfl) | (refine l_fieldAddr ?_; (refine SXl.v (OpW.fieldAddr rfl) rfl ?_ ?_ ?_); rfl; rfl) | (refine l_store ?_; first | (refine SXl.store 0 ?_ rfl rfl rfl rfl rfl rfl ?_; rfl; simp only [List.set_cons_zero, List.set_cons_succ]) | (refine SXl.store 1 ?_ rfl rfl rfl rfl rfl rfl ?_; rfl; simp only [List.set_cons_zero, List.set_cons_succ]) | (refine SXl.store 2 ?_ rfl rfl rfl rfl rfl rfl ?_; rfl; simp only [List.set_cons_zero, List.set_cons_succ]) | (refine SXl.storeAll 0 ?_ rfl rfl rfl rfl rfl rfl rfl ?_; rfl; simp only [List.set_cons_zero, List.set_cons_succ]) | (refine SXl.storeAll 1 ?_ rfl rfl rfl rfl rfl rfl rfl ?_; rfl; simp only [List.set_cons_zero, List.set_cons_succ]) | (refine SXl.storeAll 2 ?_ rfl rfl rfl rfl rfl rfl rfl ?_; rfl; simp only [List.set_cons_zero, List.set_cons_succ]) | (refine SXl.storeRow 0 ?_ rfl rfl rfl rfl rfl rfl rfl ?_; rfl; simp only [over, List.set_cons_zero, List.set_cons_succ]) | (refine SXl.storeRow 1 ?_ rfl rfl rfl rfl rfl rfl rfl ?_; rfl; simp only [over, List.set_cons_zero, List.set_cons_succ]) | (refine SXl.storeRow 2 ?_ rfl rfl rfl rfl rfl rfl rfl ?_; rfl; simp only [over, List.set_cons_zero, List.set_cons_succ])))
  refine l_call ?_
  refine SXl.callO rfl rfl rfl (fun w' hl => hFr w' hl.mod) (fun q3 _ => ?_)
  repeat (first | refine SX.seq ?_ | refine SXl.nil ?_ | refine SX.region ?_ | refine SQ.thenNormal ?_ | (refine l_load ?_; (refine SXl.v (OpW.loadAll 1 rfl rfl rfl) rfl ?_ ?_ ?_); rfl; rfl) | (refine l_fieldAddr ?_; (refine SXl.v (OpW.fieldAddr rfl) rfl ?_ ?_ ?_); rfl; rfl) | (refine l_store ?_; first | (refine SXl.store 0 ?_ rfl rfl rfl rfl rfl rfl ?_; rfl; simp only [List.set_cons_zero, List.set_cons_succ]) | (refine SXl.store 1 ?_ rfl rfl rfl rfl rfl rfl ?_; rfl; simp only [List.set_cons_zero, List.set_cons_succ]) | (refine SXl.store 2 ?_ rfl rfl rfl rfl rfl rfl ?_; rfl; simp only [List.set_cons_zero, List.set_cons_succ]) | (refine SXl.storeAll 0 ?_ rfl rfl rfl rfl rfl rfl rfl ?_; rfl; simp only [List.set_cons_zero, List.set_cons_succ]) | (refine SXl.storeAll 1 ?_ rfl rfl rfl rfl rfl rfl rfl ?_; rfl; simp only [List.set_cons_zero, List.set_cons_succ]) | (refine SXl.storeAll 2 ?_ rfl rfl rfl rfl rfl rfl rfl ?_; rfl; simp only [List.set_cons_zero, List.set_cons_succ]) | (refine SXl.storeRow 0 ?_ rfl rfl rfl rfl rfl rfl rfl ?_; rfl; simp only [over, List.set_cons_zero, List.set_cons_succ]) | (refine SXl.storeRow 1 ?_ rfl rfl rfl rfl rfl rfl rfl ?_; rfl; simp only [over, List.set_cons_zero, List.set_cons_succ]) | (refine SXl.storeRow 2 ?_ rfl rfl rfl rfl rfl rfl rfl ?_; rfl; simp only [over, List.set_cons_zero, List.set_cons_succ])) | refine SX.ret ?_)
  refine SQ.bodyCell 0 rfl rfl rfl rfl (fun w' hl => ⟨((⟨ps, pa, pc⟩, q3), q2), rfl, hq1, ?_, hl.mod⟩)
  rw [List.append_nil, List.nil_append] at hl
  exact (hl.ownPerm List.perm_append_comm).owns
set_option maxRecDepth 100000 in
set_option maxHeartbeats 8000000 in
theorem bare_o (x : Engine) (o : Bool) (ta ka kb fa : Option Addr) (tc kc kd fc : Nat) (R : Nat → Prop) (w : World) (F : x.fits 1048576) (h : EngineIn o R w [.slice ta x.tree.length tc, .slice ka x.kept.memos.length kc, .slice kb x.kept.asked.length kd, .slice fa x.frames.length fc, .int .i64 x.root, .int .i64 x.wide, .int .i64 x.high, .bool x.rtl] x) :
    Calls Try.prog 7 #[.agg #[.slice ta x.tree.length tc, .slice ka x.kept.memos.length kc, .slice kb x.kept.asked.length kd, .slice fa x.frames.length fc, .int .i64 x.root, .int .i64 x.wide, .int .i64 x.high, .bool x.rtl]] w
      (NewO BareQ (bareQ x) (bareOs x) (fun q => bare q.1.ps = x.tree) w) := by
  refine calls_sx Try.func7 rfl rfl (fun a h1 h2 h3 => ((Fr.nil h1 h2).arg (h3 0 _ rfl))) ?_
  repeat (first | refine SX.seq ?_ | refine SXl.nil ?_ | refine SX.region ?_ | refine SQ.thenNormal ?_ | (refine l_load ?_; (refine SXl.v (OpW.loadAll 1 rfl rfl rfl) rfl ?_ ?_ ?_); rfl; rfl) | (refine l_alloc ?_; refine SXl.alloc ?_ ?_ (fun g => ?_); rfl; rfl) | (refine l_box ?_; refine SXl.box ?_ ?_ rfl rfl (fun g => ?_); rfl; rfl))
  refine l_call ?_
  refine SXl.callO rfl rfl rfl (fun w' hl => copyEngine_d x o ta ka kb fa tc kc kd fc R w' F (h.keep hl.mod)) (fun q hq => ?_)
  obtain ⟨⟨⟨ps, pa, pc⟩, qf⟩, ⟨⟨k1, k2⟩, ⟨k3, k4⟩⟩⟩ := q
  simp only at hq ⊢
  rw [List.append_nil]
  repeat (first | refine SX.seq ?_ | refine SXl.nil ?_ | refine SX.region ?_ | refine SQ.thenNormal ?_ | (refine l_build ?_; (refine SXl.v ((OpW.build (vals := []) (cells := [.slice none 0 0, .slice none 0 0]) rfl (by kernel_rfl))) rfl ?_ ?_ ?_); rfl; rfl) | (refine l_load ?_; (refine SXl.v (OpW.loadAll 0 rfl rfl rfl) rfl ?_ ?_ ?_); rfl; rfl) | (refine l_fieldAddr ?_; (refine SXl.v (OpW.fieldAddr rfl) rfl ?_ ?_ ?_); rfl; rfl) | (refine l_alloc ?_; refine SXl.alloc ?_ ?_ (fun g => ?_); rfl; rfl) | (refine l_store ?_; first | (refine SXl.storeAll 0 ?_ rfl rfl rfl rfl rfl rfl rfl ?_; rfl; simp only [List.set_cons_zero, List.set_cons_succ]) | (refine SXl.storeAll 1 ?_ rfl rfl rfl rfl rfl rfl rfl ?_; rfl; simp only [List.set_cons_zero, List.set_cons_succ]) | (refine SXl.storeAll 2 ?_ rfl rfl rfl rfl rfl rfl rfl ?_; rfl; simp only [List.set_cons_zero, List.set_cons_succ]) | (refine SXl.storeRow 0 ?_ rfl rfl rfl rfl rfl rfl rfl ?_; rfl; simp only [over, List.set_cons_zero, List.set_cons_succ]) | (refine SXl.storeRow 1 ?_ rfl rfl rfl rfl rfl rfl rfl ?_; rfl; simp only [over, List.set_cons_zero, List.set_cons_succ]) | (refine SXl.storeRow 2 ?_ rfl rfl rfl rfl rfl rfl rfl ?_; rfl; simp only [over, List.set_cons_zero, List.set_cons_succ])) | refine SX.ret ?_)
  refine SQ.bodyCell 1 rfl rfl rfl rfl (fun w' hl => ⟨(⟨ps, pa, pc⟩, qf), rfl, hq, hl.owns, hl.mod⟩)
end Go.Proofs.Ytkkjjhooamlljaa
namespace Go.Proofs.Ytkkjjhooamlljaa
open Go.RowKit
set_option linter.unusedVariables false
set_option linter.unusedSimpArgs false

set_option maxRecDepth 100000 in
set_option maxHeartbeats 8000000 in
theorem scopyBox_o (bw bh bb : Int) (fs : List Frame) (a : Option Addr) (c : Nat) (R : Nat → Prop) (w : World) (hl : fs.length ≤ 1048576) (h : SliceAt (Flat Frame.cells) 5 R w a fs) :
    Calls Try.prog 52 #[.agg #[.int .i64 bw, .int .i64 bh, .int .i64 bb, .slice a fs.length c]] w (NewO (Option Addr × Nat) (fun q => .agg [.int .i64 bw, .int .i64 bh, .int .i64 bb, .slice q.1 fs.length q.2].toArray) (fun q => [framesO fs q]) (fun _ => True) w) := by
  refine calls_sx Try.func52 rfl rfl (fun a h1 h2 h3 => ((Fr.nil h1 h2).arg (h3 0 _ rfl))) ?_
  repeat (first | refine SX.seq ?_ | refine SXl.nil ?_ | refine SX.region ?_ | refine SQ.thenNormal ?_ | (refine l_alloc ?_; refine SXl.alloc ?_ ?_ (fun g => ?_); rfl; rfl) | (refine l_box ?_; refine SXl.box ?_ ?_ rfl rfl (fun g => ?_); rfl; rfl))
  refine l_buildSlice ?_
  refine SXl.lit0R rfl rfl (fun _ h => h) (fun g4 => ?_)
  repeat (first | (refine l_load ?_; (refine SXl.v (OpW.load 1 rfl rfl rfl) rfl ?_ ?_ ?_); rfl; rfl) | (refine l_fieldAddr ?_; (refine SXl.v (OpW.fieldAddr rfl) rfl ?_ ?_ ?_); rfl; rfl))
  refine l_append ?_
  refine SXl.appendS (cs := Frame.cells) 0 fs rfl rfl rfl rfl rfl rfl (fun _ => rfl) frameB_one (fun w hl => ⟨_, h.flatKeep hl.mod⟩) (by omega) (by omega) (fun a2 c2 => ?_)
  simp only [List.set_cons_zero, Nat.zero_add, List.nil_append]
  repeat (first | refine SX.seq ?_ | refine SXl.nil ?_ | refine SX.region ?_ | refine SQ.thenNormal ?_ | (refine l_load ?_; (refine SXl.v (OpW.loadAll 1 rfl rfl rfl) rfl ?_ ?_ ?_); rfl; rfl) | (refine l_fieldAddr ?_; (refine SXl.v (OpW.fieldAddr rfl) rfl ?_ ?_ ?_); rfl; rfl) | (refine l_store ?_; first | (refine SXl.store 0 ?_ rfl rfl rfl rfl rfl rfl ?_; rfl; simp only [List.set_cons_zero, List.set_cons_succ]) | (refine SXl.store 1 ?_ rfl rfl rfl rfl rfl rfl ?_; rfl; simp only [List.set_cons_zero, List.set_cons_succ]) | (refine SXl.store 2 ?_ rfl rfl rfl rfl rfl rfl ?_; rfl; simp only [List.set_cons_zero, List.set_cons_succ]) | (refine SXl.storeAll 0 ?_ rfl rfl rfl rfl rfl rfl rfl ?_; rfl; simp only [List.set_cons_zero, List.set_cons_succ]) | (refine SXl.storeAll 1 ?_ rfl rfl rfl rfl rfl rfl rfl ?_; rfl; simp only [List.set_cons_zero, List.set_cons_succ]) | (refine SXl.storeAll 2 ?_ rfl rfl rfl rfl rfl rfl rfl ?_; rfl; simp only [List.set_cons_zero, List.set_cons_succ]) | (refine SXl.storeRow 0 ?_ rfl rfl rfl rfl rfl rfl rfl ?_; rfl; simp only [over, List.set_cons_zero, List.set_cons_succ]) | (refine SXl.storeRow 1 ?_ rfl rfl rfl rfl rfl rfl rfl ?_; rfl; simp only [over, List.set_cons_zero, List.set_cons_succ]) | (refine SXl.storeRow 2 ?_ rfl rfl rfl rfl rfl rfl rfl ?_; rfl; simp only [over, List.set_cons_zero, List.set_cons_succ])) | refine SX.ret ?_)
  refine SQ.bodyCell 0 rfl rfl rfl rfl (fun w' hl => ⟨(a2, c2), rfl, trivial, hl.owns, hl.mod⟩)
set_option maxRecDepth 100000 in
set_option maxHeartbeats 8000000 in
theorem scopyKept_d (ms : List Memo) (as_ : List Asked) (o : Bool) (a b : Option Addr) (c d : Nat) (R : Nat → Prop) (w : World) (hl : ms.length ≤ 1048576) (hf : ∀ x ∈ ms, x.frames.length ≤ 1048576) (hal : as_.length ≤ 1048576) (h : MemoSlice o R w a ms) (h' : AskedSlice R w b as_) :
    Calls Try.prog 32 #[.agg #[.slice a ms.length c, .slice b as_.length d]] w (NewO ((Option Addr × Nat) × (Option Addr × Nat)) (fun q => .agg [.slice q.1.1 ms.length q.1.2, .slice q.2.1 as_.length q.2.2].toArray) (fun _ => []) (fun _ => True) w) := by
  refine calls_sx Try.func32 rfl rfl (fun a h1 h2 h3 => ((Fr.nil h1 h2).arg (h3 0 _ rfl))) ?_
  repeat (first | refine SX.seq ?_ | refine SXl.nil ?_ | refine SX.region ?_ | refine SQ.thenNormal ?_ | (refine l_alloc ?_; refine SXl.alloc ?_ ?_ (fun g => ?_); rfl; rfl) | (refine l_box ?_; refine SXl.box ?_ ?_ rfl rfl (fun g => ?_); rfl; rfl))
  refine l_buildSlice ?_
  refine SXl.lit0R rfl rfl (fun _ h => h) (fun g4 => ?_)
  repeat (first | (refine l_load ?_; (refine SXl.v (OpW.load 1 rfl rfl rfl) rfl ?_ ?_ ?_); rfl; rfl) | (refine l_fieldAddr ?_; (refine SXl.v (OpW.fieldAddr rfl) rfl ?_ ?_ ?_); rfl; rfl))
  refine l_append ?_
  refine SXl.appendS (cs := Asked.cells) 0 as_ rfl rfl rfl rfl rfl rfl (fun _ => rfl) askedB_one (fun w hl => ⟨_, SliceAt.flatKeep h' hl.mod⟩) (by omega) (by omega) (fun a2 c2 => ?_)
  simp only [List.set_cons_zero, Nat.zero_add, List.nil_append]
  refine SXl.ownNil 117 10 ?_
  repeat (first | refine SX.seq ?_ | refine SXl.nil ?_ | refine SX.region ?_ | refine SQ.thenNormal ?_ | refine SX.block ?_ | (refine l_build ?_; (refine SXl.v ((OpW.build (vals := [(1, .slice a2 as_.length c2)]) (cells := [.slice none 0 0, .slice a2 as_.length c2]) rfl (by kernel_rfl))) rfl ?_ ?_ ?_); rfl; rfl) | (refine l_assign ?_; (refine SXl.v (OpW.assign rfl) rfl ?_ ?_ ?_); rfl; rfl) | (refine l_alloc ?_; refine SXl.alloc ?_ ?_ (fun g => ?_); rfl; rfl) | (refine l_store ?_; first | (refine SXl.store 0 ?_ rfl rfl rfl rfl rfl rfl ?_; rfl; simp only [List.set_cons_zero, List.set_cons_succ]) | (refine SXl.store 1 ?_ rfl rfl rfl rfl rfl rfl ?_; rfl; simp only [List.set_cons_zero, List.set_cons_succ]) | (refine SXl.store 2 ?_ rfl rfl rfl rfl rfl rfl ?_; rfl; simp only [List.set_cons_zero, List.set_cons_succ]) | (refine SXl.storeAll 0 ?_ rfl rfl rfl rfl rfl rfl rfl ?_; rfl; simp only [List.set_cons_zero, List.set_cons_succ]) | (refine SXl.storeAll 1 ?_ rfl rfl rfl rfl rfl rfl rfl ?_; rfl; simp only [List.set_cons_zero, List.set_cons_succ]) | (refine SXl.storeAll 2 ?_ rfl rfl rfl rfl rfl rfl rfl ?_; rfl; simp only [List.set_cons_zero, List.set_cons_succ]) | (refine SXl.storeRow 0 ?_ rfl rfl rfl rfl rfl rfl rfl ?_; rfl; simp only [over, List.set_cons_zero, List.set_cons_succ]) | (refine SXl.storeRow 1 ?_ rfl rfl rfl rfl rfl rfl rfl ?_; rfl; simp only [over, List.set_cons_zero, List.set_cons_succ]) | (refine SXl.storeRow 2 ?_ rfl rfl rfl rfl rfl rfl rfl ?_; rfl; simp only [over, List.set_cons_zero, List.set_cons_succ])))
  rename_i g1 g2
  refine SX.loop3 (fun (k : Nat) (_ : Option Addr × Nat) (_ : List Value) => k ≤ ms.length) (fun k _ _ => ms.length - k) (fun k q _ => [⟨g, [.slice q.1 k q.2, .slice a2 as_.length c2], 39⟩, ⟨g2, [.slice none 0 0, .slice none 0 0], 39⟩, ⟨g1, [.slice a ms.length c, .slice b as_.length d], 39⟩]) (fun k q xs => [⟨.slice q.1 k q.2, 117, 10, k, xs⟩]) (fun _ _ _ => []) (fun k _ _ => [(1, .pointer (some ⟨g1, 0, none⟩)), (2, .pointer (some ⟨g2, 0, none⟩)), (3, .pointer (some ⟨g, 0, none⟩)), (4, .int .i64 k)]) 0 (none, 0) [] (Nat.zero_le _) ?_ (fun w hl => hl.ownSub (List.cons_sublist_cons.2 (List.nil_sublist _))) ?_
  · (repeat (first | exact subF_nil _ | (refine subF_cons rfl ?_) | (refine subF_consv rfl (by rfl) ?_)))
  rintro k ⟨qa, qc⟩ xs hk
  by_cases hlt : k < ms.length
  rotate_left
  · obtain rfl : k = ms.length := by omega
    repeat (first | refine SX.seq ?_ | refine SXl.nil ?_ | refine SX.region ?_ | refine SQ.thenNormal ?_ | refine SX.condF rfl ?_ | (refine l_load ?_; (first | refine SXl.v (OpW.load 2 rfl rfl rfl) rfl ?_ ?_ ?_ | refine SXl.v (OpW.loadAll 0 rfl rfl rfl) rfl ?_ ?_ ?_); rfl; rfl) | (refine l_fieldAddr ?_; (refine SXl.v (OpW.fieldAddr rfl) rfl ?_ ?_ ?_); rfl; rfl) | (refine l_move ?_; (refine SXl.v (OpW.move rfl) rfl ?_ ?_ ?_); rfl; rfl) | (refine l_len ?_; (refine SXl.v (OpW.len rfl) rfl ?_ ?_ ?_); rfl; rfl) | (refine l_lss ?_; (refine SXl.v (OpW.lssF rfl rfl (by omega)) rfl ?_ ?_ ?_); rfl; rfl) | (refine l_store ?_; first | (refine SXl.store 0 ?_ rfl rfl rfl rfl rfl rfl ?_; rfl; simp only [List.set_cons_zero, List.set_cons_succ]) | (refine SXl.store 1 ?_ rfl rfl rfl rfl rfl rfl ?_; rfl; simp only [List.set_cons_zero, List.set_cons_succ]) | (refine SXl.store 2 ?_ rfl rfl rfl rfl rfl rfl ?_; rfl; simp only [List.set_cons_zero, List.set_cons_succ]) | (refine SXl.storeAll 0 ?_ rfl rfl rfl rfl rfl rfl rfl ?_; rfl; simp only [List.set_cons_zero, List.set_cons_succ]) | (refine SXl.storeAll 1 ?_ rfl rfl rfl rfl rfl rfl rfl ?_; rfl; simp only [List.set_cons_zero, List.set_cons_succ]) | (refine SXl.storeAll 2 ?_ rfl rfl rfl rfl rfl rfl rfl ?_; rfl; simp only [List.set_cons_zero, List.set_cons_succ]) | (refine SXl.storeRow 0 ?_ rfl rfl rfl rfl rfl rfl rfl ?_; rfl; simp only [over, List.set_cons_zero, List.set_cons_succ]) | (refine SXl.storeRow 1 ?_ rfl rfl rfl rfl rfl rfl rfl ?_; rfl; simp only [over, List.set_cons_zero, List.set_cons_succ]) | (refine SXl.storeRow 2 ?_ rfl rfl rfl rfl rfl rfl rfl ?_; rfl; simp only [over, List.set_cons_zero, List.set_cons_succ])) | refine SX.ret ?_ | refine SX.exit ?_ | refine SQ.thenExit ?_ | refine SQ.blockExit ?_)
    refine SQ.bodyCell 1 rfl rfl rfl rfl (fun w' hl => ⟨((qa, qc), (a2, c2)), rfl, trivial, hl.dropO.owns, hl.mod⟩)
  obtain ⟨b1, o1, x, r1, rfl, hR1, hb1, hxk, hr1, hl1, hc1⟩ := h.get hlt
  obtain ⟨fa, fc, rfl, hfr, _⟩ := hr1
  have hfx := hf x (List.mem_of_getElem? hxk.out)
  have hB := fun (w' : World) (hm : Mod (fun _ => False) w w') => scopyBox_o x.bw x.bh x.bb x.frames fa fc R w' hfx (hfr.flatKeep hm)
  unfold memoRow at hc1
  repeat (first | refine SX.seq ?_ | refine SXl.nil ?_ | refine SX.region ?_ | refine SQ.thenNormal ?_ | refine SX.block ?_ | refine SX.skip ?_ | refine SX.condT rfl ?_ | (refine l_load ?_; (first | refine SXl.v (OpW.loadRowOld rfl hc1 rfl (Nat.succ_pos _) (fun h => h)) rfl ?_ ?_ ?_ | refine SXl.v (OpW.load 2 rfl rfl rfl) rfl ?_ ?_ ?_ | refine SXl.v (OpW.loadRow 0 rfl rfl rfl rfl) rfl ?_ ?_ ?_); rfl; rfl) | (refine l_fieldAddr ?_; (refine SXl.v (OpW.fieldAddr rfl) rfl ?_ ?_ ?_); rfl; rfl) | (refine l_move ?_; (refine SXl.v (OpW.move rfl) rfl ?_ ?_ ?_); rfl; rfl) | (refine l_len ?_; (refine SXl.v (OpW.len rfl) rfl ?_ ?_ ?_); rfl; rfl) | (refine l_lss ?_; (refine SXl.v (OpW.lssT rfl rfl (by omega)) rfl ?_ ?_ ?_); rfl; rfl) | (refine l_indexAddr ?_; (refine SXl.v (OpW.indexAddr (by omega) rfl rfl) rfl ?_ ?_ ?_); rfl; rfl) | (refine l_alloc ?_; refine SXl.alloc ?_ ?_ (fun g => ?_); rfl; rfl) | (refine l_store ?_; first | (refine SXl.store 0 ?_ rfl rfl rfl rfl rfl rfl ?_; rfl; simp only [List.set_cons_zero, List.set_cons_succ]) | (refine SXl.store 1 ?_ rfl rfl rfl rfl rfl rfl ?_; rfl; simp only [List.set_cons_zero, List.set_cons_succ]) | (refine SXl.store 2 ?_ rfl rfl rfl rfl rfl rfl ?_; rfl; simp only [List.set_cons_zero, List.set_cons_succ]) | (refine SXl.storeAll 0 ?_ rfl rfl rfl rfl rfl rfl rfl ?_; rfl; simp only [List.set_cons_zero, List.set_cons_succ]) | (refine SXl.storeAll 1 ?_ rfl rfl rfl rfl rfl rfl rfl ?_; rfl; simp only [List.set_cons_zero, List.set_cons_succ]) | (refine SXl.storeAll 2 ?_ rfl rfl rfl rfl rfl rfl rfl ?_; rfl; simp only [List.set_cons_zero, List.set_cons_succ]) | (refine SXl.storeRow 0 ?_ rfl rfl rfl rfl rfl rfl rfl ?_; rfl; simp only [over, List.set_cons_zero, List.set_cons_succ]) | (refine SXl.storeRow 1 ?_ rfl rfl rfl rfl rfl rfl rfl ?_; rfl; simp only [over, List.set_cons_zero, List.set_cons_succ]) | (refine SXl.storeRow 2 ?_ rfl rfl rfl rfl rfl rfl rfl ?_; rfl; simp only [over, List.set_cons_zero, List.set_cons_succ])))
  refine l_call ?_
  refine SXl.callO rfl rfl rfl (fun w' hl => hB w' hl.mod) (fun q1 _ => ?_)
  simp only [List.cons_append, List.nil_append]
  repeat (first | refine SXl.nil ?_ | refine SX.region ?_ | refine SQ.thenNormal ?_ | (refine l_load ?_; (first | refine SXl.v (OpW.load 1 rfl rfl rfl) rfl ?_ ?_ ?_ | refine SXl.v (OpW.loadAll 0 rfl rfl rfl) rfl ?_ ?_ ?_); rfl; rfl) | (refine l_fieldAddr ?_; (refine SXl.v (OpW.fieldAddr rfl) rfl ?_ ?_ ?_); rfl; rfl) | (refine l_store ?_; first | (refine SXl.store 0 ?_ rfl rfl rfl rfl rfl rfl ?_; rfl; simp only [List.set_cons_zero, List.set_cons_succ]) | (refine SXl.store 1 ?_ rfl rfl rfl rfl rfl rfl ?_; rfl; simp only [List.set_cons_zero, List.set_cons_succ]) | (refine SXl.store 2 ?_ rfl rfl rfl rfl rfl rfl ?_; rfl; simp only [List.set_cons_zero, List.set_cons_succ]) | (refine SXl.storeAll 0 ?_ rfl rfl rfl rfl rfl rfl rfl ?_; rfl; simp only [List.set_cons_zero, List.set_cons_succ]) | (refine SXl.storeAll 1 ?_ rfl rfl rfl rfl rfl rfl rfl ?_; rfl; simp only [List.set_cons_zero, List.set_cons_succ]) | (refine SXl.storeAll 2 ?_ rfl rfl rfl rfl rfl rfl rfl ?_; rfl; simp only [List.set_cons_zero, List.set_cons_succ]) | (refine SXl.storeRow 0 ?_ rfl rfl rfl rfl rfl rfl rfl ?_; rfl; simp only [over, List.set_cons_zero, List.set_cons_succ]) | (refine SXl.storeRow 1 ?_ rfl rfl rfl rfl rfl rfl rfl ?_; rfl; simp only [over, List.set_cons_zero, List.set_cons_succ]) | (refine SXl.storeRow 2 ?_ rfl rfl rfl rfl rfl rfl rfl ?_; rfl; simp only [over, List.set_cons_zero, List.set_cons_succ])))
  refine l_buildSlice ?_
  refine SXl.litRow1 (sz := 10) (r := memoRow x q1.1 q1.2) rfl rfl rfl rfl rfl (by decide) (by decide) (fun g5 => ?_)
  repeat (first | refine SXl.nil ?_ | refine SX.region ?_ | refine SQ.thenNormal ?_ | (refine l_fieldAddr ?_; (refine SXl.v (OpW.fieldAddr rfl) rfl ?_ ?_ ?_); rfl; rfl) | (refine l_move ?_; (refine SXl.v (OpW.move rfl) rfl ?_ ?_ ?_); rfl; rfl) | (refine l_assign ?_; (refine SXl.v (OpW.assign rfl) rfl ?_ ?_ ?_); rfl; rfl) | (refine l_add ?_; (refine SXl.v (OpW.succ rfl rfl (by omega)) rfl ?_ ?_ ?_); rfl; rfl) | (refine l_store ?_; first | (refine SXl.store 0 ?_ rfl rfl rfl rfl rfl rfl ?_; rfl; simp only [List.set_cons_zero, List.set_cons_succ]) | (refine SXl.store 1 ?_ rfl rfl rfl rfl rfl rfl ?_; rfl; simp only [List.set_cons_zero, List.set_cons_succ]) | (refine SXl.store 2 ?_ rfl rfl rfl rfl rfl rfl ?_; rfl; simp only [List.set_cons_zero, List.set_cons_succ]) | (refine SXl.storeAll 0 ?_ rfl rfl rfl rfl rfl rfl rfl ?_; rfl; simp only [List.set_cons_zero, List.set_cons_succ]) | (refine SXl.storeAll 1 ?_ rfl rfl rfl rfl rfl rfl rfl ?_; rfl; simp only [List.set_cons_zero, List.set_cons_succ]) | (refine SXl.storeAll 2 ?_ rfl rfl rfl rfl rfl rfl rfl ?_; rfl; simp only [List.set_cons_zero, List.set_cons_succ]) | (refine SXl.storeRow 0 ?_ rfl rfl rfl rfl rfl rfl rfl ?_; rfl; simp only [over, List.set_cons_zero, List.set_cons_succ]) | (refine SXl.storeRow 1 ?_ rfl rfl rfl rfl rfl rfl rfl ?_; rfl; simp only [over, List.set_cons_zero, List.set_cons_succ]) | (refine SXl.storeRow 2 ?_ rfl rfl rfl rfl rfl rfl rfl ?_; rfl; simp only [over, List.set_cons_zero, List.set_cons_succ])) | (refine l_append ?_; first | (refine SXl.append 0 0 rfl rfl rfl rfl rfl rfl rfl rfl (by omega) (by omega) (fun a c => ?_); simp only [List.set_cons_zero, List.set_cons_succ]) | (refine SXl.append 1 0 rfl rfl rfl rfl rfl rfl rfl rfl (by omega) (by omega) (fun a c => ?_); simp only [List.set_cons_zero, List.set_cons_succ])) | refine SQ.blockNormal ?_)
  refine SQ.round3 (k + 1) (_, _) (xs ++ memoRow x q1.1 q1.2) (by omega) (by omega) ?_ (fun w hl => hl.drop1.drop1.dropO)
  (repeat (first | exact subF_nil _ | (refine subF_cons rfl ?_) | (refine subF_consv rfl (by rfl) ?_)))
set_option maxRecDepth 100000 in
set_option maxHeartbeats 8000000 in
theorem scopyEngine_d (x : Engine) (o : Bool) (ta ka kb fa : Option Addr) (tc kc kd fc : Nat) (R : Nat → Prop) (w : World) (F : x.fits 1048576) (h : EngineIn o R w [.slice ta x.tree.length tc, .slice ka x.kept.memos.length kc, .slice kb x.kept.asked.length kd, .slice fa x.frames.length fc, .int .i64 x.root, .int .i64 x.wide, .int .i64 x.high, .bool x.rtl] x) :
    Calls Try.prog 14 #[.agg #[.slice ta x.tree.length tc, .slice ka x.kept.memos.length kc, .slice kb x.kept.asked.length kd, .slice fa x.frames.length fc, .int .i64 x.root, .int .i64 x.wide, .int .i64 x.high, .bool x.rtl]] w
      (NewO (BareQ × ((Option Addr × Nat) × (Option Addr × Nat))) (fun q => .agg [.slice q.1.1.a q.1.1.ps.length q.1.1.c, .slice q.2.1.1 x.kept.memos.length q.2.1.2, .slice q.2.2.1 x.kept.asked.length q.2.2.2, .slice q.1.2.1 x.frames.length q.1.2.2, .int .i64 x.root, .int .i64 x.wide, .int .i64 x.high, .bool x.rtl].toArray) (fun q => bareOs x q.1) (fun q => bare q.1.1.ps = x.tree) w) := by
  obtain ⟨hn, hm, ha, hf⟩ := engine_parts h
  obtain ⟨F1, ⟨F2, F3, F4⟩, F5⟩ := F
  refine calls_sx Try.func14 rfl rfl (fun a h1 h2 h3 => ((Fr.nil h1 h2).arg (h3 0 _ rfl))) ?_
  repeat (first | refine SX.seq ?_ | refine SXl.nil ?_ | refine SX.region ?_ | refine SQ.thenNormal ?_ | (refine l_load ?_; (refine SXl.v (OpW.loadRow 1 rfl rfl rfl rfl) rfl ?_ ?_ ?_); rfl; rfl) | (refine l_fieldAddr ?_; (refine SXl.v (OpW.fieldAddr rfl) rfl ?_ ?_ ?_); rfl; rfl) | (refine l_alloc ?_; refine SXl.alloc ?_ ?_ (fun g => ?_); rfl; rfl) | (refine l_box ?_; refine SXl.box ?_ ?_ rfl rfl (fun g => ?_); rfl; rfl))
  refine l_call ?_
  refine SXl.callO rfl rfl rfl (fun w' hl => scopyTree_any x.tree o ta tc R w' F1.1 F1.2 (hn.keep hl.mod)) (fun q1 hq1 => ?_)
  obtain ⟨ps, pa, pc⟩ := q1
  simp only [TreeQ.v, TreeQ.os] at hq1 ⊢
  have hpl : ps.length = x.tree.length := by rw [← hq1, bare_len]
  have hK := fun (w' : World) (hm' : Mod (fun _ => False) w w') => scopyKept_d x.kept.memos x.kept.asked o ka kb kc kd R w' F2 F4 F3 (hm.keep hm') (SliceAt.flatKeep ha hm')
  repeat (first | refine SX.seq ?_ | refine SXl.nil ?_ | refine SX.region ?_ | refine SQ.thenNormal ?_ | (refine l_load ?_; (refine SXl.v (OpW.loadRow 1 rfl rfl rfl rfl) rfl ?_ ?_ ?_); rfl; rfl) | (refine l_fieldAddr ?_; (refine SXl.v (OpW.fieldAddr rfl) rfl ?_ ?_ ?_); rfl; rfl) | (refine l_store ?_; first | (refine SXl.store 0 ?_ rfl rfl rfl rfl rfl rfl ?_; rfl; simp only [List.set_cons_zero, List.set_cons_succ]) | (refine SXl.store 1 ?_ rfl rfl rfl rfl rfl rfl ?_; rfl; simp only [List.set_cons_zero, List.set_cons_succ]) | (refine SXl.store 2 ?_ rfl rfl rfl rfl rfl rfl ?_; rfl; simp only [List.set_cons_zero, List.set_cons_succ]) | (refine SXl.storeAll 0 ?_ rfl rfl rfl rfl rfl rfl rfl ?_; rfl; simp only [List.set_cons_zero, List.set_cons_succ]) | (refine SXl.storeAll 1 ?_ rfl rfl rfl rfl rfl rfl rfl ?_; rfl; simp only [List.set_cons_zero, List.set_cons_succ]) | (refine SXl.storeAll 2 ?_ rfl rfl rfl rfl rfl rfl rfl ?_; rfl; simp only [List.set_cons_zero, List.set_cons_succ]) | (refine SXl.storeRow 0 ?_ rfl rfl rfl rfl rfl rfl rfl ?_; rfl; simp only [over, List.set_cons_zero, List.set_cons_succ]) | (refine SXl.storeRow 1 ?_ rfl rfl rfl rfl rfl rfl rfl ?_; rfl; simp only [over, List.set_cons_zero, List.set_cons_succ]) | (refine SXl.storeRow 2 ?_ rfl rfl rfl rfl rfl rfl rfl ?_; rfl; simp only [over, List.set_cons_zero, List.set_cons_succ])))
  refine l_call ?_
  refine SXl.callO rfl rfl rfl (fun w' hl => hK w' hl.mod) (fun q2 _ => ?_)
  repeat (first | refine SX.seq ?_ | refine SXl.nil ?_ | refine SX.region ?_ | refine SQ.thenNormal ?_ | (refine l_fieldAddr ?_; (refine SXl.v (OpW.fieldAddr rfl) rfl ?_ ?_ ?_); rfl; rfl) | (refine l_store ?_; first | (refine SXl.store 0 ?_ rfl rfl rfl rfl rfl rfl ?_; rfl; simp only [List.set_cons_zero, List.set_cons_succ]) | (refine SXl.store 1 ?_ rfl rfl rfl rfl rfl rfl ?_; rfl; simp only [List.set_cons_zero, List.set_cons_succ]) | (refine SXl.store 2 ?_ rfl rfl rfl rfl rfl rfl ?_; rfl; simp only [List.set_cons_zero, List.set_cons_succ]) | (refine SXl.storeAll 0 ?_ rfl rfl rfl rfl rfl rfl rfl ?_; rfl; simp only [List.set_cons_zero, List.set_cons_succ]) | (refine SXl.storeAll 1 ?_ rfl rfl rfl rfl rfl rfl rfl ?_; rfl; simp only [List.set_cons_zero, List.set_cons_succ]) | (refine SXl.storeAll 2 ?_ rfl rfl rfl rfl rfl rfl rfl ?_; rfl; simp only [List.set_cons_zero, List.set_cons_succ]) | (refine SXl.storeRow 0 ?_ rfl rfl rfl rfl rfl rfl rfl ?_; rfl; simp only [over, List.set_cons_zero, List.set_cons_succ]) | (refine SXl.storeRow 1 ?_ rfl rfl rfl rfl rfl rfl rfl ?_; rfl; simp only [over, List.set_cons_zero, List.set_cons_succ]) | (refine SXl.storeRow 2 ?_ rfl rfl rfl rfl rfl rfl rfl ?_; rfl; simp only [over, List.set_cons_zero, List.set_cons_succ])))
  refine l_buildSlice ?_
  refine SXl.lit0R rfl rfl (fun _ h => h) (fun g4 => ?_)
  repeat (first | (refine l_load ?_; (refine SXl.v (OpW.load 1 rfl rfl rfl) rfl ?_ ?_ ?_); rfl; rfl) | (refine l_fieldAddr ?_; (refine SXl.v (OpW.fieldAddr rfl) rfl ?_ ?_ ?_); rfl; rfl))
  refine l_append ?_
  refine SXl.appendS (cs := Frame.cells) 0 x.frames rfl rfl rfl rfl rfl rfl (fun _ => rfl) frameB_one (fun w hl => ⟨_, SliceAt.flatKeep hf hl.mod⟩) (by omega) (by omega) (fun a2 c2 => ?_)
  simp only [List.set_cons_zero, Nat.zero_add, List.nil_append]
  repeat (first | refine SX.seq ?_ | refine SXl.nil ?_ | refine SX.region ?_ | refine SQ.thenNormal ?_ | (refine l_load ?_; (refine SXl.v (OpW.loadAll 1 rfl rfl rfl) rfl ?_ ?_ ?_); rfl; rfl) | (refine l_fieldAddr ?_; (refine SXl.v (OpW.fieldAddr rfl) rfl ?_ ?_ ?_); rfl; rfl) | (refine l_store ?_; first | (refine SXl.store 0 ?_ rfl rfl rfl rfl rfl rfl ?_; rfl; simp only [List.set_cons_zero, List.set_cons_succ]) | (refine SXl.store 1 ?_ rfl rfl rfl rfl rfl rfl ?_; rfl; simp only [List.set_cons_zero, List.set_cons_succ]) | (refine SXl.store 2 ?_ rfl rfl rfl rfl rfl rfl ?_; rfl; simp only [List.set_cons_zero, List.set_cons_succ]) | (refine SXl.storeAll 0 ?_ rfl rfl rfl rfl rfl rfl rfl ?_; rfl; simp only [List.set_cons_zero, List.set_cons_succ]) | (refine SXl.storeAll 1 ?_ rfl rfl rfl rfl rfl rfl rfl ?_; rfl; simp only [List.set_cons_zero, List.set_cons_succ]) | (refine SXl.storeAll 2 ?_ rfl rfl rfl rfl rfl rfl rfl ?_; rfl; simp only [List.set_cons_zero, List.set_cons_succ]) | (refine SXl.storeRow 0 ?_ rfl rfl rfl rfl rfl rfl rfl ?_; rfl; simp only [over, List.set_cons_zero, List.set_cons_succ]) | (refine SXl.storeRow 1 ?_ rfl rfl rfl rfl rfl rfl rfl ?_; rfl; simp only [over, List.set_cons_zero, List.set_cons_succ]) | (refine SXl.storeRow 2 ?_ rfl rfl rfl rfl rfl rfl rfl ?_; rfl; simp only [over, List.set_cons_zero, List.set_cons_succ])) | refine SX.ret ?_)
  refine SQ.bodyCell 0 rfl rfl rfl rfl (fun w' hl => ⟨((⟨ps, pa, pc⟩, (a2, c2)), q2), rfl, hq1, ?_, hl.mod⟩)
  rw [List.append_nil] at hl
  exact (hl.ownPerm (List.perm_append_singleton _ _)).owns
set_option maxRecDepth 100000 in
set_option maxHeartbeats 8000000 in
theorem sbare_o (x : Engine) (o : Bool) (ta ka kb fa : Option Addr) (tc kc kd fc : Nat) (R : Nat → Prop) (w : World) (F : x.fits 1048576) (h : EngineIn o R w [.slice ta x.tree.length tc, .slice ka x.kept.memos.length kc, .slice kb x.kept.asked.length kd, .slice fa x.frames.length fc, .int .i64 x.root, .int .i64 x.wide, .int .i64 x.high, .bool x.rtl] x) :
    Calls Try.prog 5 #[.agg #[.slice ta x.tree.length tc, .slice ka x.kept.memos.length kc, .slice kb x.kept.asked.length kd, .slice fa x.frames.length fc, .int .i64 x.root, .int .i64 x.wide, .int .i64 x.high, .bool x.rtl]] w
      (NewO BareQ (bareQ x) (bareOs x) (fun q => bare q.1.ps = x.tree) w) := by
  refine calls_sx Try.func5 rfl rfl (fun a h1 h2 h3 => ((Fr.nil h1 h2).arg (h3 0 _ rfl))) ?_
  repeat (first | refine SX.seq ?_ | refine SXl.nil ?_ | refine SX.region ?_ | refine SQ.thenNormal ?_ | (refine l_load ?_; (refine SXl.v (OpW.loadAll 1 rfl rfl rfl) rfl ?_ ?_ ?_); rfl; rfl) | (refine l_alloc ?_; refine SXl.alloc ?_ ?_ (fun g => ?_); rfl; rfl) | (refine l_box ?_; refine SXl.box ?_ ?_ rfl rfl (fun g => ?_); rfl; rfl))
  refine l_call ?_
  refine SXl.callO rfl rfl rfl (fun w' hl => scopyEngine_d x o ta ka kb fa tc kc kd fc R w' F (h.keep hl.mod)) (fun q hq => ?_)
  obtain ⟨⟨⟨ps, pa, pc⟩, qf⟩, ⟨⟨k1, k2⟩, ⟨k3, k4⟩⟩⟩ := q
  simp only at hq ⊢
  rw [List.append_nil]
  repeat (first | refine SX.seq ?_ | refine SXl.nil ?_ | refine SX.region ?_ | refine SQ.thenNormal ?_ | (refine l_build ?_; (refine SXl.v ((OpW.build (vals := []) (cells := [.slice none 0 0, .slice none 0 0]) rfl (by kernel_rfl))) rfl ?_ ?_ ?_); rfl; rfl) | (refine l_load ?_; (refine SXl.v (OpW.loadAll 1 rfl rfl rfl) rfl ?_ ?_ ?_); rfl; rfl) | (refine l_fieldAddr ?_; (refine SXl.v (OpW.fieldAddr rfl) rfl ?_ ?_ ?_); rfl; rfl) | (refine l_store ?_; first | (refine SXl.storeAll 0 ?_ rfl rfl rfl rfl rfl rfl rfl ?_; rfl; simp only [List.set_cons_zero, List.set_cons_succ]) | (refine SXl.storeAll 1 ?_ rfl rfl rfl rfl rfl rfl rfl ?_; rfl; simp only [List.set_cons_zero, List.set_cons_succ]) | (refine SXl.storeAll 2 ?_ rfl rfl rfl rfl rfl rfl rfl ?_; rfl; simp only [List.set_cons_zero, List.set_cons_succ]) | (refine SXl.storeRow 0 ?_ rfl rfl rfl rfl rfl rfl rfl ?_; rfl; simp only [over, List.set_cons_zero, List.set_cons_succ]) | (refine SXl.storeRow 1 ?_ rfl rfl rfl rfl rfl rfl rfl ?_; rfl; simp only [over, List.set_cons_zero, List.set_cons_succ]) | (refine SXl.storeRow 2 ?_ rfl rfl rfl rfl rfl rfl rfl ?_; rfl; simp only [over, List.set_cons_zero, List.set_cons_succ])) | refine SX.ret ?_)
  refine SQ.bodyCell 0 rfl rfl rfl rfl (fun w' hl => ⟨(⟨ps, pa, pc⟩, qf), rfl, hq, hl.owns, hl.mod⟩)
end Go.Proofs.Ytkkjjhooamlljaa
namespace Go.Proofs.Ytkkjjhooamlljaa
open Go.RowKit

theorem costTo_le (l : List PNode) : ∀ k, k ≤ l.length → costTo l k ≤ 62 * k + 3 * costs Node.cost ((bare l).take k)
  | 0, _ => Nat.zero_le _
  | k + 1, h => by
    have ih := costTo_le l k (by omega)
    obtain ⟨x, hx⟩ : ∃ x, l[k]? = some x := ⟨_, List.getElem?_eq_getElem (by omega)⟩
    have hb : Hid ((bare l)[k]? = some x.1) := hid (by rw [bare, List.getElem?_map, hx]; rfl)
    rw [costTo_next hx, costs_succ Node.cost hb]
    have e : Node.cost x.1 = x.1.kids.length + x.1.rules.length := rfl
    unfold costN
    omega
/-- The engine without what is kept. -/
def bareE (x : Engine) : Engine := { x with kept := ⟨[], []⟩ }
theorem bareE_fits {x : Engine} {n : Nat} (h : x.fits n) : (bareE x).fits n := ⟨h.1, ⟨Nat.zero_le _, Nat.zero_le _, fun m hm => nomatch hm⟩, h.2.2⟩
theorem bare_in {base : Nat} {w : World} {os : List Own} {x : Engine} {q : BareQ} (hq : bare q.1.ps = x.tree) (h : Owns base w os) (hs : (bareOs x q).Sublist os) : EngineIn false (fun k => base ≤ k) w (bareV q.1.ps q.1.a q.1.c x.frames q.2 x.root x.wide x.high x.rtl) (bareE x) := by
  have h1 := h.sub hs
  have ht := tree_in (h1.left (os := treeO q.1.ps q.1.a q.1.c))
  have hf := h1.row (framesO x.frames q.2) (by simp [bareOs])
  rw [hq] at ht
  have hl : q.1.ps.length = x.tree.length := by rw [← hq, bare_len]
  unfold bareV
  refine ⟨_, _, _, _, _, rfl, ⟨q.1.a, q.1.c, ?_, ht, fun e => by cases e⟩, ⟨none, 0, none, 0, rfl, ?_, ?_, fun e => by cases e⟩, own_slice hf (fun _ => rfl) (by decide), fun e => by cases e⟩
  · rw [hl]; rfl
  · exact ⟨[], .inl rfl, by simp [bareE], fun i r x h1 h2 => by simp [bareE] at h2⟩
  · exact ⟨[], .inl rfl, by simp [bareE], fun i r x h1 h2 => by simp [bareE] at h2⟩
end Go.Proofs.Ytkkjjhooamlljaa
namespace Go.Proofs.Ytkkjjhooamlljaa
open Go.RowKit
set_option linter.unusedVariables false
set_option linter.unusedSimpArgs false

theorem markIntS_wr (n c : Nat) (a : Option Addr) (R : Nat → Prop) (w : World) (q0 : Int) (hq0 : 1 ≤ q0) (hq1 : q0 ≤ 1000000000000000) (hn : n ≤ 1048576) (h : Wr 3 1 R w a n) :
    Calls Try.prog 62 #[.slice a n c, .int .i64 q0] w fun e w' => e = .returned (.int .i64 (q0 + n)) ∧ Mod R w w' ∧ KeepB (fun t => t = 3) w w' :=
  mark_wr h fun g N hh => markIntS_any n c a g N w q0 hq0 hq1 (by omega) (by simpa using hh)
theorem markRuleS_wr (n c : Nat) (a : Option Addr) (R : Nat → Prop) (w : World) (q0 : Int) (hq0 : 0 ≤ q0) (hq1 : q0 ≤ 1000000000000000) (hn : n ≤ 1048576) (h : Wr 145 3 R w a n) :
    Calls Try.prog 63 #[.slice a n c, .int .i64 q0] w fun e w' => e = .returned (.int .i64 (q0 + n * 3)) ∧ Mod R w w' ∧ KeepB (fun t => t = 145) w w' :=
  mark_wr h fun g N hh => markRuleS_any n c a g N w q0 hq0 hq1 hn hh
/-- The slices in a slice of nodes may be written. -/
def NodeSh (R : Nat → Prop) (g n : Nat) (w : World) : Prop := ∀ i, i < n → (∃ a m c, w.cell? ⟨g, i * 64 + 1, none⟩ = some (.slice a m c) ∧ m ≤ 1048576 ∧ Wr 3 1 R w a m) ∧ ∃ a m c, w.cell? ⟨g, i * 64 + 63, none⟩ = some (.slice a m c) ∧ m ≤ 1048576 ∧ Wr 145 3 R w a m
def NodeWr (R : Nat → Prop) (w : World) (a : Option Addr) (n : Nat) : Prop :=
  n = 0 ∨ ∃ g N, a = some ⟨g, 0, none⟩ ∧ R g ∧ n * 64 ≤ N ∧ Filled g 112 N w [] ∧ NodeSh R g n w
theorem NodeWr.keep {P R : Nat → Prop} {a : Option Addr} {n : Nat} {w w' : World} (h : NodeWr R w a n) (hk : KeepB P w w') (hp : ¬ P 112) : NodeWr R w' a n := by
  rcases h with h | ⟨g, N, h1, h2, h3, h4, h5⟩
  · exact .inl h
  · refine .inr ⟨g, N, h1, h2, h3, (hk g _ N h4).1, fun i hi => ?_⟩
    obtain ⟨⟨a, m, c, q1, q2, q3⟩, ⟨a', m', c', q4, q5, q6⟩⟩ := h5 i hi
    exact ⟨⟨a, m, c, (World.cell?_of_block (a := ⟨g, i * 64 + 1, none⟩) ((hk g _ N h4).2 hp)).trans q1, q2, q3.keep hk⟩, a', m', c', (World.cell?_of_block (a := ⟨g, i * 64 + 63, none⟩) ((hk g _ N h4).2 hp)).trans q4, q5, q6.keep hk⟩
theorem NodeSlice.wr {R : Nat → Prop} {g N : Nat} {w : World} {l : List Node} (h : NodeSlice true R w (some ⟨g, 0, none⟩) l) (hf : Filled g 112 N w []) (hN : l.length * 64 ≤ N) (hm : ∀ x ∈ l, x.fits 1048576) (hR : R g) : NodeWr R w (some ⟨g, 0, none⟩) l.length := by
  refine .inr ⟨g, N, rfl, hR, hN, hf, fun i hi => ?_⟩
  obtain ⟨b, o, x, r, e, hb, hbw, hx, ⟨k, c, t, c', rfl, _, _, h3⟩, hl, hc⟩ := h.get hi
  simp only [Option.some.injEq, Addr.mk.injEq, and_true] at e
  obtain ⟨rfl, rfl⟩ := e
  have h1 := hc 1 _ (nodeRow_1 _ _ _ _ _ _ _ _ _)
  have h63 := hc 63 _ (nodeRow_63 _ _ _ _ _ _ _ _ _)
  rw [Nat.zero_add] at h1 h63
  have hf := hm x (List.mem_of_getElem? hx.out)
  unfold Node.fits at hf
  exact ⟨⟨_, _, _, h1, hf.1, (h3 rfl).1⟩, _, _, _, h63, hf.2, (h3 rfl).2⟩

/-- What marks of nodes keep. -/
def NodeJ (W : World) (g N n : Nat) (w : World) : Prop :=
  KeepB (fun t => t = 112 ∨ t = 3 ∨ t = 145) W w ∧ Filled g 112 N w [] ∧ ∀ i, i < n → w.cell? ⟨g, i * 64 + 1, none⟩ = W.cell? ⟨g, i * 64 + 1, none⟩ ∧ w.cell? ⟨g, i * 64 + 63, none⟩ = W.cell? ⟨g, i * 64 + 63, none⟩
def nodeRg (W : World) (R : Nat → Prop) (g N n : Nat) (hg : g < W.heap.size) : Rg W where
  p := fun k => R k ∧ k < W.heap.size
  q := fun _ => False
  J := fun w => W.heap.size ≤ w.heap.size ∧ NodeJ W g N n w
  low := fun _ h => h.2
  sub := fun _ h => h.elim
  keep := fun S w w' ⟨hz, h1, h2, h3⟩ hm hs => by
    have hgw : g < w.heap.size := by omega
    refine ⟨Nat.le_trans hz hm.size, keepB_far h1 hm (fun k hk h => (hs k hk h).elim) hz, h2.mod hm (fun h => (hs g hg h).elim), fun i hi => ?_⟩
    rw [hm.cell (a := ⟨g, i * 64 + 1, none⟩) hgw (fun h => (hs g hg h).elim), hm.cell (a := ⟨g, i * 64 + 63, none⟩) hgw (fun h => (hs g hg h).elim)]
    exact h3 i hi
theorem NodeJ.set {W w : World} {g N n : Nat} (h : NodeJ W g N n w) (hF : Filled g 112 N W []) {o : Nat} (ho : o < N) (h1 : o % 64 ≠ 1) (h63 : o % 64 ≠ 63) (v : Value) :
    (∃ u, w.cell? ⟨g, o, none⟩ = some u) ∧ w.frozen? ⟨g, o, none⟩ = false ∧ NodeJ W g N n (w.setCell ⟨g, o, none⟩ v) := by
  refine ⟨h.2.1.cell ho, h.2.1.free o, h.1.set hF (.inl rfl) _ _ _, h.2.1.set _ _ _ _, fun i hi => ?_⟩
  have e1 : (⟨g, o, none⟩ : Addr) ≠ ⟨g, i * 64 + 1, none⟩ := by
    intro e; simp only [Addr.mk.injEq, true_and, and_true] at e; omega
  have e2 : (⟨g, o, none⟩ : Addr) ≠ ⟨g, i * 64 + 63, none⟩ := by
    intro e; simp only [Addr.mk.injEq, true_and, and_true] at e; omega
  rw [World.cell?_setCell_other w _ _ _ e1, World.cell?_setCell_other w _ _ _ e2]
  exact h.2.2 i hi

set_option maxRecDepth 100000 in
set_option maxHeartbeats 8000000 in
theorem markNodeS_any (n c : Nat) (a : Option Addr) (R : Nat → Prop) (w : World) (q0 : Int) (hq0 : 1 ≤ q0) (hq1 : q0 ≤ 100000000000000) (hn : n ≤ 1048576) (h : NodeWr R w a n) :
    Calls Try.prog 44 #[.slice a n c, .int .i64 q0] w fun e w' => ∃ q : Int, e = .returned (.int .i64 q) ∧ q0 ≤ q ∧ q ≤ q0 + n * 6000000 ∧ Mod R w w' ∧ KeepB (fun t => t = 112 ∨ t = 3 ∨ t = 145) w w' := by
  by_cases h0 : n = 0
  · subst h0
    refine calls_sx Try.func44 rfl rfl (fun a h1 h2 h3 => ((Fr.nil h1 h2).arg (h3 1 _ rfl)).arg (h3 0 _ rfl)) ?_
    repeat (first | refine SX.seq ?_ | refine SXl.nil ?_ | refine SX.region ?_ | refine SQ.thenNormal ?_ | refine SX.block ?_ | (refine l_assign ?_; (refine SXl.v (OpW.assign rfl) rfl ?_ ?_ ?_); rfl; rfl))
    refine SX.loopi (fun k : Nat => k = 0) (fun _ => 0) (fun _ => []) (fun _ => []) (fun _ => []) (fun k => [(0, .slice a 0 c), (1, .int .i64 q0), (5, .int .i64 k)]) 0 rfl ?_ (fun _ hl => hl) ?_
    · (repeat (first | exact subF_nil _ | (refine subF_cons rfl ?_) | (refine subF_consv rfl (by rfl) ?_)))
    · rintro k rfl
      repeat (first | refine SX.seq ?_ | refine SXl.nil ?_ | refine SX.region ?_ | refine SQ.thenNormal ?_ | refine SX.condF rfl ?_ | (refine l_move ?_; (refine SXl.v (OpW.move rfl) rfl ?_ ?_ ?_); rfl; rfl) | (refine l_assign ?_; (refine SXl.v (OpW.assign rfl) rfl ?_ ?_ ?_); rfl; rfl) | (refine l_len ?_; (refine SXl.v (OpW.len rfl) rfl ?_ ?_ ?_); rfl; rfl) | (refine l_lss ?_; (refine SXl.v (OpW.lssF rfl rfl (by omega)) rfl ?_ ?_ ?_); rfl; rfl) | refine SX.ret ?_ | refine SX.exit ?_ | refine SQ.thenExit ?_ | refine SQ.blockExit ?_)
      refine SQ.body1 rfl rfl (fun w' hl => ⟨q0, rfl, by omega, by omega, hl.mod.mono (fun _ _ f => f.elim), KeepB.none hl.mod⟩)
  · obtain ⟨g, N, rfl, hR, hN, hF, hS⟩ := h.resolve_left h0
    have hg := hF.size
    refine calls_sxJ (nodeRg w R g N n hg) ⟨Nat.le_refl _, KeepB.refl _ _, hF, fun _ _ => ⟨rfl, rfl⟩⟩ Try.func44 rfl rfl (fun a h1 h2 h3 => ((Fr.nil h1 h2).arg (h3 1 _ rfl)).arg (h3 0 _ rfl)) ?_
    repeat (first | refine SX.seq ?_ | refine SXl.nil ?_ | refine SX.region ?_ | refine SQ.thenNormal ?_ | refine SX.block ?_ | (refine l_assign ?_; (refine SXl.v (OpW.assign rfl) rfl ?_ ?_ ?_); rfl; rfl))
    refine SX.loop3 (fun (k : Nat) (q : Int) (_ : Unit) => k ≤ n ∧ q0 ≤ q ∧ q ≤ q0 + k * 6000000) (fun k _ _ => n - k) (fun _ _ _ => []) (fun _ _ _ => []) (fun _ _ _ => []) (fun k q _ => [(0, .slice (some ⟨g, 0, none⟩) n c), (1, .int .i64 q), (5, .int .i64 k)]) 0 q0 () ⟨Nat.zero_le _, by omega, by omega⟩ ?_ (fun _ hl => hl) ?_
    · (repeat (first | exact subF_nil _ | (refine subF_cons rfl ?_) | (refine subF_consv rfl (by rfl) ?_)))
    · rintro k q _ ⟨hk, hq2, hq3⟩
      by_cases hlt : k < n
      · obtain ⟨⟨a1, m1, c1, hc1, hm1, hw1⟩, ⟨a2, m2, c2, hc2, hm2, hw2⟩⟩ := hS k hlt
        have hw1' : Wr 3 1 (fun b => R b ∧ b < w.heap.size) w a1 m1 := hw1.weaken fun b hb h => ⟨h, hb⟩
        have hw2' : Wr 145 3 (fun b => R b ∧ b < w.heap.size) w a2 m2 := hw2.weaken fun b hb h => ⟨h, hb⟩
        have hkN : k * 64 + 64 ≤ N := by omega
        have hp : (nodeRg w R g N n hg).p g := ⟨hR, hg⟩
        have hq : ¬ (nodeRg w R g N n hg).q g := fun h => h
        have hJs : ∀ (o : Nat) (v : Value), o < N → o % 64 ≠ 1 → o % 64 ≠ 63 → ∀ w', (nodeRg w R g N n hg).J w' → (∃ u, w'.cell? ⟨g, o, none⟩ = some u) ∧ w'.frozen? ⟨g, o, none⟩ = false ∧ (nodeRg w R g N n hg).J (w'.setCell ⟨g, o, none⟩ v) := fun o v h1 h2 h3 w' hJ => by
          obtain ⟨q1, q2, q3⟩ := hJ.2.set hF h1 h2 h3 v
          exact ⟨q1, q2, by rw [World.size_setCell]; exact hJ.1, q3⟩
        have hJc : ∀ (p : Nat → Prop), (∀ t, p t → t = 3 ∨ t = 145) → ∀ w' w2, (nodeRg w R g N n hg).J w' → Mod (nodeRg w R g N n hg).p w' w2 → KeepB p w' w2 → (nodeRg w R g N n hg).J w2 := fun p hp w' w2 hJ hm hk => by
          have hgs := (hk g _ N hJ.2.2.1).2 (fun h => by rcases hp _ h with h | h <;> exact absurd h (by decide))
          refine ⟨Nat.le_trans hJ.1 hm.size, hJ.2.1.trans (hk.mono fun t ht => .inr (hp t ht)), (hk g _ N hJ.2.2.1).1, fun i hi => ?_⟩
          rw [World.cell?_of_block (a := ⟨g, i * 64 + 1, none⟩) hgs, World.cell?_of_block (a := ⟨g, i * 64 + 63, none⟩) hgs]
          exact hJ.2.2.2 i hi
        repeat (first | refine SX.seq ?_ | refine SXl.nil ?_ | refine SX.region ?_ | refine SQ.thenNormal ?_ | refine SX.block ?_ | refine SX.skip ?_ | refine SX.condT rfl ?_ | (refine l_load ?_; (refine SXl.v (OpW.loadJ rfl (fun w' hJ => ((congrArg (fun o => w'.cell? ⟨g, o, none⟩) (by omega)).trans (hJ.2.2.2 k hlt).1).trans hc1)) rfl ?_ ?_ ?_); rfl; rfl) | (refine l_fieldAddr ?_; (refine SXl.v (OpW.fieldAddr rfl) rfl ?_ ?_ ?_); rfl; rfl) | (refine l_move ?_; (refine SXl.v (OpW.move rfl) rfl ?_ ?_ ?_); rfl; rfl) | (refine l_assign ?_; (refine SXl.v (OpW.assign rfl) rfl ?_ ?_ ?_); rfl; rfl) | (refine l_len ?_; (refine SXl.v (OpW.len rfl) rfl ?_ ?_ ?_); rfl; rfl) | (refine l_add ?_; (refine SXl.v (OpW.addi rfl rfl (by omega) (by omega)) rfl ?_ ?_ ?_); rfl; rfl) | (refine l_lss ?_; (refine SXl.v (OpW.lssT rfl rfl (by omega)) rfl ?_ ?_ ?_); rfl; rfl) | (refine l_indexAddr ?_; (refine SXl.v (OpW.indexAddr (by omega) rfl rfl) rfl ?_ ?_ ?_); rfl; rfl) | (refine l_store ?_; refine SXl.storeJ hp hq rfl rfl rfl rfl (hJs _ _ (by omega) (by omega) (by omega)) ?_))
        refine l_call ?_
        refine SXl.callJ1 (fun _ h => h) rfl rfl rfl (fun w' hl => (markIntS_wr m1 c1 a1 _ w' _ (by omega) (by omega) hm1 (hw1'.keep hl.inv.2.1)).mono fun e w2 ⟨he, hm, hk⟩ => ⟨he, hm, hJc _ (fun t h => .inl h) w' w2 hl.inv hm hk⟩) ?_
        repeat (first | refine SX.seq ?_ | refine SXl.nil ?_ | refine SX.region ?_ | refine SQ.thenNormal ?_ | (refine l_load ?_; (refine SXl.v (OpW.loadJ rfl (fun w' hJ => ((congrArg (fun o => w'.cell? ⟨g, o, none⟩) (by omega)).trans (hJ.2.2.2 k hlt).2).trans hc2)) rfl ?_ ?_ ?_); rfl; rfl) | (refine l_fieldAddr ?_; (refine SXl.v (OpW.fieldAddr rfl) rfl ?_ ?_ ?_); rfl; rfl) | (refine l_move ?_; (refine SXl.v (OpW.move rfl) rfl ?_ ?_ ?_); rfl; rfl) | (refine l_assign ?_; (refine SXl.v (OpW.assign rfl) rfl ?_ ?_ ?_); rfl; rfl) | (refine l_add ?_; (refine SXl.v (OpW.addi rfl rfl (by omega) (by omega)) rfl ?_ ?_ ?_); rfl; rfl) | (refine l_eql ?_; (refine SXl.v (OpW.eql rfl rfl) rfl ?_ ?_ ?_); rfl; rfl) | (refine l_rem ?_; (refine SXl.v (OpW.rem (by omega) rfl rfl) rfl ?_ ?_ ?_); rfl; rfl) | (refine l_indexAddr ?_; (refine SXl.v (OpW.indexAddr (by omega) rfl rfl) rfl ?_ ?_ ?_); rfl; rfl) | (refine l_store ?_; refine SXl.storeJ hp hq rfl rfl rfl rfl (hJs _ _ (by omega) (by omega) (by omega)) ?_))
        refine l_call ?_
        refine SXl.callJ1 (fun _ h => h) rfl rfl rfl (fun w' hl => (markRuleS_wr m2 c2 a2 _ w' _ (by omega) (by omega) hm2 (hw2'.keep hl.inv.2.1)).mono fun e w2 ⟨he, hm, hk⟩ => ⟨he, hm, hJc _ (fun t h => .inr h) w' w2 hl.inv hm hk⟩) ?_
        repeat (first | refine SXl.nil ?_ | refine SX.region ?_ | refine SQ.thenNormal ?_ | (refine l_move ?_; (refine SXl.v (OpW.move rfl) rfl ?_ ?_ ?_); rfl; rfl) | (refine l_assign ?_; (refine SXl.v (OpW.assign rfl) rfl ?_ ?_ ?_); rfl; rfl) | (refine l_add ?_; (refine SXl.v (OpW.succ rfl rfl (by omega)) rfl ?_ ?_ ?_); rfl; rfl) | refine SQ.blockNormal ?_)
        refine SQ.round3 (k + 1) ?jq () ⟨by omega, ?ha, ?hb⟩ (by omega) ?hs (fun w hl => hl)
        case hs => (repeat (first | exact subF_nil _ | (refine subF_cons rfl ?_) | (refine subF_consv rfl (by rfl) ?_)))
        case ha => omega
        case hb => omega
      · repeat (first | refine SX.seq ?_ | refine SXl.nil ?_ | refine SX.region ?_ | refine SQ.thenNormal ?_ | refine SX.condF rfl ?_ | (refine l_move ?_; (refine SXl.v (OpW.move rfl) rfl ?_ ?_ ?_); rfl; rfl) | (refine l_assign ?_; (refine SXl.v (OpW.assign rfl) rfl ?_ ?_ ?_); rfl; rfl) | (refine l_len ?_; (refine SXl.v (OpW.len rfl) rfl ?_ ?_ ?_); rfl; rfl) | (refine l_lss ?_; (refine SXl.v (OpW.lssF rfl rfl (by omega)) rfl ?_ ?_ ?_); rfl; rfl) | refine SX.ret ?_ | refine SX.exit ?_ | refine SQ.thenExit ?_ | refine SQ.blockExit ?_)
        refine SQ.body1 rfl rfl (fun w' hl => ?_)
        have hkn : k = n := by omega
        subst hkn
        exact ⟨q, rfl, by omega, by omega, hl.mod.mono (fun _ _ h => h.1), hl.inv.2.1⟩

abbrev NodeT (t : Nat) : Prop := t = 112 ∨ t = 3 ∨ t = 145
theorem NodeWr.low {R : Nat → Prop} {w : World} {a : Option Addr} {n : Nat} (h : NodeWr R w a n) : NodeWr (fun k => R k ∧ k < w.heap.size) w a n := by
  rcases h with h | ⟨g, N, h1, h2, h3, h4, h5⟩
  · exact .inl h
  · refine .inr ⟨g, N, h1, ⟨h2, h4.size⟩, h3, h4, fun i hi => ?_⟩
    obtain ⟨⟨a, m, c, q1, q2, q3⟩, ⟨a', m', c', q4, q5, q6⟩⟩ := h5 i hi
    exact ⟨⟨a, m, c, q1, q2, q3.weaken fun b hb h => ⟨h, hb⟩⟩, a', m', c', q4, q5, q6.weaken fun b hb h => ⟨h, hb⟩⟩
set_option maxRecDepth 100000 in
theorem markTree_any (n c : Nat) (a : Option Addr) (R : Nat → Prop) (w : World) (q0 : Int) (hq0 : 1 ≤ q0) (hq1 : q0 ≤ 100000000000000) (hn : n ≤ 1048576) (h : NodeWr R w a n) :
    Calls Try.prog 22 #[.agg #[.slice a n c], .int .i64 q0] w fun e w' => ∃ q : Int, e = .returned (.int .i64 q) ∧ q0 ≤ q ∧ q ≤ q0 + n * 6000000 ∧ Mod R w w' ∧ KeepB NodeT w w' := by
  refine calls_sxJ (markRg w R NoT) ⟨Nat.le_refl _, KeepB.refl _ _⟩ Try.func22 rfl rfl (fun a h1 h2 h3 => ((Fr.nil h1 h2).arg (h3 1 _ rfl)).arg (h3 0 _ rfl)) ?_
  repeat (first | refine SX.seq ?_ | refine SXl.nil ?_ | refine SX.region ?_ | refine SQ.thenNormal ?_ | (refine l_load ?_; (refine SXl.v (OpW.load 0 rfl rfl rfl) rfl ?_ ?_ ?_); rfl; rfl) | (refine l_fieldAddr ?_; (refine SXl.v (OpW.fieldAddr rfl) rfl ?_ ?_ ?_); rfl; rfl) | (refine l_move ?_; (refine SXl.v (OpW.move rfl) rfl ?_ ?_ ?_); rfl; rfl) | (refine l_assign ?_; (refine SXl.v (OpW.assign rfl) rfl ?_ ?_ ?_); rfl; rfl) | (refine l_box ?_; refine SXl.box ?_ ?_ rfl rfl (fun g => ?_); rfl; rfl))
  refine l_call ?_
  refine SXl.callJ2 (ξ := Int) (v := fun q => .int .i64 q) (markRg w R NodeT) (fun _ h => h) (fun _ h => h) rfl rfl rfl (fun q => q0 ≤ q ∧ q ≤ q0 + n * 6000000) (fun w' hl => (markNodeS_any n c a _ w' q0 hq0 hq1 hn (h.low.keep hl.inv.2 (fun f => f))).mono fun e w2 ⟨q, he, h1, h2, hm, hk⟩ => ⟨q, he, ⟨h1, h2⟩, hm, Nat.le_trans hl.inv.1 hm.size, (hl.inv.2.mono (fun _ f => f.elim)).trans hk⟩) ?_
  intro q ⟨h1, h2⟩
  repeat (first | refine SX.seq ?_ | refine SXl.nil ?_ | refine SX.region ?_ | refine SQ.thenNormal ?_ | (refine l_move ?_; (refine SXl.v (OpW.move rfl) rfl ?_ ?_ ?_); rfl; rfl) | (refine l_assign ?_; (refine SXl.v (OpW.assign rfl) rfl ?_ ?_ ?_); rfl; rfl) | refine SX.ret ?_)
  refine SQ.body1 rfl rfl (fun w' hl => ⟨q, rfl, h1, h2, modlow hl.mod, hl.inv.2⟩)
end Go.Proofs.Ytkkjjhooamlljaa
namespace Go.Proofs.Ytkkjjhooamlljaa
open Go.RowKit
set_option linter.unusedVariables false
set_option linter.unusedSimpArgs false

abbrev AllT (t : Nat) : Prop := NodeT t ∨ KeptTy t
set_option maxRecDepth 100000 in
theorem markEngine_any (x : Engine) (q0 : Int) (cs : List Value) (R : Nat → Prop) (w : World) (hq0 : 1 ≤ q0) (hq1 : q0 ≤ 7000000000000) (F : x.fits 1048576) (h : EngineIn true R w cs x) :
    Calls Try.prog 9 #[.agg cs.toArray, .int .i64 q0] w fun e w' => ∃ q : Int, e = .returned (.int .i64 q) ∧ q0 ≤ q ∧ q ≤ q0 + x.tree.length * 6000000 + x.kept.memos.length * 6000000 + x.kept.asked.length * 6 + x.frames.length * 5 ∧ Mod R w w' ∧ KeepB AllT w w' := by
  obtain ⟨t, k0, k1, fa, fc, rfl, ⟨ta, tc, et, hn, hnw⟩, ⟨ka, kc, kb, kd, ek, hm, ha, hkw⟩, hfr, hfw⟩ := h
  simp only [List.cons.injEq, and_true] at et ek
  obtain rfl := et
  obtain ⟨rfl, rfl⟩ := ek
  obtain ⟨F1, ⟨F2, F3, F4⟩, F5⟩ := F
  have hN : NodeWr R w ta x.tree.length := by
    rcases hnw rfl with h | ⟨g, N, rfl, h2, h3, h4⟩
    · exact .inl h
    · exact NodeSlice.wr hn h4 h3 F1.2 h2
  have hM : MemoWr R w ka x.kept.memos.length := by
    rcases (hkw rfl).1 with h | ⟨g, N, rfl, h2, h3, h4⟩
    · exact .inl h
    · exact MemoSlice.wr hm h4 h3 F4 h2
  have hA := (hkw rfl).2.1
  have hW := hfw rfl
  have l1 := F1.1
  refine calls_sxJ (markRg w R NoT) ⟨Nat.le_refl _, KeepB.refl _ _⟩ Try.func9 rfl rfl (fun a h1 h2 h3 => ((Fr.nil h1 h2).arg (h3 1 _ rfl)).arg (h3 0 _ rfl)) ?_
  repeat (first | refine SX.seq ?_ | refine SXl.nil ?_ | refine SX.region ?_ | refine SQ.thenNormal ?_ | (refine l_load ?_; (refine SXl.v (OpW.loadRow 0 rfl rfl rfl rfl) rfl ?_ ?_ ?_); rfl; rfl) | (refine l_fieldAddr ?_; (refine SXl.v (OpW.fieldAddr rfl) rfl ?_ ?_ ?_); rfl; rfl) | (refine l_move ?_; (refine SXl.v (OpW.move rfl) rfl ?_ ?_ ?_); rfl; rfl) | (refine l_assign ?_; (refine SXl.v (OpW.assign rfl) rfl ?_ ?_ ?_); rfl; rfl) | (refine l_box ?_; refine SXl.box ?_ ?_ rfl rfl (fun g => ?_); rfl; rfl))
  refine l_call ?_
  refine SXl.callJ2 (ξ := Int) (v := fun q => .int .i64 q) (markRg w R NodeT) (fun _ h => h) (fun _ h => h) rfl rfl rfl (fun q => q0 ≤ q ∧ q ≤ q0 + x.tree.length * 6000000) (fun w' hl => (markTree_any _ tc ta _ w' q0 hq0 (by omega) F1.1 (hN.low.keep hl.inv.2 (fun f => f))).mono fun e w2 ⟨q, he, h1, h2, hm, hk⟩ => ⟨q, he, ⟨h1, h2⟩, hm, Nat.le_trans hl.inv.1 hm.size, (hl.inv.2.mono (fun _ f => f.elim)).trans hk⟩) ?_
  intro q ⟨h1, h2⟩
  repeat (first | refine SX.seq ?_ | refine SXl.nil ?_ | refine SX.region ?_ | refine SQ.thenNormal ?_ | (refine l_load ?_; (refine SXl.v (OpW.loadRow 0 rfl rfl rfl rfl) rfl ?_ ?_ ?_); rfl; rfl) | (refine l_fieldAddr ?_; (refine SXl.v (OpW.fieldAddr rfl) rfl ?_ ?_ ?_); rfl; rfl) | (refine l_move ?_; (refine SXl.v (OpW.move rfl) rfl ?_ ?_ ?_); rfl; rfl) | (refine l_assign ?_; (refine SXl.v (OpW.assign rfl) rfl ?_ ?_ ?_); rfl; rfl))
  refine l_call ?_
  refine SXl.callJ2 (ξ := Int) (v := fun q => .int .i64 q) (markRg w R AllT) (fun _ h => h) (fun _ h => h) rfl rfl rfl (fun p => q ≤ p ∧ p ≤ q + x.kept.memos.length * 6000000 + x.kept.asked.length * 6) (fun w' hl => (markKept_any _ kc _ kd ka kb _ w' q (by omega) (by omega) F2 F3 (hM.low.keep hl.inv.2 (by decide)) (hA.low.keep hl.inv.2)).mono fun e w2 ⟨q, he, h1, h2, hm, hk⟩ => ⟨q, he, ⟨h1, h2⟩, hm, Nat.le_trans hl.inv.1 hm.size, (hl.inv.2.mono (fun _ h => .inl h)).trans (hk.mono fun _ h => .inr h)⟩) ?_
  intro p ⟨h3, h4⟩
  repeat (first | refine SX.seq ?_ | refine SXl.nil ?_ | refine SX.region ?_ | refine SQ.thenNormal ?_ | (refine l_load ?_; (refine SXl.v (OpW.load 0 rfl rfl rfl) rfl ?_ ?_ ?_); rfl; rfl) | (refine l_fieldAddr ?_; (refine SXl.v (OpW.fieldAddr rfl) rfl ?_ ?_ ?_); rfl; rfl) | (refine l_move ?_; (refine SXl.v (OpW.move rfl) rfl ?_ ?_ ?_); rfl; rfl) | (refine l_assign ?_; (refine SXl.v (OpW.assign rfl) rfl ?_ ?_ ?_); rfl; rfl))
  refine l_call ?_
  refine SXl.callJ1 (fun _ h => h) rfl rfl rfl (fun w' hl => (markFrameS_wr _ fc fa _ w' p (by omega) (by omega) F5 (hW.low.keep hl.inv.2)).mono fun e w2 ⟨he, hm, hk⟩ => ⟨he, hm, Nat.le_trans hl.inv.1 hm.size, hl.inv.2.trans (hk.mono fun _ h => .inr (.inr (.inl h)))⟩) ?_
  repeat (first | refine SX.seq ?_ | refine SXl.nil ?_ | refine SX.region ?_ | refine SQ.thenNormal ?_ | (refine l_move ?_; (refine SXl.v (OpW.move rfl) rfl ?_ ?_ ?_); rfl; rfl) | (refine l_assign ?_; (refine SXl.v (OpW.assign rfl) rfl ?_ ?_ ?_); rfl; rfl) | refine SX.ret ?_)
  refine SQ.body1 rfl rfl (fun w' hl => ⟨_, rfl, by omega, by omega, modlow hl.mod, hl.inv.2⟩)
end Go.Proofs.Ytkkjjhooamlljaa
namespace Go.Proofs.Ytkkjjhooamlljaa
open Go.RowKit

/-- Where a copy of an engine lies. -/
structure EngP where
  ta : Option Addr
  tc : Nat
  ka : Option Addr
  kc : Nat
  kb : Option Addr
  kd : Nat
  fa : Option Addr
  fc : Nat
  lo : Nat
  hi : Nat
def engL (x : Engine) (q : EngP) : List Value := [.slice q.ta x.tree.length q.tc, .slice q.ka x.kept.memos.length q.kc, .slice q.kb x.kept.asked.length q.kd, .slice q.fa x.frames.length q.fc, .int .i64 x.root, .int .i64 x.wide, .int .i64 x.high, .bool x.rtl]
def engRes (x : Engine) (q : EngP) : Res where
  foot := fun k => q.lo ≤ k ∧ k < q.hi
  says := fun w => EngineIn true (fun k => q.lo ≤ k ∧ k < q.hi) w (engL x q) x
  stable := fun S w w' h hm hs => h.mod hm hs
theorem toEngine_new (x : Engine) (o : Bool) (cs : List Value) (R : Nat → Prop) (w : World) (hf : x.fits 1048576) (h : EngineIn o R w cs x) :
    Calls Try.prog 6 #[.agg cs.toArray] w (NewR EngP (fun q => .agg (engL x q).toArray) (engRes x) w) :=
  (toEngine_any x o cs R w hf h).mono fun e w' ⟨cs', he, h1, hm⟩ => by
    obtain ⟨ta, tc, ka, kc, kb, kd, fa, fc, rfl, h1⟩ := h1.lit
    refine ⟨⟨ta, tc, ka, kc, kb, kd, fa, fc, w.heap.size, w'.heap.size⟩, he, ⟨h1.wide fun k hk hlo => ⟨hlo, hk⟩, fun k hk => hk⟩, hm⟩
theorem szEngine_less {x : Engine} {o : Bool} {cs : List Value} {R : Nat → Prop} {left : Int} {w : World} (h0 : 0 ≤ left) (h1 : left ≤ 1048576) (hf : x.fits 9223372036854775807) (hb : left < x.cost) (h : EngineIn o R w cs x) :
    Calls Try.prog 4 #[.agg cs.toArray, .int .i64 left] w fun e w' => e = .returned (.int .i64 (-1)) ∧ Mod (fun _ => False) w w' := by
  have := szEngine_any x o cs R left w h0 h1 hf h
  rwa [szRes_less hb] at this
theorem szEngine_more {x : Engine} {o : Bool} {cs : List Value} {R : Nat → Prop} {left : Int} {w : World} (h0 : 0 ≤ left) (h1 : left ≤ 1048576) (hf : x.fits 9223372036854775807) (hb : (x.cost : Int) ≤ left) (h : EngineIn o R w cs x) :
    Calls Try.prog 4 #[.agg cs.toArray, .int .i64 left] w fun e w' => e = .returned (.int .i64 (left - x.cost)) ∧ Mod (fun _ => False) w w' := by
  have := szEngine_any x o cs R left w h0 h1 hf h
  rwa [szRes_more hb] at this
theorem engRes_in {x : Engine} {q : EngP} {W : World} {R : Rg W} {L : List Blk} {O : List Own} {E : List Res} {w : World} (h : Loc W R L O E w) (hm : engRes x q ∈ E) : EngineIn true (fun k => q.lo ≤ k ∧ k < q.hi) w (engL x q) x := (h.res _ hm).1

end Go.Proofs.Ytkkjjhooamlljaa
namespace Go.Proofs.Ytkkjjhooamlljaa
open Go.RowKit

theorem markEngine_own (x : Engine) (q : EngP) (w : World) (F : x.fits 1048576) (h : (engRes x q).says w) :
    Calls Try.prog 9 #[.agg (engL x q).toArray, .int .i64 1] w fun e w' => ∃ p : Int, e = .returned (.int .i64 p) ∧ 1 ≤ p ∧ deadRes.says w' ∧ Mod (engRes x q).foot w w' :=
  (markEngine_any x 1 _ _ w (by omega) (by omega) F h).mono fun e w' ⟨p, he, h1, _, hm, _⟩ => ⟨p, he, h1, trivial, hm⟩

end Go.Proofs.Ytkkjjhooamlljaa
namespace Go.Proofs.Ytkkjjhooamlljaa
open Go.RowKit

theorem Rule.same (x y : Rule) : sameVs x.cells y.cells = decide (x = y) := by
  rw [Bool.eq_iff_iff, sameVs_iff (show x.cells.map kindV = y.cells.map kindV from rfl) (by intro v hv; simp only [Rule.cells, List.mem_cons, List.not_mem_nil, or_false] at hv; rcases hv with rfl|rfl|rfl <;> first | (show 0 < 3; decide) | (show 1 < 3; decide)), decide_eq_true_iff]
  constructor
  · intro h
    simp only [Rule.cells, List.cons.injEq, Value.int.injEq, Value.bool.injEq, true_and, and_true] at h
    cases x
    cases y
    simp_all
  · rintro rfl; rfl
def intAt (l : List Value) (i : Nat) : Int := match l[i]? with
  | some (.int _ n) => n
  | _ => 0
def boolAt (l : List Value) (i : Nat) : Bool := match l[i]? with
  | some (.bool b) => b
  | _ => false
def Style.of (l : List Value) : Style := ⟨intAt l 0, intAt l 1, intAt l 2, intAt l 3, intAt l 4, intAt l 5, boolAt l 6, boolAt l 7, intAt l 8, intAt l 9, intAt l 10, ⟨intAt l 11, intAt l 12⟩, ⟨intAt l 13, intAt l 14⟩, ⟨intAt l 15, intAt l 16⟩, ⟨intAt l 17, intAt l 18⟩, ⟨intAt l 19, intAt l 20⟩, ⟨intAt l 21, intAt l 22⟩, ⟨intAt l 23, intAt l 24⟩, intAt l 25, ⟨⟨intAt l 26, intAt l 27⟩, ⟨intAt l 28, intAt l 29⟩, ⟨intAt l 30, intAt l 31⟩, ⟨intAt l 32, intAt l 33⟩, ⟨intAt l 34, intAt l 35⟩, ⟨intAt l 36, intAt l 37⟩⟩, ⟨⟨intAt l 38, intAt l 39⟩, ⟨intAt l 40, intAt l 41⟩, ⟨intAt l 42, intAt l 43⟩, ⟨intAt l 44, intAt l 45⟩, ⟨intAt l 46, intAt l 47⟩, ⟨intAt l 48, intAt l 49⟩⟩, ⟨intAt l 50, intAt l 51, intAt l 52, intAt l 53⟩, ⟨intAt l 54, intAt l 55, intAt l 56, intAt l 57⟩, intAt l 58, intAt l 59⟩
set_option maxRecDepth 100000 in
theorem Style.of_cells (x : Style) : Style.of x.cells = x := rfl
set_option maxRecDepth 100000 in
theorem Style.kinds (x y : Style) : x.cells.map kindV = y.cells.map kindV := rfl
set_option maxRecDepth 100000 in
theorem Style.kinds_lt (x : Style) : (x.cells.map kindV).all (fun k => decide (k < 3)) = true := rfl
theorem Style.same (x y : Style) : sameVs x.cells y.cells = decide (x = y) := by
  rw [Bool.eq_iff_iff, sameVs_iff (Style.kinds x y) (fun v hv => of_decide_eq_true (List.all_eq_true.1 (Style.kinds_lt x) _ (List.mem_map_of_mem hv))), decide_eq_true_iff]
  exact ⟨fun h => by rw [← Style.of_cells x, h, Style.of_cells], fun h => by rw [h]⟩

end Go.Proofs.Ytkkjjhooamlljaa
namespace Go.Proofs.Ytkkjjhooamlljaa
open Go.RowKit

theorem Frame.same (x y : Frame) : sameVs x.cells y.cells = decide (x = y) := by
  rw [Bool.eq_iff_iff, sameVs_iff (show x.cells.map kindV = y.cells.map kindV from rfl) (by intro v hv; simp only [Frame.cells, List.mem_cons, List.not_mem_nil, or_false] at hv; rcases hv with rfl|rfl|rfl|rfl|rfl <;> first | (show 0 < 3; decide) | (show 1 < 3; decide)), decide_eq_true_iff]
  constructor
  · intro h
    simp only [Frame.cells, List.cons.injEq, Value.int.injEq, Value.bool.injEq, true_and, and_true] at h
    cases x
    cases y
    simp_all
  · rintro rfl; rfl
theorem Asked.same (x y : Asked) : sameVs x.cells y.cells = decide (x = y) := by
  rw [Bool.eq_iff_iff, sameVs_iff (show x.cells.map kindV = y.cells.map kindV from rfl) (by intro v hv; simp only [Asked.cells, List.mem_cons, List.not_mem_nil, or_false] at hv; rcases hv with rfl|rfl|rfl|rfl|rfl|rfl <;> first | (show 0 < 3; decide) | (show 1 < 3; decide)), decide_eq_true_iff]
  constructor
  · intro h
    simp only [Asked.cells, List.cons.injEq, Value.int.injEq, Value.bool.injEq, true_and, and_true] at h
    obtain ⟨n, ⟨a, b⟩, ⟨c, d⟩, e⟩ := x
    obtain ⟨n, ⟨a, b⟩, ⟨c, d⟩, e⟩ := y
    simp_all
  · rintro rfl; rfl
theorem Space.same (x y : Space) : sameVs x.cells y.cells = decide (x = y) := by
  rw [Bool.eq_iff_iff, sameVs_iff (show x.cells.map kindV = y.cells.map kindV from rfl) (by intro v hv; simp only [Space.cells, List.mem_cons, List.not_mem_nil, or_false] at hv; rcases hv with rfl|rfl <;> first | (show 0 < 3; decide) | (show 1 < 3; decide)), decide_eq_true_iff]
  constructor
  · intro h
    simp only [Space.cells, List.cons.injEq, Value.int.injEq, Value.bool.injEq, true_and, and_true] at h
    cases x
    cases y
    simp_all
  · rintro rfl; rfl

end Go.Proofs.Ytkkjjhooamlljaa
namespace Go.Proofs.Ytkkjjhooamlljaa
open Go.RowKit

end Go.Proofs.Ytkkjjhooamlljaa
namespace Go.Proofs.Ytkkjjhooamlljaa
open Go.RowKit
set_option linter.unusedVariables false
set_option linter.unusedSimpArgs false

end Go.Proofs.Ytkkjjhooamlljaa
namespace Go.Proofs.Ytkkjjhooamlljaa
open Go.RowKit
set_option linter.unusedVariables false
set_option linter.unusedSimpArgs false

end Go.Proofs.Ytkkjjhooamlljaa
