/-
  PROVED: for every list of bytes the law FnCounted returns true. No condition.
-/
import Derived.Test.YthffgbhphjkdeaaMCf
import Derived.Test.YthffgbhphjkdeaaRows
import Derived.ProofKit
import Derived.OpenShut
import Derived.ShutString
import Derived.ChangeOld
set_option linter.unusedVariables false
set_option linter.unusedSimpArgs false
namespace Go.Proofs.Ythffgbhphjkdeaa
open Go.RowKit
set_option linter.unusedVariables false
set_option linter.unusedSimpArgs false

/-- Where a list of ints that a call handed back lies; its cells. -/
theorem int_addr {l : List Int} {q : SlP} {w : World} (h : (ownRes icell 3 1 l q).says w) (h0 : 0 < l.length) : ∃ g, q.a = some ⟨g, 0, none⟩ := by
  rcases h.2 with ⟨_, hn⟩ | ⟨g, cap, cur, hv, _⟩
  · omega
  · injection hv with ha _ _
    exact ⟨g, ha⟩
theorem int_cell {lo e c g i : Nat} {l : List Int} {w : World} {y : Int} (h : w.ownsRow lo e 1 (.slice (some ⟨g, 0, none⟩) l.length c) l.length (l.map icell).flatten) (hi : l[i]? = some y) : w.cell? ⟨g, 0 + i, none⟩ = some (.int .i64 y) := by
  have h1 := flat_get (cells := icell) (sz := 1) (fun _ => rfl) (j := 0) (v := .int .i64 y) hi rfl
  rw [Nat.mul_one, Nat.add_zero] at h1
  rw [Nat.zero_add, h.cellAt i (by rw [Nat.mul_one]; exact (List.getElem?_eq_some_iff.1 hi).1), h1]
theorem int_in {l : List Int} {q : SlP} {W : World} {R : Rg W} {L : List Blk} {O : List Own} {E : List Res} {w : World} (h : Loc W R L O E w) (hm : ownRes icell 3 1 l q ∈ E) : IntSlice (fun k => q.lo ≤ k) w q.a l := own_in h hm (fun _ => rfl) (by decide)
theorem kid_addr {base : Nat} {w : World} {l : List PNode} {a : Option Addr} {c k : Nat} {x : PNode} (h : Owns base w (treeO l a c)) (hx : l[k]? = some x) (h0 : 0 < x.1.kids.length) : ∃ g, x.2.ka = some ⟨g, 0, none⟩ := by
  have h2 := h.row _ (List.mem_cons_of_mem _ (partsO_mem (List.mem_of_getElem? hx)).1)
  simp only [kidsO] at h2
  rcases h2.2 with ⟨_, hn⟩ | ⟨g, cap, cur, hv, _⟩
  · omega
  · injection hv with ha _ _
    exact ⟨g, ha⟩
def plainStyle : Style := { newStyle with dir := 1 }
theorem one_all : allW [⟨0, [], plainStyle, false, []⟩] 1 = [1] := by decide +kernel
theorem one_add : addNode [] plainStyle = ([⟨0, [], plainStyle, false, []⟩], 1) := by
  have h0 : treeOk [] = true := by decide
  have h1 : styleOk plainStyle = true := by decide
  simp [addNode, h0, h1]
set_option maxRecDepth 100000 in
theorem plain_any (w : World) : Calls Try.prog 25 #[] w fun e w' => e = .returned (.agg plainStyle.cells.toArray) ∧ Mod (fun _ => False) w w' := by
  refine calls_sx Try.func25 rfl rfl (fun a h1 h2 h3 => (Fr.nil h1 h2)) ?_
  repeat (first | refine SX.seq ?_ | refine SXl.nil ?_ | refine SX.region ?_ | refine SQ.thenNormal ?_ | (refine l_call ?_; (refine SXl.v (OpW.call rfl (fun w hl => sstyleNew_any _)) rfl ?_ ?_ ?_); rfl; rfl) | (refine l_load ?_; (refine SXl.v (OpW.loadAll 0 rfl rfl rfl) rfl ?_ ?_ ?_); rfl; rfl) | (refine l_fieldAddr ?_; (refine SXl.v (OpW.fieldAddr rfl) rfl ?_ ?_ ?_); rfl; rfl) | (refine l_alloc ?_; refine SXl.alloc ?_ ?_ (fun g => ?_); rfl; rfl) | (refine l_store ?_; first | (refine SXl.store 0 ?_ rfl rfl rfl rfl rfl rfl ?_; rfl; simp only [List.set_cons_zero, List.set_cons_succ]) | (refine SXl.store 1 ?_ rfl rfl rfl rfl rfl rfl ?_; rfl; simp only [List.set_cons_zero, List.set_cons_succ]) | (refine SXl.store 2 ?_ rfl rfl rfl rfl rfl rfl ?_; rfl; simp only [List.set_cons_zero, List.set_cons_succ]) | (refine SXl.storeAll 0 ?_ rfl rfl rfl rfl rfl rfl rfl ?_; rfl; simp only [List.set_cons_zero, List.set_cons_succ]) | (refine SXl.storeAll 1 ?_ rfl rfl rfl rfl rfl rfl rfl ?_; rfl; simp only [List.set_cons_zero, List.set_cons_succ]) | (refine SXl.storeAll 2 ?_ rfl rfl rfl rfl rfl rfl rfl ?_; rfl; simp only [List.set_cons_zero, List.set_cons_succ]) | (refine SXl.storeRow 0 ?_ rfl rfl rfl rfl rfl rfl rfl ?_; rfl; simp only [over, List.set_cons_zero, List.set_cons_succ]) | (refine SXl.storeRow 1 ?_ rfl rfl rfl rfl rfl rfl rfl ?_; rfl; simp only [over, List.set_cons_zero, List.set_cons_succ]) | (refine SXl.storeRow 2 ?_ rfl rfl rfl rfl rfl rfl rfl ?_; rfl; simp only [over, List.set_cons_zero, List.set_cons_succ])) | refine SX.ret ?_)
  refine SQ.bodyCell 1 rfl rfl rfl rfl (fun w' hl => ⟨rfl, hl.mod⟩)
set_option maxRecDepth 100000 in
set_option maxHeartbeats 8000000 in
theorem fnCounted_walk (w : World) (a : Option Addr) (len cap : Nat) (hl0 : len ≤ 9223372036854775807) (hy : Bytes w.heap.size w a len) :
    Calls Try.prog 6 #[.slice a len cap] w fun e w' => e = .returned (.bool true) ∧ Mod (fun _ => False) w w' := by
  have hm : len ≤ maxLen := by unfold maxLen; exact hl0
  refine calls_sx Try.func6 rfl rfl (fun a h1 h2 h3 => ((Fr.nil h1 h2).arg (h3 0 _ rfl))) ?_
  by_cases hb : 1048576 < len
  · repeat (first | refine SX.seq ?_ | refine SXl.nil ?_ | refine SX.region ?_ | refine SQ.thenNormal ?_ | refine SX.condT rfl ?_ | (refine l_call ?_; (refine SXl.v (OpW.call rfl (fun w hl => bigT a cap hm hb _)) rfl ?_ ?_ ?_); rfl; rfl) | (refine l_move ?_; (refine SXl.v (OpW.move rfl) rfl ?_ ?_ ?_); rfl; rfl) | (refine l_assign ?_; (refine SXl.v (OpW.assign rfl) rfl ?_ ?_ ?_); rfl; rfl) | refine SX.ret ?_ | refine SQ.thenRet ?_)
    refine SQ.body1 rfl rfl (fun w' hl => ⟨rfl, hl.mod⟩)
  have hlen : len ≤ 1048576 := by omega
  repeat (first | refine SX.seq ?_ | refine SXl.nil ?_ | refine SX.region ?_ | refine SQ.thenNormal ?_ | refine SX.skip ?_ | refine SX.condF rfl ?_ | (refine l_call ?_; (refine SXl.v (OpW.call rfl (fun w hl => bigF a cap hm hb _)) rfl ?_ ?_ ?_); rfl; rfl) | (refine l_move ?_; (refine SXl.v (OpW.move rfl) rfl ?_ ?_ ?_); rfl; rfl) | (refine l_assign ?_; (refine SXl.v (OpW.assign rfl) rfl ?_ ?_ ?_); rfl; rfl))
  refine l_call ?_
  refine SXl.callO rfl rfl rfl (fun w' hl => drawAllUnder_o a len cap w' hlen (bytes_loc hy (fun _ _ f => f) hl)) (fun qn hq => ?_)
  obtain ⟨⟨ps, qa, qc⟩, n⟩ := qn
  obtain ⟨hd, hn1, hn2⟩ := hq
  simp only at hd hn1 hn2
  have hd1 := hd.pos
  have hd2 := hd.len
  have hbl := bare_len ps
  rw [hbl] at hd1 hd2
  refine SXl.know (fun w hl => tree_addr (l := ps) (a := qa) (c := qc) (Owns.left hl.owns) (by omega)) (fun ⟨gt, hgt⟩ => ?_)
  subst hgt
  repeat (first | refine SX.seq ?_ | refine SXl.nil ?_ | refine SX.region ?_ | refine SQ.thenNormal ?_ | (refine l_load ?_; (refine SXl.v (OpW.loadAll 0 rfl rfl rfl) rfl ?_ ?_ ?_); rfl; rfl) | (refine l_move ?_; (refine SXl.v (OpW.move rfl) rfl ?_ ?_ ?_); rfl; rfl) | (refine l_assign ?_; (refine SXl.v (OpW.assign rfl) rfl ?_ ?_ ?_); rfl; rfl) | (refine l_extract ?_; (refine SXl.v (OpW.extract rfl rfl) rfl ?_ ?_ ?_); rfl; rfl) | (refine l_alloc ?_; refine SXl.alloc ?_ ?_ (fun g => ?_); rfl; rfl) | (refine l_store ?_; first | (refine SXl.storeAll 0 ?_ rfl rfl rfl rfl rfl rfl rfl ?_; rfl; simp only [List.set_cons_zero, List.set_cons_succ]) | (refine SXl.storeAll 1 ?_ rfl rfl rfl rfl rfl rfl rfl ?_; rfl; simp only [List.set_cons_zero, List.set_cons_succ]) | (refine SXl.storeAll 2 ?_ rfl rfl rfl rfl rfl rfl rfl ?_; rfl; simp only [List.set_cons_zero, List.set_cons_succ]) | (refine SXl.storeRow 0 ?_ rfl rfl rfl rfl rfl rfl rfl ?_; rfl; simp only [over, List.set_cons_zero, List.set_cons_succ]) | (refine SXl.storeRow 1 ?_ rfl rfl rfl rfl rfl rfl rfl ?_; rfl; simp only [over, List.set_cons_zero, List.set_cons_succ]) | (refine SXl.storeRow 2 ?_ rfl rfl rfl rfl rfl rfl rfl ?_; rfl; simp only [over, List.set_cons_zero, List.set_cons_succ])))
  revert g; intro g3
  change SXl _ _ _ _ _ _ (treeO ps (some ⟨gt, 0, none⟩) qc ++ []) _ _ _ _
  rw [List.append_nil]
  have hlb : (bare ps).length ≤ 1048576 := by omega
  have hA := fun w' (ho : Owns w.heap.size w' (treeO ps (some ⟨gt, 0, none⟩) qc)) => allUnderW_any (bare ps) n false (some ⟨gt, 0, none⟩) qc _ w' hlb hd.fit (tree_in ho)
  have hS := fun w' (ho : Owns w.heap.size w' (treeO ps (some ⟨gt, 0, none⟩) qc)) => sallUnderW_any (bare ps) n false (some ⟨gt, 0, none⟩) qc _ w' hlb hd.fit (tree_in ho)
  rw [hbl] at hA hS
  have hWl : (allW (bare ps) n).length ≤ 30000 := by
    unfold allW
    split
    · rename_i h
      rw [Bool.and_eq_true] at h
      obtain ⟨k, rfl, hk⟩ := inB_node h.2
      exact allU_len h.1 (List.getElem?_eq_getElem hk)
    · simp
  refine l_call ?_
  refine SXl.calln1 (v := fun q => .slice q.a (allW (bare ps) n).length q.c) (F1 := ownRes icell 3 1 (allW (bare ps) n)) rfl rfl rfl (fun w hl => (hA w hl.owns).mono fun _ _ h => new_own h) (fun q1 => ?_)
  repeat (first | refine SX.seq ?_ | refine SXl.nil ?_ | refine SX.region ?_ | refine SQ.thenNormal ?_ | (refine l_load ?_; (refine SXl.v (OpW.loadAll 0 rfl rfl rfl) rfl ?_ ?_ ?_); rfl; rfl) | (refine l_move ?_; (refine SXl.v (OpW.move rfl) rfl ?_ ?_ ?_); rfl; rfl) | (refine l_assign ?_; (refine SXl.v (OpW.assign rfl) rfl ?_ ?_ ?_); rfl; rfl))
  refine l_call ?_
  refine SXl.calln1 (v := fun q => .slice q.a (allW (bare ps) n).length q.c) (F1 := ownRes icell 3 1 (allW (bare ps) n)) rfl rfl rfl (fun w hl => (hS w hl.owns).mono fun _ _ h => new_own h) (fun q2 => ?_)
  have hE := fun w' h h' => lsameInts_any (allW (bare ps) n) (allW (bare ps) n) q1.a q2.a q1.c q2.c (fun k => q1.lo ≤ k) (fun k => q2.lo ≤ k) w' (by omega) (by omega) h h'
  rw [decide_eq_true rfl] at hE
  have hP := fun w => plain_any w
  repeat (first | refine SX.seq ?_ | refine SXl.nil ?_ | refine SX.region ?_ | refine SQ.thenNormal ?_ | refine SX.skip ?_ | refine SX.condF rfl ?_ | (refine l_call ?_; (first | refine SXl.v (OpW.call rfl (fun w hl => hE _ (int_in hl (.tail _ (.head _))) (int_in hl (.head _)))) rfl ?_ ?_ ?_ | refine SXl.v (OpW.call rfl (fun w hl => hP _)) rfl ?_ ?_ ?_); rfl; rfl) | (refine l_build ?_; (refine SXl.v ((OpW.build (vals := []) (cells := [.slice none 0 0]) rfl (by kernel_rfl))) rfl ?_ ?_ ?_); rfl; rfl) | (refine l_not ?_; (refine SXl.v (OpW.not rfl) rfl ?_ ?_ ?_); rfl; rfl))
  refine l_call ?_
  refine SXl.callO rfl rfl rfl (fun w' hl => saddNode_any [] plainStyle false none 0 (fun _ => False) w' (by simp) (fun x h => (List.not_mem_nil h).elim) SliceAt.nil) (fun q6 hq6 => ?_)
  rw [one_add] at hq6
  have hq6l : q6.ps.length = 1 := by rw [← bare_len, hq6]; rfl
  repeat (first | refine SX.seq ?_ | refine SXl.nil ?_ | refine SX.region ?_ | refine SQ.thenNormal ?_ | refine SX.block ?_ | (refine l_move ?_; (refine SXl.v (OpW.move rfl) rfl ?_ ?_ ?_); rfl; rfl) | (refine l_assign ?_; (refine SXl.v (OpW.assign rfl) rfl ?_ ?_ ?_); rfl; rfl) | (refine l_extract ?_; (refine SXl.v (OpW.extract rfl rfl) rfl ?_ ?_ ?_); rfl; rfl) | (refine l_alloc ?_; refine SXl.alloc ?_ ?_ (fun g => ?_); rfl; rfl) | (refine l_store ?_; first | (refine SXl.storeAll 0 ?_ rfl rfl rfl rfl rfl rfl rfl ?_; rfl; simp only [List.set_cons_zero, List.set_cons_succ]) | (refine SXl.storeAll 1 ?_ rfl rfl rfl rfl rfl rfl rfl ?_; rfl; simp only [List.set_cons_zero, List.set_cons_succ]) | (refine SXl.storeAll 2 ?_ rfl rfl rfl rfl rfl rfl rfl ?_; rfl; simp only [List.set_cons_zero, List.set_cons_succ]) | (refine SXl.storeRow 0 ?_ rfl rfl rfl rfl rfl rfl rfl ?_; rfl; simp only [over, List.set_cons_zero, List.set_cons_succ]) | (refine SXl.storeRow 1 ?_ rfl rfl rfl rfl rfl rfl rfl ?_; rfl; simp only [over, List.set_cons_zero, List.set_cons_succ]) | (refine SXl.storeRow 2 ?_ rfl rfl rfl rfl rfl rfl rfl ?_; rfl; simp only [over, List.set_cons_zero, List.set_cons_succ])))
  revert g; intro g6
  generalize hU : allW (bare ps) n = U at *
  have hB := fun w' (ho : Owns w.heap.size w' q6.os) => allUnderW_any (bare q6.ps) 1 false q6.a q6.c _ w' (by rw [bare_len]; omega) (fun x hx => by
    rw [hq6] at hx
    obtain rfl := List.mem_singleton.1 hx
    exact ⟨Nat.zero_le _, Nat.zero_le _⟩) (tree_in ho)
  rw [bare_len, hq6, one_all] at hB
  refine SX.loop3 (fun (i : Nat) (_ _ : Unit) => 1 ≤ i) (fun i _ _ => U.length - i) (fun _ _ _ => [⟨g6, [.slice q6.a q6.ps.length q6.c], 37⟩, ⟨g3, [.slice (some ⟨gt, 0, none⟩) ps.length qc], 37⟩]) (fun _ _ _ => q6.os ++ treeO ps (some ⟨gt, 0, none⟩) qc) (fun _ _ _ => [ownRes icell 3 1 U q2, ownRes icell 3 1 U q1]) (fun i _ _ => [(3, .pointer (some ⟨g3, 0, none⟩)), (4, .int .i64 n), (5, .slice q1.a U.length q1.c), (6, .pointer (some ⟨g6, 0, none⟩)), (8, .int .i64 i)]) 1 () () (Nat.le_refl _) ?_ (fun w hl => hl) ?_
  · (repeat (first | exact subF_nil _ | (refine subF_cons rfl ?_) | (refine subF_consv rfl (by rfl) ?_)))
  rintro i _ _ hi
  by_cases hlt : i < U.length
  · obtain ⟨y, hy⟩ : ∃ y, U[i]? = some y := ⟨_, List.getElem?_eq_getElem hlt⟩
    have hv : treeOk (bare ps) = true ∧ inB n 1 (bare ps).length = true := by
      rw [← hU] at hlt
      unfold allW at hlt
      split at hlt
      · rename_i h; exact Bool.and_eq_true_iff.1 h
      · simp at hlt
    have hyu : isUnder (bare ps) y n = true := by
      have hy2 := hy
      rw [← hU] at hy2
      unfold allW at hy2
      rw [hv.1, hv.2, show i = (i - 1) + 1 by omega] at hy2
      exact (allU_tail hv.1 hv.2 hy2).2
    refine SX.know (fun w hl => int_addr (hl.res _ (.tail _ (.head _))).1 (by omega)) (fun ⟨g1, hg1⟩ => ?_)
    have hI := fun w' ho => sisUnder_any (bare ps) y n false (some ⟨gt, 0, none⟩) qc (fun k => w.heap.size ≤ k) w' hv.1 ho
    rw [hyu, hbl] at hI
    rw [hg1]
    repeat (first | refine SX.seq ?_ | refine SXl.nil ?_ | refine SX.region ?_ | refine SQ.thenNormal ?_ | refine SX.block ?_ | refine SX.skip ?_ | refine SX.condT rfl ?_ | refine SX.condF rfl ?_ | (refine l_move ?_; (refine SXl.v (OpW.move rfl) rfl ?_ ?_ ?_); rfl; rfl) | (refine l_assign ?_; (refine SXl.v (OpW.assign rfl) rfl ?_ ?_ ?_); rfl; rfl) | (refine l_len ?_; (refine SXl.v (OpW.len rfl) rfl ?_ ?_ ?_); rfl; rfl) | (refine l_add ?_; (refine SXl.v (OpW.succ rfl rfl (by omega)) rfl ?_ ?_ ?_); rfl; rfl) | (refine l_lss ?_; (refine SXl.v (OpW.lssT rfl rfl (by omega)) rfl ?_ ?_ ?_); rfl; rfl) | refine SX.drawn (by kernel_rfl) (by kernel_rfl) ?_ | refine SXr.nil ?_ | (refine r_load ?_; (first | refine SXr.v (OpW.loadLoc rfl (fun w hl => by have h2 := (hl.res _ (.tail _ (.head _))).1; simp only [ownRes, hg1] at h2; exact int_cell h2 hy)) rfl ?_ ?_ ?_ | refine SXr.v (OpW.loadAll 1 rfl rfl rfl) rfl ?_ ?_ ?_); rfl; rfl) | (refine r_call ?_; (refine SXr.v (OpW.call rfl (fun w hl => hI _ (tree_in (hl.owns.sub (List.sublist_append_right _ _))))) rfl ?_ ?_ ?_); rfl; rfl) | (refine r_move ?_; (refine SXr.v (OpW.move rfl) rfl ?_ ?_ ?_); rfl; rfl) | (refine r_not ?_; (refine SXr.v (OpW.not rfl) rfl ?_ ?_ ?_); rfl; rfl) | (refine r_indexAddr ?_; (refine SXr.v (OpW.indexAddr1 (by omega) rfl rfl) rfl ?_ ?_ ?_); rfl; rfl) | refine SQ.blockNormal ?_)
    refine SQ.round3 (i + 1) () () (by omega) (by omega) ?_ (fun w hl => hl)
    (repeat (first | exact subF_nil _ | (refine subF_cons rfl ?_) | (refine subF_consv rfl (by rw [hg1]) ?_)))
  repeat (first | refine SX.seq ?_ | refine SXl.nil ?_ | refine SX.region ?_ | refine SQ.thenNormal ?_ | refine SX.block ?_ | refine SX.condF rfl ?_ | (refine l_move ?_; (refine SXl.v (OpW.move rfl) rfl ?_ ?_ ?_); rfl; rfl) | (refine l_assign ?_; (refine SXl.v (OpW.assign rfl) rfl ?_ ?_ ?_); rfl; rfl) | (refine l_len ?_; (refine SXl.v (OpW.len rfl) rfl ?_ ?_ ?_); rfl; rfl) | (refine l_lss ?_; (refine SXl.v (OpW.lssF rfl rfl (by omega)) rfl ?_ ?_ ?_); rfl; rfl) | refine SX.exit ?_ | refine SQ.thenExit ?_ | refine SQ.blockExit ?_)
  by_cases hU0 : U.length = 0
  · refine SX.loop3 (fun (_ _ _ : Unit) => True) (fun _ _ _ => 0) (fun _ _ _ => [⟨g6, [.slice q6.a q6.ps.length q6.c], 37⟩, ⟨g3, [.slice (some ⟨gt, 0, none⟩) ps.length qc], 37⟩]) (fun _ _ _ => q6.os ++ treeO ps (some ⟨gt, 0, none⟩) qc) (fun _ _ _ => [ownRes icell 3 1 U q2, ownRes icell 3 1 U q1]) (fun _ _ _ => [(3, .pointer (some ⟨g3, 0, none⟩)), (4, .int .i64 n), (5, .slice q1.a U.length q1.c), (6, .pointer (some ⟨g6, 0, none⟩)), (9, .int .i64 1), (10, .int .i64 0)]) () () () trivial ?_ (fun w hl => hl) ?_
    · (repeat (first | exact subF_nil _ | (refine subF_cons rfl ?_) | (refine subF_consv rfl (by rfl) ?_)))
    rintro _ _ _ _
    repeat (first | refine SX.seq ?_ | refine SXl.nil ?_ | refine SX.region ?_ | refine SQ.thenNormal ?_ | refine SX.condF rfl ?_ | (refine SXl.no rfl rfl rfl ?_) | (refine l_load ?_; (refine SXl.v (OpW.loadAll 0 rfl rfl rfl) rfl ?_ ?_ ?_); rfl; rfl) | (refine l_move ?_; (refine SXl.v (OpW.move rfl) rfl ?_ ?_ ?_); rfl; rfl) | (refine l_len ?_; (refine SXl.v (OpW.len rfl) rfl ?_ ?_ ?_); rfl; rfl) | (refine l_eql ?_; (refine SXl.v (OpW.eqlT rfl rfl (by omega)) rfl ?_ ?_ ?_); rfl; rfl) | (refine l_gtr ?_; (refine SXl.v (OpW.gtrF rfl rfl (by omega)) rfl ?_ ?_ ?_); rfl; rfl) | (refine l_pick ?_; (refine SXl.v (OpW.pick rfl rfl rfl) rfl ?_ ?_ ?_); rfl; rfl) | refine SX.exit ?_ | refine SQ.thenExit ?_ | refine SQ.blockExit ?_)
    refine l_call ?_
    refine SXl.calln1 (v := fun q => .slice q.a ([1] : List Int).length q.c) (F1 := ownRes icell 3 1 [1]) rfl rfl rfl (fun w hl => (hB w (hl.owns.sub (List.sublist_append_left _ _))).mono fun _ _ h => new_own h) (fun q9 => ?_)
    repeat ((refine l_buildSlice ?_; first | (refine SXl.lit1 ?_ ?_ rfl rfl rfl (fun g => ?_); rfl; rfl) | (refine SXl.lit0 ?_ ?_ (fun _ h => h) rfl (fun g => ?_); rfl; rfl)))
    have hE9 := fun gl w' h h' => lsameInts_any [1] [1] q9.a (some ⟨gl, 0, none⟩) q9.c 1 (fun k => q9.lo ≤ k) (fun _ => True) w' (by decide) (by decide) h h'
    rw [decide_eq_true rfl] at hE9
    repeat (first | refine SXl.nil ?_ | refine SQ.thenNormal ?_ | (refine l_call ?_; (refine SXl.v (OpW.call rfl (fun w hl => hE9 _ _ (int_in hl (.head _)) ⟨[[.int .i64 1]], rowsAt_of_blk (hl.blk _ (.head _)).2 (by simp) trivial, rfl, fun i r x h1 h2 => by cases i <;> simp_all [Flat, icell]⟩)) rfl ?_ ?_ ?_); rfl; rfl) | (refine l_assign ?_; (refine SXl.v (OpW.assign rfl) rfl ?_ ?_ ?_); rfl; rfl) | (refine l_pick ?_; (refine SXl.v (OpW.pick rfl rfl rfl) rfl ?_ ?_ ?_); rfl; rfl) | refine SX.ret ?_)
    refine SQ.body1 rfl rfl (fun w' hl => ⟨rfl, hl.mod⟩)
  have hv : treeOk (bare ps) = true ∧ inB n 1 (bare ps).length = true := by
    rw [← hU] at hU0
    unfold allW at hU0
    split at hU0
    · rename_i h; exact Bool.and_eq_true_iff.1 h
    · simp at hU0
  obtain ⟨hv, hn⟩ := hv
  have hUe : U = allU (bare ps) n := by rw [← hU]; unfold allW; rw [hv, hn]; rfl
  obtain ⟨k, x0, rfl, hk, hx0, hnx⟩ := node_get hn
  obtain ⟨x, hx⟩ : ∃ x, ps[k]? = some x := ⟨_, List.getElem?_eq_getElem (by omega)⟩
  obtain rfl : x.1 = x0 := Option.some.inj ((bare_get hx).symm.trans hx0)
  have hkl := ok_kids_len hv hx0
  have hud := fun j hj => undTo_len (j := j) hv hx0 hj
  refine SX.loop3 (fun (j : Nat) (_ _ : Unit) => j ≤ x.1.kids.length) (fun j _ _ => x.1.kids.length - j) (fun _ _ _ => [⟨g6, [.slice q6.a q6.ps.length q6.c], 37⟩, ⟨g3, [.slice (some ⟨gt, 0, none⟩) ps.length qc], 37⟩]) (fun _ _ _ => q6.os ++ treeO ps (some ⟨gt, 0, none⟩) qc) (fun _ _ _ => [ownRes icell 3 1 U q2, ownRes icell 3 1 U q1]) (fun j _ _ => [(3, .pointer (some ⟨g3, 0, none⟩)), (4, .int .i64 ((k + 1 : Nat) : Int)), (5, .slice q1.a U.length q1.c), (6, .pointer (some ⟨g6, 0, none⟩)), (9, .int .i64 (undTo (bare ps) ((k + 1 : Nat) : Int) x.1.kids j).length), (10, .int .i64 j)]) 0 () () (Nat.zero_le _) ?_ (fun w hl => hl) ?_
  · (repeat (first | exact subF_nil _ | (refine subF_cons rfl ?_) | (refine subF_consv rfl (by rfl) ?_)))
  rintro j _ _ hj
  have hudj := hud j hj
  have hcell : ∀ w', Loc w (Rg.none w) [⟨g6, [.slice q6.a q6.ps.length q6.c], 37⟩, ⟨g3, [.slice (some ⟨gt, 0, none⟩) ps.length qc], 37⟩] (q6.os ++ treeO ps (some ⟨gt, 0, none⟩) qc) [ownRes icell 3 1 U q2, ownRes icell 3 1 U q1] w' → w'.cell? ⟨gt, 0 + k * 64 + 1, none⟩ = some (.slice x.2.ka x.1.kids.length x.2.kc) := fun w' hl =>
    nodes_cell (hl.owns.sub (List.sublist_append_right _ _)) hx (nodeRow_1 _ _ _ _ _ _ _ _ _)
  by_cases hjl : j < x.1.kids.length
  rotate_left
  · have hall : (undTo (bare ps) ((k + 1 : Nat) : Int) x.1.kids j).length = U.length := by
      rw [hUe, allU_eq hv hx0, show j = x.1.kids.length by omega]
      unfold undTo
      rw [List.take_length]
    rw [hall]
    repeat (first | refine SX.seq ?_ | refine SXl.nil ?_ | refine SX.region ?_ | refine SQ.thenNormal ?_ | refine SX.condF rfl ?_ | (refine l_load ?_; (first | refine SXl.v (OpW.loadLoc rfl hcell) rfl ?_ ?_ ?_ | refine SXl.v (OpW.load 1 rfl rfl rfl) rfl ?_ ?_ ?_ | refine SXl.v (OpW.loadAll 0 rfl rfl rfl) rfl ?_ ?_ ?_); rfl; rfl) | (refine l_indexAddr ?_; (refine SXl.v ((OpW.indexAddr (i := k) (by omega) rfl (congrArg (fun i : Int => some (Value.int .i64 i)) (by omega : ((k + 1 : Nat) : Int) - 1 = (k : Int))))) rfl ?_ ?_ ?_); rfl; rfl) | (refine l_fieldAddr ?_; (refine SXl.v (OpW.fieldAddr rfl) rfl ?_ ?_ ?_); rfl; rfl) | (refine l_move ?_; (refine SXl.v (OpW.move rfl) rfl ?_ ?_ ?_); rfl; rfl) | (refine l_len ?_; (refine SXl.v (OpW.len rfl) rfl ?_ ?_ ?_); rfl; rfl) | (refine l_eql ?_; (first | refine SXl.v (OpW.eqlT rfl rfl (by omega)) rfl ?_ ?_ ?_ | refine SXl.v (OpW.eqlF rfl rfl (by omega)) rfl ?_ ?_ ?_); rfl; rfl) | (refine l_gtr ?_; (refine SXl.v (OpW.gtrT rfl rfl (by omega)) rfl ?_ ?_ ?_); rfl; rfl) | (refine l_lss ?_; (refine SXl.v (OpW.lssF rfl rfl (by omega)) rfl ?_ ?_ ?_); rfl; rfl) | (refine l_sub ?_; (refine SXl.v (OpW.subi rfl rfl (by omega) (by omega)) rfl ?_ ?_ ?_); rfl; rfl) | (refine l_pick ?_; (refine SXl.v (OpW.pick rfl rfl rfl) rfl ?_ ?_ ?_); rfl; rfl) | refine SX.exit ?_ | refine SQ.thenExit ?_ | refine SQ.blockExit ?_)
    refine l_call ?_
    refine SXl.calln1 (v := fun q => .slice q.a ([1] : List Int).length q.c) (F1 := ownRes icell 3 1 [1]) rfl rfl rfl (fun w hl => (hB w (hl.owns.sub (List.sublist_append_left _ _))).mono fun _ _ h => new_own h) (fun q9 => ?_)
    repeat ((refine l_buildSlice ?_; first | (refine SXl.lit1 ?_ ?_ rfl rfl rfl (fun g => ?_); rfl; rfl) | (refine SXl.lit0 ?_ ?_ (fun _ h => h) rfl (fun g => ?_); rfl; rfl)))
    have hE9 := fun gl w' h h' => lsameInts_any [1] [1] q9.a (some ⟨gl, 0, none⟩) q9.c 1 (fun k => q9.lo ≤ k) (fun _ => True) w' (by decide) (by decide) h h'
    rw [decide_eq_true rfl] at hE9
    repeat (first | refine SXl.nil ?_ | refine SQ.thenNormal ?_ | (refine l_call ?_; (refine SXl.v (OpW.call rfl (fun w hl => hE9 _ _ (int_in hl (.head _)) ⟨[[.int .i64 1]], rowsAt_of_blk (hl.blk _ (.head _)).2 (by simp) trivial, rfl, fun i r x h1 h2 => by cases i <;> simp_all [Flat, icell]⟩)) rfl ?_ ?_ ?_); rfl; rfl) | (refine l_assign ?_; (refine SXl.v (OpW.assign rfl) rfl ?_ ?_ ?_); rfl; rfl) | (refine l_pick ?_; (refine SXl.v (OpW.pick rfl rfl rfl) rfl ?_ ?_ ?_); rfl; rfl) | refine SX.ret ?_)
    refine SQ.body1 rfl rfl (fun w' hl => ⟨rfl, hl.mod⟩)
  repeat (first | refine SX.seq ?_ | refine SXl.nil ?_ | refine SX.region ?_ | refine SQ.thenNormal ?_ | refine SX.block ?_ | refine SX.skip ?_ | refine SX.condT rfl ?_ | (refine l_load ?_; (first | refine SXl.v (OpW.loadLoc rfl hcell) rfl ?_ ?_ ?_ | refine SXl.v (OpW.load 1 rfl rfl rfl) rfl ?_ ?_ ?_); rfl; rfl) | (refine l_indexAddr ?_; (refine SXl.v ((OpW.indexAddr (i := k) (by omega) rfl (congrArg (fun i : Int => some (Value.int .i64 i)) (by omega : ((k + 1 : Nat) : Int) - 1 = (k : Int))))) rfl ?_ ?_ ?_); rfl; rfl) | (refine l_fieldAddr ?_; (refine SXl.v (OpW.fieldAddr rfl) rfl ?_ ?_ ?_); rfl; rfl) | (refine l_move ?_; (refine SXl.v (OpW.move rfl) rfl ?_ ?_ ?_); rfl; rfl) | (refine l_len ?_; (refine SXl.v (OpW.len rfl) rfl ?_ ?_ ?_); rfl; rfl) | (refine l_gtr ?_; (refine SXl.v (OpW.gtrT rfl rfl (by omega)) rfl ?_ ?_ ?_); rfl; rfl) | (refine l_lss ?_; (refine SXl.v (OpW.lssT rfl rfl (by omega)) rfl ?_ ?_ ?_); rfl; rfl) | (refine l_sub ?_; (refine SXl.v (OpW.subi rfl rfl (by omega) (by omega)) rfl ?_ ?_ ?_); rfl; rfl) | (refine l_pick ?_; (refine SXl.v (OpW.pick rfl rfl rfl) rfl ?_ ?_ ?_); rfl; rfl))
  obtain ⟨y, hy⟩ : ∃ y, x.1.kids[j]? = some y := ⟨_, List.getElem?_eq_getElem hjl⟩
  obtain ⟨ky, z, rfl, hz, hzu, hzd⟩ := ok_kid hv hx0 (List.mem_of_getElem? hy)
  have hky := (List.getElem?_eq_some_iff.1 hz).1
  have hky2 : inB ((ky + 1 : Nat) : Int) 1 (bare ps).length = true := inB_true (by omega) (by omega)
  have hWy : allW (bare ps) ((ky + 1 : Nat) : Int) = allU (bare ps) ((ky + 1 : Nat) : Int) := by unfold allW; rw [hv, hky2]; rfl
  have hWl2 := allU_len hv hz
  have hA2 := fun w' (ho : Owns w.heap.size w' (treeO ps (some ⟨gt, 0, none⟩) qc)) => allUnderW_any (bare ps) ((ky + 1 : Nat) : Int) false (some ⟨gt, 0, none⟩) qc _ w' hlb hd.fit (tree_in ho)
  rw [hbl, hWy] at hA2
  have hus := undTo_succ (l := bare ps) (n := ((k + 1 : Nat) : Int)) hy
  refine SX.know (fun w hl => kid_addr (hl.owns.sub (List.sublist_append_right _ _)) hx (by omega)) (fun ⟨gk, hgk⟩ => ?_)
  refine SX.drawnG (ζ := SlP) 15 (fun _ _ => [⟨g6, [.slice q6.a q6.ps.length q6.c], 37⟩, ⟨g3, [.slice (some ⟨gt, 0, none⟩) ps.length qc], 37⟩]) (fun _ _ => q6.os ++ treeO ps (some ⟨gt, 0, none⟩) qc) (fun d p => (bif d 12 then [ownRes icell 3 1 (allU (bare ps) ((ky + 1 : Nat) : Int)) p] else []) ++ [ownRes icell 3 1 U q2, ownRes icell 3 1 U q1]) [(12, fun p v => v = .slice p.a (allU (bare ps) ((ky + 1 : Nat) : Int)).length p.c)] ⟨none, 0, 0⟩ (by kernel_rfl) (by kernel_rfl) (by kernel_rfl) ⟨rfl, rfl, rfl⟩ ?_
  repeat (first | (refine SXg.v0 (fun dn x p ha hK => ((OpW.indexAddr (i := k) (by omega) rfl (congrArg (fun i : Int => some (Value.int .i64 i)) (by omega : ((k + 1 : Nat) : Int) - 1 = (k : Int)))))) rfl (fun _ => rfl) rfl (fun _ _ => ⟨rfl, rfl, rfl⟩) rfl ?_) | (refine SXg.v0 (fun dn x p ha hK => (OpW.load 1 rfl rfl rfl)) rfl (fun _ => rfl) rfl (fun _ _ => ⟨rfl, rfl, rfl⟩) rfl ?_) | (refine SXg.v0 (fun dn x p ha hK => (OpW.loadAll 1 rfl rfl rfl)) rfl (fun _ => rfl) rfl (fun _ _ => ⟨rfl, rfl, rfl⟩) rfl ?_) | (refine SXg.v0 (fun dn x p ha hK => (OpW.fieldAddr rfl)) rfl (fun _ => rfl) rfl (fun _ _ => ⟨rfl, rfl, rfl⟩) rfl ?_) | (refine SXg.v0 (fun dn x p ha hK => (OpW.move rfl)) rfl (fun _ => rfl) rfl (fun _ _ => ⟨rfl, rfl, rfl⟩) rfl ?_) | (refine SXg.v0 (fun dn x p ha hK => (OpW.subi rfl rfl (by omega) (by omega))) rfl (fun _ => rfl) rfl (fun _ _ => ⟨rfl, rfl, rfl⟩) rfl ?_))
  refine SXg.v0 (v := .slice x.2.ka x.1.kids.length x.2.kc) (fun dn x' p ha hk => ?_) rfl (fun _ => rfl) rfl (fun _ _ => ⟨rfl, rfl, rfl⟩) rfl ?_
  · exact OpW.loadLoc rfl (fun w' hl => nodes_cell (hl.owns.sub (List.sublist_append_right _ _)) hx (nodeRow_1 _ _ _ _ _ _ _ _ _))
  rw [hgk]
  repeat (first | (refine SXg.v0 (fun dn x p ha hK => (OpW.move rfl)) rfl (fun _ => rfl) rfl (fun _ _ => ⟨rfl, rfl, rfl⟩) rfl ?_) | (refine SXg.v0 (fun dn x p ha hK => (OpW.indexAddr1 (by omega) rfl rfl)) rfl (fun _ => rfl) rfl (fun _ _ => ⟨rfl, rfl, rfl⟩) rfl ?_))
  refine SXg.v0 (v := .int .i64 ((ky + 1 : Nat) : Int)) (fun dn x' p ha hk => ?_) rfl (fun _ => rfl) rfl (fun _ _ => ⟨rfl, rfl, rfl⟩) rfl ?_
  · refine OpW.loadLoc rfl (fun w' hl => ?_)
    have h2 := (hl.owns.sub (List.sublist_append_right _ _)).row _ (List.mem_cons_of_mem _ (partsO_mem (List.mem_of_getElem? hx)).1)
    simp only [kidsO, hgk] at h2
    exact int_cell h2 hy
  refine SXg.l rfl (fun _ => rfl) rfl (fun dn x' p ha hk => ?_) ?_
  · have d12 : dn 12 = false := ha.not
    have u12 : upd dn 12 12 = true := rfl
    simp only [d12, cond_true, cond_false, List.append_nil, List.nil_append]
    refine SXl.calln1 (v := fun q => .slice q.a (allU (bare ps) ((ky + 1 : Nat) : Int)).length q.c) (F1 := ownRes icell 3 1 (allU (bare ps) ((ky + 1 : Nat) : Int))) rfl rfl rfl (fun w hl => (hA2 w (hl.owns.sub (List.sublist_append_right _ _))).mono fun _ _ h => new_own h) (fun q => ?_)
    refine SXl.nil (SQ.g q _ rfl (fun w hl => ?_) ⟨fun _ => rfl, trivial⟩)
    simp only [u12, cond_true, cond_false, List.append_nil, List.nil_append]
    exact hl
  refine SXg.v0 (v := .int .i64 ((allU (bare ps) ((ky + 1 : Nat) : Int)).length : Nat)) (fun dn x' p ha hk => ?_) rfl (fun _ => rfl) rfl (fun _ _ => ⟨rfl, rfl, rfl⟩) rfl ?_
  · have x12 : x' 12 = .slice p.a (allU (bare ps) ((ky + 1 : Nat) : Int)).length p.c := hk.1 (ha.done 12 (by kernel_rfl))
    simp only [x12]
    exact OpW.len rfl
  repeat ((refine SXg.v0 (fun dn x p ha hK => (OpW.addi rfl rfl (by omega) (by omega))) rfl (fun _ => rfl) rfl (fun _ _ => ⟨rfl, rfl, rfl⟩) rfl ?_))
  refine SXg.tail (fun xq p hkq => ?_)
  repeat (first | refine SXl.nil ?_ | refine SX.region ?_ | refine SQ.thenNormal ?_ | (refine l_move ?_; (refine SXl.v (OpW.move rfl) rfl ?_ ?_ ?_); rfl; rfl) | (refine l_assign ?_; (refine SXl.v (OpW.assign rfl) rfl ?_ ?_ ?_); rfl; rfl) | (refine l_add ?_; (refine SXl.v (OpW.succ rfl rfl (by omega)) rfl ?_ ?_ ?_); rfl; rfl) | refine SQ.blockNormal ?_)
  refine SQ.round3 (j + 1) () () (by omega) (by omega) ?_ (fun w hl => hl.dropE)
  (repeat (first | exact subF_nil _ | (refine subF_cons rfl ?_) | (refine subF_consv rfl (by rw [hus, List.length_append]; rfl) ?_)))
/-! ### The row's frame (the kit's skeleton, turned) -/
namespace fnCounted
open Go.ChangeShapes Go.WideShapes Go.ChangeAt Go.RowKit
set_option linter.unusedVariables false

theorem own : ownKnob Try.prog.godebug = none := by kernel_rfl
theorem laidOut : laidOutB Try.prog = true := by kernel_rfl
def IsRow (k : IntKind) (w : World) (a : Option Addr) (len cap : Nat) (zs : List Int) : Prop :=
  (a = none ∧ len = 0 ∧ cap = 0 ∧ zs = []) ∨
  ∃ x, a = some x ∧ len ≤ cap ∧ cap ≤ maxLen ∧ zs.length = cap ∧ (∀ i, i < zs.length → w.cell? (x.add i) = some (.int k (zs.getD i 0))) ∧ ∀ n ∈ zs, (Lit.int k n).wf = true

theorem walk (a0 : Option Addr) (len0 cap0 : Nat) (z0 : List Int) (w : World) (w0 : IsRow .u8 w a0 len0 cap0 z0) :
    Calls Try.prog 6 #[.slice a0 len0 cap0] w fun e w' => e = .returned (.bool true) ∧ Below w.heap.size w w' := by
  obtain ⟨h1, h2⟩ := bytes_of_row (a := a0) (len := len0) (cap := cap0) (zs := z0) w0
  exact (fnCounted_walk w a0 len0 cap0 h1 h2).mono fun e w' ⟨he, hm⟩ => ⟨he, hm.below (Nat.le_refl _) fun _ _ h => h⟩

set_option maxRecDepth 100000 in
theorem lifted (os : Os) (started : os.Started) (H : Type) (enc : TypeId × Value → H) :
    ReturnsInHanded {} Try.checked os 6 .any (Rows.fnCountedSpec.pre6 enc Try.prog Try.f6 Rows.fnCountedRow.domain false) (Rows.fnCountedSpec.post enc Try.prog Try.f6 false true false false) := by
  refine returnsInHanded_of_change (C := Try.checked) own started (by kernel_rfl) Try.func6
    (ChangeSpec.witness6 (enc := enc) (C := Try.checked) false ⟨#[], #[.slice none 0 0], []⟩ 8 (by kernel_rfl) (by kernel_rfl) (by kernel_rfl) (by kernel_rfl)) ?_
  intro W base args ds gs before hval0 hW hcnd _
  have hval : ∀ (j : Nat) t v, Try.f6.params[j]? = some t → args[j]? = some v → Value.okWide Try.prog W .any base t v := hval0
  have hW' := hW
  obtain ⟨p, q, hA0, hV, rfl, hfz, hnd⟩ := hW
  have hA : DataW.TrodAll enc Try.prog W 0 (fun _ => true) true Try.f6.params.toList args.toList ds p := hA0
  rw [Try.params6] at hA hval
  obtain ⟨v0, vs0, d0, ds0, p0, q0, hargs, rfl, rfl, h0, r0⟩ := trodAll_cons hA
  obtain ⟨rfl, rfl, rfl⟩ := trodAll_nil r0
  obtain rfl : args = #[v0] := by cases args; simp_all
  obtain ⟨rfl, rfl⟩ := trodVars_none hV
  obtain ⟨a0, len0, cap0, rfl⟩ := okWide_slice Try.underlying50 (hval 0 50 v0 rfl rfl)
  have k0 := h0
  have lt0 : ∀ x ∈ p0, x.block < W.heap.size := by obtain ⟨m, hm⟩ := k0; exact DataW.trod_lt m _ _ _ hm
  obtain ⟨z0, w0⟩ : ∃ zs, IsRow .u8 W a0 len0 cap0 zs := by
    obtain ⟨fuel, hf⟩ := h0
    rcases open_ints Try.underlying50 Try.underlying5 (by kernel_rfl) hf with ⟨hcs, _⟩ | ⟨x, l, c, zs, hcs, _, hl, hm, hz, _, hcell, hwz⟩
    · simp [Value.cells] at hcs
      obtain ⟨rfl, rfl, rfl⟩ := hcs
      exact ⟨[], .inl ⟨rfl, rfl, rfl, rfl⟩⟩
    · simp [Value.cells] at hcs
      obtain ⟨rfl, rfl, rfl⟩ := hcs
      exact ⟨zs, .inr ⟨_, rfl, hl, hm, by simpa using hz, hcell, hwz⟩⟩
  clear hA0 hval0
  refine (walk a0 len0 cap0 z0 W w0).mono fun e W' ⟨he, bel⟩ => ?_
  subst he
  exact ⟨_, rfl, _, _, _, [], _, [], hW', trodAll_mk1 (shut_bool Try.underlying4 _), (trodAll_cons_mk (Below.trod laidOut (by kernel_rfl) (of_decide_eq_true (by kernel_rfl)) k0 bel lt0) trodAll_mk0), rfl, bel.frame _, fun h => by cases h⟩

theorem over : Rows.fnCountedRow.holds Try.pinned (OpenSpec.ofChange Rows.fnCountedSpec) :=
  OpenClaim.holds_of_wide 6 Try.f6 rfl rfl rfl rfl rfl rfl rfl ⟨rfl, rfl, rfl, rfl, rfl⟩ rfl rfl rfl rfl rfl (by kernel_rfl) Try.func6 (by kernel_rfl)
    (of_decide_eq_true (by kernel_rfl)) (by unfold Func.isWrapper; first | (rw [if_pos (by decide +kernel)]; kernel_rfl) | (rw [if_neg (by decide +kernel)]; exact ⟨rfl, rfl⟩))
    (fun os started H enc _ => lifted os started H enc)

theorem proved : Rows.FnCountedSaid := over
#print axioms proved
end fnCounted


end Go.Proofs.Ythffgbhphjkdeaa
