/-
  PROVED: for every list of bytes the law FnFlow returns true. No condition.
-/
import Derived.Test.YthffgbhphjkdeaaMGg
import Derived.Test.YthffgbhphjkdeaaRows
import Derived.ProofKit
import Derived.OpenShut
import Derived.ShutString
import Derived.ChangeOld
set_option linter.unusedVariables false
set_option linter.unusedSimpArgs false
namespace Go.Proofs.Ythffgbhphjkdeaa
open Go.RowKit
set_option linter.unusedVariables false
set_option linter.unusedSimpArgs false

theorem intO_addr {l : List Int} {q : SlP} {w : World} (h : (ownRes icell 3 1 l q).says w) (h0 : 0 < l.length) : ∃ g, q.a = some ⟨g, 0, none⟩ := by
  rcases h.2 with ⟨_, hn⟩ | ⟨g, cap, cur, hv, _⟩
  · omega
  · injection hv with ha _ _
    exact ⟨g, ha⟩
theorem intO_cell {lo e c g i : Nat} {l : List Int} {w : World} {y : Int} (h : w.ownsRow lo e 1 (.slice (some ⟨g, 0, none⟩) l.length c) l.length (l.map icell).flatten) (hi : l[i]? = some y) : w.cell? ⟨g, 0 + i, none⟩ = some (.int .i64 y) := by
  have h1 := flat_get (cells := icell) (sz := 1) (fun _ => rfl) (j := 0) (v := .int .i64 y) hi rfl
  rw [Nat.mul_one, Nat.add_zero] at h1
  rw [Nat.zero_add, h.cellAt i (by rw [Nat.mul_one]; exact (List.getElem?_eq_some_iff.1 hi).1), h1]
theorem intO_in {l : List Int} {q : SlP} {W : World} {R : Rg W} {L : List Blk} {O : List Own} {E : List Res} {w : World} (h : Loc W R L O E w) (hm : ownRes icell 3 1 l q ∈ E) : IntSlice (fun k => q.lo ≤ k) w q.a l := own_in h hm (fun _ => rfl) (by decide)
theorem kidO_addr {base : Nat} {w : World} {l : List PNode} {a : Option Addr} {c k : Nat} {x : PNode} (h : Owns base w (treeO l a c)) (hx : l[k]? = some x) (h0 : 0 < x.1.kids.length) : ∃ g, x.2.ka = some ⟨g, 0, none⟩ := by
  have h2 := h.row _ (List.mem_cons_of_mem _ (partsO_mem (List.mem_of_getElem? hx)).1)
  simp only [kidsO] at h2
  rcases h2.2 with ⟨_, hn⟩ | ⟨g, cap, cur, hv, _⟩
  · omega
  · injection hv with ha _ _
    exact ⟨g, ha⟩
theorem same_ok (U : List Int) (hU : U.length ≤ 30000) (q1 q2 : SlP) (w : World) (h : IntSlice (fun k => q1.lo ≤ k) w q1.a U) (h' : IntSlice (fun k => q2.lo ≤ k) w q2.a U) :
    Calls Try.prog 41 #[.slice q1.a U.length q1.c, .slice q2.a U.length q2.c] w (fun e w' => e = .returned (.bool true) ∧ Mod (fun _ => False) w w') := by
  have := lsameInts_any U U q1.a q2.a q1.c q2.c (fun k => q1.lo ≤ k) (fun k => q2.lo ≤ k) w (by omega) (by omega) h h'
  rwa [decide_eq_true rfl] at this
structure Q4 where
  q1 : SlP
  q2 : SlP
  q3 : SlP
  q4 : SlP
/-- The hidden among the children. -/
def hidTo (l : List Node) (xs : List Int) : List Int := xs.filter fun k => (nodeAt l k).style.hidden
theorem hid_next {l : List Node} {xs : List Int} {j : Nat} {y : Int} (h : xs[j]? = some y) : (hidTo l (xs.take (j + 1))).length = (hidTo l (xs.take j)).length + if (nodeAt l y).style.hidden then 1 else 0 := by
  unfold hidTo
  rw [List.take_add_one, h, List.filter_append, List.length_append]
  cases hh : (nodeAt l y).style.hidden <;> simp [hh]
theorem rowP_hid (x : PNode) : (rowP x)[9]? = some (.bool x.1.style.hidden) := by
  obtain ⟨⟨up, kids, st, me, ru⟩, p⟩ := x
  rfl
theorem rowP_ord (x : PNode) : (rowP x)[10]? = some (.int .i64 x.1.style.order) := by
  obtain ⟨⟨up, kids, st, me, ru⟩, p⟩ := x
  rfl
set_option maxRecDepth 100000 in
set_option maxHeartbeats 16000000 in
theorem fnFlow_walk (w : World) (a : Option Addr) (len cap : Nat) (hl0 : len ≤ 9223372036854775807) (hy : Bytes w.heap.size w a len) :
    Calls Try.prog 7 #[.slice a len cap] w fun e w' => e = .returned (.bool true) ∧ Mod (fun _ => False) w w' := by
  have hm : len ≤ maxLen := by unfold maxLen; exact hl0
  refine calls_sx Try.func7 rfl rfl (fun a h1 h2 h3 => ((Fr.nil h1 h2).arg (h3 0 _ rfl))) ?_
  by_cases hb : 1048576 < len
  · repeat (first | refine qan ?_ | refine qaj ?_ | refine qaf ?_ | refine qad ?_ | refine qaq rfl ?_ | (refine qat ?_; (refine qac (qap rfl (fun w hl => bigT a cap hm hb _)) rfl ?_ ?_ ?_); rfl; rfl) | (refine qao ?_; (refine qac (qai rfl) rfl ?_ ?_ ?_); rfl; rfl) | (refine qal ?_; (refine qac (qag rfl) rfl ?_ ?_ ?_); rfl; rfl) | refine qaA ?_ | refine qax ?_)
    refine qaz rfl rfl (fun w' hl => ⟨rfl, hl.mod⟩)
  have hlen : len ≤ 1048576 := by omega
  repeat (first | refine qan ?_ | refine qaj ?_ | refine qaf ?_ | refine qad ?_ | refine qaC ?_ | refine qas rfl ?_ | (refine qat ?_; (refine qac (qap rfl (fun w hl => bigF a cap hm hb _)) rfl ?_ ?_ ?_); rfl; rfl) | (refine qao ?_; (refine qac (qai rfl) rfl ?_ ?_ ?_); rfl; rfl) | (refine qal ?_; (refine qac (qag rfl) rfl ?_ ?_ ?_); rfl; rfl))
  refine qat ?_
  refine SXl.callO rfl rfl rfl (fun w' hl => drawFlowKids_o a len cap w' hlen (bytes_loc hy (fun _ _ f => f) hl)) (fun qn hq => ?_)
  obtain ⟨⟨ps, qa, qc⟩, n⟩ := qn
  obtain ⟨hd, hn1, hn2⟩ := hq
  simp only at hd hn1 hn2
  have hd1 := hd.pos
  have hd2 := hd.len
  have hbl := bare_len ps
  rw [hbl] at hd1 hd2
  refine SXl.know (fun w hl => tree_addr (l := ps) (a := qa) (c := qc) (Owns.left hl.owns) (by omega)) (fun ⟨gt, hgt⟩ => ?_)
  subst hgt
  repeat (first | refine qan ?_ | refine qaj ?_ | refine qaf ?_ | refine qad ?_ | (refine qau ?_; (refine qac (qam 0 rfl rfl rfl) rfl ?_ ?_ ?_); rfl; rfl) | (refine qao ?_; (refine qac (qai rfl) rfl ?_ ?_ ?_); rfl; rfl) | (refine qal ?_; (refine qac (qag rfl) rfl ?_ ?_ ?_); rfl; rfl) | (refine l_extract ?_; (refine qac (OpW.extract rfl rfl) rfl ?_ ?_ ?_); rfl; rfl) | (refine qaR ?_; refine SXl.alloc ?_ ?_ (fun g => ?_); rfl; rfl) | (refine qay ?_; first | ((first | refine qaa 0 ?_ rfl rfl rfl rfl rfl rfl rfl ?_ | refine qaa 1 ?_ rfl rfl rfl rfl rfl rfl rfl ?_ | refine qaa 2 ?_ rfl rfl rfl rfl rfl rfl rfl ?_); rfl; simp only [List.set_cons_zero, List.set_cons_succ]) | ((first | refine qab 0 ?_ rfl rfl rfl rfl rfl rfl rfl ?_ | refine qab 1 ?_ rfl rfl rfl rfl rfl rfl rfl ?_ | refine qab 2 ?_ rfl rfl rfl rfl rfl rfl rfl ?_); rfl; simp only [over, List.set_cons_zero, List.set_cons_succ])))
  revert g; intro g3
  change SXl _ _ _ _ _ _ (treeO ps (some ⟨gt, 0, none⟩) qc ++ []) _ _ _ _
  rw [List.append_nil]
  have hlb : (bare ps).length ≤ 1048576 := by omega
  have hA := fun w' (ho : Owns w.heap.size w' (treeO ps (some ⟨gt, 0, none⟩) qc)) => flowKidsW_any (bare ps) n false (some ⟨gt, 0, none⟩) qc _ w' hlb hd.fit (tree_in ho)
  have hA2 := fun w' (ho : Owns w.heap.size w' (treeO ps (some ⟨gt, 0, none⟩) qc)) => sflowKidsW_any (bare ps) n false (some ⟨gt, 0, none⟩) qc _ w' hlb hd.fit (tree_in ho)
  have hB := fun w' (ho : Owns w.heap.size w' (treeO ps (some ⟨gt, 0, none⟩) qc)) => apartKidsW_any (bare ps) n false (some ⟨gt, 0, none⟩) qc _ w' hlb hd.fit (tree_in ho)
  have hB2 := fun w' (ho : Owns w.heap.size w' (treeO ps (some ⟨gt, 0, none⟩) qc)) => sapartKidsW_any (bare ps) n false (some ⟨gt, 0, none⟩) qc _ w' hlb hd.fit (tree_in ho)
  have hU := fun w' (ho : Owns w.heap.size w' (treeO ps (some ⟨gt, 0, none⟩) qc)) => allUnderW_any (bare ps) n false (some ⟨gt, 0, none⟩) qc _ w' hlb hd.fit (tree_in ho)
  have hU2 := fun w' (ho : Owns w.heap.size w' (treeO ps (some ⟨gt, 0, none⟩) qc)) => sallUnderW_any (bare ps) n false (some ⟨gt, 0, none⟩) qc _ w' hlb hd.fit (tree_in ho)
  have hG := fun w' (ho : Owns w.heap.size w' (treeO ps (some ⟨gt, 0, none⟩) qc)) => isGone_any (bare ps) n false (some ⟨gt, 0, none⟩) qc _ w' hlb hd.fit (tree_in ho)
  have hG2 := fun w' (ho : Owns w.heap.size w' (treeO ps (some ⟨gt, 0, none⟩) qc)) => sisGone_any (bare ps) n false (some ⟨gt, 0, none⟩) qc _ w' hlb hd.fit (tree_in ho)
  have hR := fun w' (ho : Owns w.heap.size w' (treeO ps (some ⟨gt, 0, none⟩) qc)) => rootOf_any (bare ps) n false (some ⟨gt, 0, none⟩) qc _ w' hlb hd.fit (tree_in ho)
  have hR2 := fun w' (ho : Owns w.heap.size w' (treeO ps (some ⟨gt, 0, none⟩) qc)) => srootOf_any (bare ps) n false (some ⟨gt, 0, none⟩) qc _ w' hlb hd.fit (tree_in ho)
  have hT := fun w' (ho : Owns w.heap.size w' (treeO ps (some ⟨gt, 0, none⟩) qc)) => streeOk_any (bare ps) false (some ⟨gt, 0, none⟩) qc _ w' hlb hd.fit (tree_in ho)
  rw [hbl] at hA hA2 hB hB2 hU hU2 hG hG2 hR hR2 hT
  have hFl : (flowW (bare ps) n).length ≤ 12 := by
    unfold flowW
    split
    · rename_i h
      rw [Bool.and_eq_true] at h
      rw [sorted_len]
      exact Nat.le_trans (List.length_filter_le _ _) (kids_in h.1 h.2).1
    · simp
  have hAl : (apartW (bare ps) n).length ≤ 12 := by
    unfold apartW
    split
    · rename_i h
      rw [Bool.and_eq_true] at h
      exact Nat.le_trans (List.length_filter_le _ _) (kids_in h.1 h.2).1
    · simp
  have hUl : (allW (bare ps) n).length ≤ 30000 := by
    unfold allW
    split
    · rename_i h
      rw [Bool.and_eq_true] at h
      obtain ⟨k, rfl, hk⟩ := inB_node h.2
      exact allU_len h.1 (List.getElem?_eq_getElem hk)
    · simp
  generalize hFe : flowW (bare ps) n = F at *
  generalize hAe : apartW (bare ps) n = A at *
  generalize hUe : allW (bare ps) n = U at *
  generalize hGe : goneW (bare ps) n = gone at *
  generalize hRe : rootW (bare ps) n = root at *
  refine qat ?_
  refine SXl.calln1 (v := fun q => .slice q.a F.length q.c) (F1 := ownRes icell 3 1 F) rfl rfl rfl (fun w hl => (hA w hl.owns).mono fun _ _ h => new_own h) (fun qf => ?_)
  repeat (first | refine qan ?_ | refine qaj ?_ | refine qaf ?_ | refine qad ?_ | (refine qau ?_; (refine qac (qam 0 rfl rfl rfl) rfl ?_ ?_ ?_); rfl; rfl) | (refine qao ?_; (refine qac (qai rfl) rfl ?_ ?_ ?_); rfl; rfl) | (refine qal ?_; (refine qac (qag rfl) rfl ?_ ?_ ?_); rfl; rfl))
  refine qat ?_
  refine SXl.calln1 (v := fun q => .slice q.a A.length q.c) (F1 := ownRes icell 3 1 A) rfl rfl rfl (fun w hl => (hB w hl.owns).mono fun _ _ h => new_own h) (fun qb => ?_)
  repeat (first | refine qan ?_ | refine qaj ?_ | refine qad ?_ | (refine qal ?_; (refine qac (qag rfl) rfl ?_ ?_ ?_); rfl; rfl))
  refine SX.drawnG (ζ := Q4) 42 (fun _ _ => [⟨g3, [.slice (some ⟨gt, 0, none⟩) ps.length qc], 37⟩]) (fun _ _ => treeO ps (some ⟨gt, 0, none⟩) qc)
    (fun d p => (bif d 20 then [ownRes icell 3 1 U p.q4] else []) ++ ((bif d 17 then [ownRes icell 3 1 U p.q3] else []) ++ ((bif d 10 then [ownRes icell 3 1 A p.q2] else []) ++ ((bif d 3 then [ownRes icell 3 1 F p.q1] else []) ++ [ownRes icell 3 1 A qb, ownRes icell 3 1 F qf]))))
    [(3, fun p v => v = .slice p.q1.a F.length p.q1.c), (10, fun p v => v = .slice p.q2.a A.length p.q2.c), (17, fun p v => v = .slice p.q3.a U.length p.q3.c), (20, fun p v => v = .slice p.q4.a U.length p.q4.c)] ⟨⟨none, 0, 0⟩, ⟨none, 0, 0⟩, ⟨none, 0, 0⟩, ⟨none, 0, 0⟩⟩ (by kernel_rfl) (by kernel_rfl) (by kernel_rfl) ⟨rfl, rfl, rfl⟩ ?_
  repeat (first | (refine SXg.v0 (fun dn x p ha hK => (qam 0 rfl rfl rfl)) rfl (fun _ => rfl) rfl (fun _ _ => ⟨rfl, rfl, rfl⟩) rfl ?_) | (refine SXg.v0 (fun dn x p ha hK => (qai rfl)) rfl (fun _ => rfl) rfl (fun _ _ => ⟨rfl, rfl, rfl⟩) rfl ?_))
  refine SXg.l rfl (fun _ => rfl) rfl (fun dn x p ha hk => ?_) ?_
  · have d10 : dn 10 = false := ha.later 10 (by kernel_rfl)
    have u10 : upd dn 3 10 = false := d10
    have d17 : dn 17 = false := ha.later 17 (by kernel_rfl)
    have u17 : upd dn 3 17 = false := d17
    have d20 : dn 20 = false := ha.later 20 (by kernel_rfl)
    have u20 : upd dn 3 20 = false := d20
    have d3 : dn 3 = false := ha.not
    have u3 : upd dn 3 3 = true := rfl
    simp only [d10, d17, d20, d3, cond_true, cond_false, List.append_nil, List.nil_append]
    refine SXl.calln1 (v := fun q => .slice q.a F.length q.c) (F1 := ownRes icell 3 1 F) rfl rfl rfl (fun w hl => (hA2 w hl.owns).mono fun _ _ h => new_own h) (fun q => ?_)
    refine qaj (SQ.g { p with q1 := q } _ rfl (fun w hl => ?_) ⟨fun _ => rfl, hk.2.1, hk.2.2.1, hk.2.2.2.1, trivial⟩)
    simp only [u10, u17, u20, u3, cond_true, cond_false, List.append_nil, List.nil_append]
    exact hl
  refine SXg.v0 (v := .bool true) (fun dn x' p ha hk => ?_) rfl (fun _ => rfl) rfl (fun _ _ => ⟨rfl, rfl, rfl⟩) rfl ?_
  · have d3 := ha.done 3 (by kernel_rfl)
    have x3 : x' 3 = .slice p.q1.a F.length p.q1.c := hk.1 d3
    simp only [x3]
    exact qap rfl (fun w' hl => same_ok F (by omega) qf p.q1 w' (intO_in hl (List.mem_append_right _ (List.mem_append_right _ (List.mem_append_right _ (List.mem_append_right _ (.tail _ (.head _))))))) (intO_in hl (List.mem_append_right _ (List.mem_append_right _ (List.mem_append_right _ (List.mem_append_left _ (by rw [d3]; exact .head _)))))))
  repeat (first | (refine SXg.v0 (fun dn x p ha hK => (qam 0 rfl rfl rfl)) rfl (fun _ => rfl) rfl (fun _ _ => ⟨rfl, rfl, rfl⟩) rfl ?_) | (refine SXg.v0 (fun dn x p ha hK => (qai rfl)) rfl (fun _ => rfl) rfl (fun _ _ => ⟨rfl, rfl, rfl⟩) rfl ?_) | (refine SXg.v0 (fun dn x p ha hK => (OpW.not rfl)) rfl (fun _ => rfl) rfl (fun _ _ => ⟨rfl, rfl, rfl⟩) rfl ?_))
  refine SXg.l rfl (fun _ => rfl) rfl (fun dn x p ha hk => ?_) ?_
  · have d3 : dn 3 = true := ha.done 3 (by kernel_rfl)
    have u3 : upd dn 10 3 = true := d3
    have d17 : dn 17 = false := ha.later 17 (by kernel_rfl)
    have u17 : upd dn 10 17 = false := d17
    have d20 : dn 20 = false := ha.later 20 (by kernel_rfl)
    have u20 : upd dn 10 20 = false := d20
    have d10 : dn 10 = false := ha.not
    have u10 : upd dn 10 10 = true := rfl
    simp only [d3, d17, d20, d10, cond_true, cond_false, List.append_nil, List.nil_append]
    refine SXl.calln1 (v := fun q => .slice q.a A.length q.c) (F1 := ownRes icell 3 1 A) rfl rfl rfl (fun w hl => (hB2 w hl.owns).mono fun _ _ h => new_own h) (fun q => ?_)
    refine qaj (SQ.g { p with q2 := q } _ rfl (fun w hl => ?_) ⟨hk.1, fun _ => rfl, hk.2.2.1, hk.2.2.2.1, trivial⟩)
    simp only [u3, u17, u20, u10, cond_true, cond_false, List.append_nil, List.nil_append]
    exact hl
  refine SXg.v0 (v := .bool true) (fun dn x' p ha hk => ?_) rfl (fun _ => rfl) rfl (fun _ _ => ⟨rfl, rfl, rfl⟩) rfl ?_
  · have d10 := ha.done 10 (by kernel_rfl)
    have x10 : x' 10 = .slice p.q2.a A.length p.q2.c := hk.2.1 d10
    simp only [x10]
    exact qap rfl (fun w' hl => same_ok A (by omega) qb p.q2 w' (intO_in hl (List.mem_append_right _ (List.mem_append_right _ (List.mem_append_right _ (List.mem_append_right _ (.head _)))))) (intO_in hl (List.mem_append_right _ (List.mem_append_right _ (List.mem_append_left _ (by rw [d10]; exact .head _))))))
  repeat (first | (refine SXg.v0 (fun dn x p ha hK => (qam 0 rfl rfl rfl)) rfl (fun _ => rfl) rfl (fun _ _ => ⟨rfl, rfl, rfl⟩) rfl ?_) | (refine SXg.v0 (fun dn x p ha hK => (qai rfl)) rfl (fun _ => rfl) rfl (fun _ _ => ⟨rfl, rfl, rfl⟩) rfl ?_) | (refine SXg.v0 (fun dn x p ha hK => (OpW.not rfl)) rfl (fun _ => rfl) rfl (fun _ _ => ⟨rfl, rfl, rfl⟩) rfl ?_) | (refine SXg.v0 (fun dn x p ha hK => (qav rfl rfl rfl)) rfl (fun _ => rfl) rfl (fun _ _ => ⟨rfl, rfl, rfl⟩) rfl ?_))
  refine SXg.l rfl (fun _ => rfl) rfl (fun dn x p ha hk => ?_) ?_
  · have d3 : dn 3 = true := ha.done 3 (by kernel_rfl)
    have u3 : upd dn 17 3 = true := d3
    have d10 : dn 10 = true := ha.done 10 (by kernel_rfl)
    have u10 : upd dn 17 10 = true := d10
    have d20 : dn 20 = false := ha.later 20 (by kernel_rfl)
    have u20 : upd dn 17 20 = false := d20
    have d17 : dn 17 = false := ha.not
    have u17 : upd dn 17 17 = true := rfl
    simp only [d3, d10, d20, d17, cond_true, cond_false, List.append_nil, List.nil_append]
    refine SXl.calln1 (v := fun q => .slice q.a U.length q.c) (F1 := ownRes icell 3 1 U) rfl rfl rfl (fun w hl => (hU w hl.owns).mono fun _ _ h => new_own h) (fun q => ?_)
    refine qaj (SQ.g { p with q3 := q } _ rfl (fun w hl => ?_) ⟨hk.1, hk.2.1, fun _ => rfl, hk.2.2.2.1, trivial⟩)
    simp only [u3, u10, u20, u17, cond_true, cond_false, List.append_nil, List.nil_append]
    exact hl
  repeat (first | (refine SXg.v0 (fun dn x p ha hK => (qam 0 rfl rfl rfl)) rfl (fun _ => rfl) rfl (fun _ _ => ⟨rfl, rfl, rfl⟩) rfl ?_) | (refine SXg.v0 (fun dn x p ha hK => (qai rfl)) rfl (fun _ => rfl) rfl (fun _ _ => ⟨rfl, rfl, rfl⟩) rfl ?_))
  refine SXg.l rfl (fun _ => rfl) rfl (fun dn x p ha hk => ?_) ?_
  · have d3 : dn 3 = true := ha.done 3 (by kernel_rfl)
    have u3 : upd dn 20 3 = true := d3
    have d10 : dn 10 = true := ha.done 10 (by kernel_rfl)
    have u10 : upd dn 20 10 = true := d10
    have d17 : dn 17 = true := ha.done 17 (by kernel_rfl)
    have u17 : upd dn 20 17 = true := d17
    have d20 : dn 20 = false := ha.not
    have u20 : upd dn 20 20 = true := rfl
    simp only [d3, d10, d17, d20, cond_true, cond_false, List.append_nil, List.nil_append]
    refine SXl.calln1 (v := fun q => .slice q.a U.length q.c) (F1 := ownRes icell 3 1 U) rfl rfl rfl (fun w hl => (hU2 w hl.owns).mono fun _ _ h => new_own h) (fun q => ?_)
    refine qaj (SQ.g { p with q4 := q } _ rfl (fun w hl => ?_) ⟨hk.1, hk.2.1, hk.2.2.1, fun _ => rfl, trivial⟩)
    simp only [u3, u10, u17, u20, cond_true, cond_false, List.append_nil, List.nil_append]
    exact hl
  refine SXg.v0 (v := .bool true) (fun dn x' p ha hk => ?_) rfl (fun _ => rfl) rfl (fun _ _ => ⟨rfl, rfl, rfl⟩) rfl ?_
  · have d17 := ha.done 17 (by kernel_rfl)
    have d20 := ha.done 20 (by kernel_rfl)
    have x17 : x' 17 = .slice p.q3.a U.length p.q3.c := hk.2.2.1 d17
    have x20 : x' 20 = .slice p.q4.a U.length p.q4.c := hk.2.2.2.1 d20
    simp only [x17, x20]
    exact qap rfl (fun w' hl => same_ok U hUl p.q3 p.q4 w' (intO_in hl (List.mem_append_right _ (List.mem_append_left _ (by rw [d17]; exact .head _)))) (intO_in hl (List.mem_append_left _ (by rw [d20]; exact .head _))))
  repeat (first | (rw [bne_self_eq_false]) | (refine SXg.v0 (fun dn x p ha hK => (qap rfl (fun w hl => hG _ hl.owns))) rfl (fun _ => rfl) rfl (fun _ _ => ⟨rfl, rfl, rfl⟩) rfl ?_) | (refine SXg.v0 (fun dn x p ha hK => (qap rfl (fun w hl => hG2 _ hl.owns))) rfl (fun _ => rfl) rfl (fun _ _ => ⟨rfl, rfl, rfl⟩) rfl ?_) | (refine SXg.v0 (fun dn x p ha hK => (qap rfl (fun w hl => hR _ hl.owns))) rfl (fun _ => rfl) rfl (fun _ _ => ⟨rfl, rfl, rfl⟩) rfl ?_) | (refine SXg.v0 (fun dn x p ha hK => (qap rfl (fun w hl => hR2 _ hl.owns))) rfl (fun _ => rfl) rfl (fun _ _ => ⟨rfl, rfl, rfl⟩) rfl ?_) | (refine SXg.v0 (fun dn x p ha hK => (qam 0 rfl rfl rfl)) rfl (fun _ => rfl) rfl (fun _ _ => ⟨rfl, rfl, rfl⟩) rfl ?_) | (refine SXg.v0 (fun dn x p ha hK => (qai rfl)) rfl (fun _ => rfl) rfl (fun _ _ => ⟨rfl, rfl, rfl⟩) rfl ?_) | (refine SXg.v0 (fun dn x p ha hK => (OpW.neqF rfl rfl (by omega))) rfl (fun _ => rfl) rfl (fun _ _ => ⟨rfl, rfl, rfl⟩) rfl ?_) | (refine SXg.v0 (fun dn x p ha hK => (OpW.neqb rfl rfl)) rfl (fun _ => rfl) rfl (fun _ _ => ⟨rfl, rfl, rfl⟩) rfl ?_) | (refine SXg.v0 (fun dn x p ha hK => (OpW.not rfl)) rfl (fun _ => rfl) rfl (fun _ _ => ⟨rfl, rfl, rfl⟩) rfl ?_) | (refine SXg.v0 (fun dn x p ha hK => (qav rfl rfl rfl)) rfl (fun _ => rfl) rfl (fun _ _ => ⟨rfl, rfl, rfl⟩) rfl ?_))
  refine SXg.nilW (fun xq pq hkq => ?_)
  change SQ _ _ _ [⟨g3, [.slice (some ⟨gt, 0, none⟩) ps.length qc], 37⟩] (treeO ps (some ⟨gt, 0, none⟩) qc) [ownRes icell 3 1 U pq.q4, ownRes icell 3 1 U pq.q3, ownRes icell 3 1 A pq.q2, ownRes icell 3 1 F pq.q1, ownRes icell 3 1 A qb, ownRes icell 3 1 F qf] _ _ _
  cases hv : treeOk (bare ps)
  · rw [hv] at hT
    have e1 : F.length = 0 := by rw [← hFe]; unfold flowW; rw [hv]; rfl
    have e2 : A.length = 0 := by rw [← hAe]; unfold apartW; rw [hv]; rfl
    have e3 : gone = true := by rw [← hGe]; unfold goneW; rw [hv]; rfl
    rw [e3] at hG
    repeat (first | refine qan ?_ | refine qaj ?_ | refine qaf ?_ | refine qad ?_ | refine qaC ?_ | refine qaq rfl ?_ | refine qas rfl ?_ | (refine qaS rfl rfl rfl ?_) | (refine qat ?_; (first | refine qac (qap rfl (fun w hl => hT _ hl.owns)) rfl ?_ ?_ ?_ | refine qac (qap rfl (fun w hl => hG _ hl.owns)) rfl ?_ ?_ ?_); rfl; rfl) | (refine qau ?_; (refine qac (qam 0 rfl rfl rfl) rfl ?_ ?_ ?_); rfl; rfl) | (refine qao ?_; (refine qac (qai rfl) rfl ?_ ?_ ?_); rfl; rfl) | (refine qal ?_; (refine qac (qag rfl) rfl ?_ ?_ ?_); rfl; rfl) | (refine l_len ?_; (refine qac (OpW.len rfl) rfl ?_ ?_ ?_); rfl; rfl) | (refine l_eql ?_; (refine qac (qaQ rfl rfl (by omega)) rfl ?_ ?_ ?_); rfl; rfl) | (refine qaT ?_; (refine qac (OpW.not rfl) rfl ?_ ?_ ?_); rfl; rfl) | (refine qaE ?_; (refine qac (qav rfl rfl rfl) rfl ?_ ?_ ?_); rfl; rfl) | refine qaA ?_ | refine qax ?_)
    refine qaz rfl rfl (fun w' hl => ⟨rfl, hl.mod⟩)
  rw [hv] at hT
  cases hn : inB n 1 (bare ps).length
  · have e1 : F.length = 0 := by rw [← hFe]; unfold flowW; rw [hn, Bool.and_false]; rfl
    have e2 : A.length = 0 := by rw [← hAe]; unfold apartW; rw [hn, Bool.and_false]; rfl
    have e3 : gone = true := by rw [← hGe]; unfold goneW; rw [hn, Bool.and_false]; rfl
    rw [e3] at hG
    by_cases hlt : n < 1
    · repeat (first | refine qan ?_ | refine qaj ?_ | refine qaf ?_ | refine qad ?_ | refine qaC ?_ | refine qaq rfl ?_ | refine qas rfl ?_ | (refine qaS rfl rfl rfl ?_) | (refine qat ?_; (first | refine qac (qap rfl (fun w hl => hT _ hl.owns)) rfl ?_ ?_ ?_ | refine qac (qap rfl (fun w hl => hG _ hl.owns)) rfl ?_ ?_ ?_); rfl; rfl) | (refine qau ?_; (refine qac (qam 0 rfl rfl rfl) rfl ?_ ?_ ?_); rfl; rfl) | (refine qao ?_; (refine qac (qai rfl) rfl ?_ ?_ ?_); rfl; rfl) | (refine qal ?_; (refine qac (qag rfl) rfl ?_ ?_ ?_); rfl; rfl) | (refine l_len ?_; (refine qac (OpW.len rfl) rfl ?_ ?_ ?_); rfl; rfl) | (refine l_eql ?_; (refine qac (qaQ rfl rfl (by omega)) rfl ?_ ?_ ?_); rfl; rfl) | (refine l_lss ?_; (refine qac (OpW.lssT rfl rfl (by omega)) rfl ?_ ?_ ?_); rfl; rfl) | (refine qaT ?_; (refine qac (OpW.not rfl) rfl ?_ ?_ ?_); rfl; rfl) | (refine qaE ?_; (refine qac (qav rfl rfl rfl) rfl ?_ ?_ ?_); rfl; rfl) | refine qaA ?_ | refine qax ?_)
      refine qaz rfl rfl (fun w' hl => ⟨rfl, hl.mod⟩)
    · have hgt : (ps.length : Int) < n := by
        rcases Int.lt_or_le ps.length n with h | h
        · exact h
        · rw [inB_true (by omega) (by omega)] at hn
          cases hn
      repeat (first | refine qan ?_ | refine qaj ?_ | refine qaf ?_ | refine qad ?_ | refine qaC ?_ | refine qaq rfl ?_ | refine qas rfl ?_ | (refine qat ?_; (first | refine qac (qap rfl (fun w hl => hT _ hl.owns)) rfl ?_ ?_ ?_ | refine qac (qap rfl (fun w hl => hG _ hl.owns)) rfl ?_ ?_ ?_); rfl; rfl) | (refine qau ?_; (first | refine qac (qaw 0 rfl rfl rfl) rfl ?_ ?_ ?_ | refine qac (qam 0 rfl rfl rfl) rfl ?_ ?_ ?_); rfl; rfl) | (refine qak ?_; (refine qac (qae rfl) rfl ?_ ?_ ?_); rfl; rfl) | (refine qao ?_; (refine qac (qai rfl) rfl ?_ ?_ ?_); rfl; rfl) | (refine qal ?_; (refine qac (qag rfl) rfl ?_ ?_ ?_); rfl; rfl) | (refine l_len ?_; (refine qac (OpW.len rfl) rfl ?_ ?_ ?_); rfl; rfl) | (refine l_eql ?_; (refine qac (qaQ rfl rfl (by omega)) rfl ?_ ?_ ?_); rfl; rfl) | (refine l_gtr ?_; (refine qac (OpW.gtrT rfl rfl (by omega)) rfl ?_ ?_ ?_); rfl; rfl) | (refine l_lss ?_; (refine qac (OpW.lssF rfl rfl (by omega)) rfl ?_ ?_ ?_); rfl; rfl) | (refine qaT ?_; (refine qac (OpW.not rfl) rfl ?_ ?_ ?_); rfl; rfl) | (refine qaE ?_; (refine qac (qav rfl rfl rfl) rfl ?_ ?_ ?_); rfl; rfl) | refine qaA ?_ | refine qax ?_)
      refine qaz rfl rfl (fun w' hl => ⟨rfl, hl.mod⟩)
  obtain ⟨k, x0, rfl, hk, hx0, hnx⟩ := node_get hn
  obtain ⟨nd, hx⟩ : ∃ nd, ps[k]? = some nd := ⟨_, List.getElem?_eq_getElem (by omega)⟩
  obtain rfl : nd.1 = x0 := Option.some.inj ((bare_get hx).symm.trans hx0)
  have hkl := ok_kids_len hv hx0
  obtain ⟨-, hkv⟩ := kids_in hv hn
  have hFs : F = sorted (bare ps) (nd.1.kids.filter (inFlow (bare ps))) := by rw [← hFe]; unfold flowW; rw [hv, hn, hnx]; rfl
  have hAs : A = nd.1.kids.filter (standsApart (bare ps)) := by rw [← hAe]; unfold apartW; rw [hv, hn, hnx]; rfl
  have hUs : U = allU (bare ps) ((k + 1 : Nat) : Int) := by rw [← hUe]; unfold allW; rw [hv, hn]; rfl
  have hRs : 0 < root := by rw [← hRe]; unfold rootW; rw [hv, hn]; exact rootF_pos hv _ _ hn
  rw [hnx] at hkv
  have hFm : ∀ u ∈ F, inB u 1 (bare ps).length = true := fun u hu => by rw [hFs] at hu; exact hkv u (List.mem_filter.1 (sorted_mem hu)).1
  have hFr : Ranked (bare ps) F := by rw [hFs]; exact sorted_ranked _
  have h3 := three_ways (l := bare ps) nd.1.kids
  rw [← hAs, ← sorted_len (l := bare ps) (nd.1.kids.filter (inFlow (bare ps))), ← hFs] at h3
  replace h3 : F.length + A.length + (hidTo (bare ps) nd.1.kids).length = nd.1.kids.length := h3
  have hU0 : U[0]? = some ((k + 1 : Nat) : Int) := by rw [hUs, allU_eq hv hx0]; rfl
  have hU1 : 0 < U.length := (List.getElem?_eq_some_iff.1 hU0).1
  have hcell : ∀ w', Owns w.heap.size w' (treeO ps (some ⟨gt, 0, none⟩) qc) → w'.cell? ⟨gt, 0 + k * 64 + 1, none⟩ = some (.slice nd.2.ka nd.1.kids.length nd.2.kc) := fun w' ho =>
    nodes_cell ho hx (nodeRow_1 _ _ _ _ _ _ _ _ _)
  have hpos : ∀ u : Int, inB u 1 (bare ps).length = true → ∃ ku : Nat, u = ((ku + 1 : Nat) : Int) ∧ ku < ps.length := fun u hu => by
    obtain ⟨ku, z, rfl, hku, hz, hnz⟩ := node_get hu
    exact ⟨ku, rfl, by omega⟩
  have hst : ∀ (ku : Nat), ku < ps.length → ∀ w', Owns w.heap.size w' (treeO ps (some ⟨gt, 0, none⟩) qc) → w'.cell? ⟨gt, 0 + ku * 64 + 2 + 7, none⟩ = some (.bool (nodeAt (bare ps) ((ku + 1 : Nat) : Int)).style.hidden) ∧ w'.cell? ⟨gt, 0 + ku * 64 + 2 + 8, none⟩ = some (.int .i64 (nodeAt (bare ps) ((ku + 1 : Nat) : Int)).style.order) := fun ku hku w' ho => by
    have hz := List.getElem?_eq_getElem hku
    generalize ps[ku] = z at hz
    rw [nodeAt_of (bare_get hz)]
    exact ⟨by rw [Nat.add_assoc]; exact nodes_cell ho hz (rowP_hid z), by rw [Nat.add_assoc]; exact nodes_cell ho hz (rowP_ord z)⟩
  repeat (first | refine qan ?_ | refine qaj ?_ | refine qaf ?_ | refine qad ?_ | refine SX.block ?_ | refine qaC ?_ | refine qas rfl ?_ | (refine qat ?_; (refine qac (qap rfl (fun w hl => hT _ hl.owns)) rfl ?_ ?_ ?_); rfl; rfl) | (refine qau ?_; (first | refine qac (qaw 0 rfl rfl rfl) rfl ?_ ?_ ?_ | refine qac (qam 0 rfl rfl rfl) rfl ?_ ?_ ?_); rfl; rfl) | (refine qak ?_; (refine qac (qae rfl) rfl ?_ ?_ ?_); rfl; rfl) | (refine qao ?_; (refine qac (qai rfl) rfl ?_ ?_ ?_); rfl; rfl) | (refine qal ?_; (refine qac (qag rfl) rfl ?_ ?_ ?_); rfl; rfl) | (refine l_len ?_; (refine qac (OpW.len rfl) rfl ?_ ?_ ?_); rfl; rfl) | (refine l_gtr ?_; (refine qac (OpW.gtrF rfl rfl (by omega)) rfl ?_ ?_ ?_); rfl; rfl) | (refine l_lss ?_; (refine qac (OpW.lssF rfl rfl (by omega)) rfl ?_ ?_ ?_); rfl; rfl) | (refine qaT ?_; (refine qac (OpW.not rfl) rfl ?_ ?_ ?_); rfl; rfl) | (refine qaE ?_; (refine qac (qav rfl rfl rfl) rfl ?_ ?_ ?_); rfl; rfl))
  refine SX.loop3 (fun (j : Nat) (_ _ : Unit) => j ≤ nd.1.kids.length) (fun j _ _ => nd.1.kids.length - j) (fun _ _ _ => [⟨g3, [.slice (some ⟨gt, 0, none⟩) ps.length qc], 37⟩]) (fun _ _ _ => treeO ps (some ⟨gt, 0, none⟩) qc) (fun _ _ _ => [ownRes icell 3 1 U pq.q4, ownRes icell 3 1 U pq.q3, ownRes icell 3 1 A pq.q2, ownRes icell 3 1 F pq.q1, ownRes icell 3 1 A qb, ownRes icell 3 1 F qf]) (fun j _ _ => [(3, .pointer (some ⟨g3, 0, none⟩)), (4, .int .i64 ((k + 1 : Nat) : Int)), (5, .slice qf.a F.length qf.c), (6, .slice qb.a A.length qb.c), (7, .int .i64 (hidTo (bare ps) (nd.1.kids.take j)).length), (8, .int .i64 j)]) 0 () () (Nat.zero_le _) ?_ (fun w hl => hl) ?_
  · (repeat (first | exact subF_nil _ | (refine subF_cons rfl ?_) | (refine subF_consv rfl (by rfl) ?_)))
  rintro j _ _ hj
  have hhl : (hidTo (bare ps) (nd.1.kids.take j)).length ≤ 12 := Nat.le_trans (List.length_filter_le _ _) (by rw [List.length_take]; omega)
  by_cases hjl : j < nd.1.kids.length
  · obtain ⟨y, hyk⟩ : ∃ y, nd.1.kids[j]? = some y := ⟨_, List.getElem?_eq_getElem hjl⟩
    have hyb := hkv y (List.mem_of_getElem? hyk)
    have hnext := hid_next (l := bare ps) hyk
    obtain ⟨ky, rfl, hkyl⟩ := hpos y hyb
    refine SX.know (fun w hl => kidO_addr hl.owns hx (by omega)) (fun ⟨gk, hgk⟩ => ?_)
    have hkc : ∀ w', Owns w.heap.size w' (treeO ps (some ⟨gt, 0, none⟩) qc) → w'.cell? ⟨gk, 0 + j, none⟩ = some (.int .i64 ((ky + 1 : Nat) : Int)) := fun w' ho => by
      have h2 := ho.row _ (List.mem_cons_of_mem _ (partsO_mem (List.mem_of_getElem? hx)).1)
      simp only [kidsO, hgk] at h2
      exact intO_cell h2 hyk
    have hstk := hst ky hkyl
    generalize (nodeAt (bare ps) ((ky + 1 : Nat) : Int)).style.hidden = hid at *
    repeat (first | refine qan ?_ | refine qaj ?_ | refine qaf ?_ | refine qad ?_ | refine SX.block ?_ | refine qaC ?_ | refine qaq rfl ?_ | (refine qau ?_; (first | refine qac (OpW.loadLoc rfl (fun w' hl => hcell w' hl.owns)) rfl ?_ ?_ ?_ | refine qac (qaw 0 rfl rfl rfl) rfl ?_ ?_ ?_); rfl; rfl) | (refine qaM ?_; (refine qac ((qaJ (i := k) (by omega) rfl (congrArg (fun i : Int => some (Value.int .i64 i)) (by omega : ((k + 1 : Nat) : Int) - 1 = (k : Int))))) rfl ?_ ?_ ?_); rfl; rfl) | (refine qak ?_; (refine qac (qae rfl) rfl ?_ ?_ ?_); rfl; rfl) | (refine qao ?_; (refine qac (qai rfl) rfl ?_ ?_ ?_); rfl; rfl) | (refine l_len ?_; (refine qac (OpW.len rfl) rfl ?_ ?_ ?_); rfl; rfl) | (refine l_lss ?_; (refine qac (OpW.lssT rfl rfl (by omega)) rfl ?_ ?_ ?_); rfl; rfl) | (refine l_sub ?_; (refine qac (OpW.subi rfl rfl (by omega) (by omega)) rfl ?_ ?_ ?_); rfl; rfl))
    refine SX.drawnG (ζ := Unit) 17 (fun _ _ => [⟨g3, [.slice (some ⟨gt, 0, none⟩) ps.length qc], 37⟩]) (fun _ _ => treeO ps (some ⟨gt, 0, none⟩) qc) (fun _ _ => [ownRes icell 3 1 U pq.q4, ownRes icell 3 1 U pq.q3, ownRes icell 3 1 A pq.q2, ownRes icell 3 1 F pq.q1, ownRes icell 3 1 A qb, ownRes icell 3 1 F qf]) [] () (by kernel_rfl) (by kernel_rfl) (by kernel_rfl) ⟨rfl, rfl, rfl⟩ ?_
    repeat (first | (refine SXg.v0 (fun dn x p ha hK => (qaw 0 rfl rfl rfl)) rfl (fun _ => rfl) rfl (fun _ _ => ⟨rfl, rfl, rfl⟩) rfl ?_) | (refine SXg.v0 (fun dn x p ha hK => (OpW.loadLoc rfl (fun w' hl => hcell w' hl.owns))) rfl (fun _ => rfl) rfl (fun _ _ => ⟨rfl, rfl, rfl⟩) rfl ?_) | (refine SXg.v0 (fun dn x p ha hK => (OpW.loadLoc rfl (fun w' hl => hkc w' hl.owns))) rfl (fun _ => rfl) rfl (fun _ _ => ⟨rfl, rfl, rfl⟩) rfl ?_) | (refine SXg.v0 (fun dn x p ha hK => (OpW.loadLoc rfl (fun w' hl => (hstk w' hl.owns).1))) rfl (fun _ => rfl) rfl (fun _ _ => ⟨rfl, rfl, rfl⟩) rfl ?_) | (refine SXg.v0 (fun dn x p ha hK => ((qaJ (i := k) (by omega) rfl (congrArg (fun i : Int => some (Value.int .i64 i)) (by omega : ((k + 1 : Nat) : Int) - 1 = (k : Int)))))) rfl (fun _ => rfl) rfl (fun _ _ => ⟨rfl, rfl, rfl⟩) rfl ?_) | (refine SXg.v0 (fun dn x p ha hK => ((qaJ (i := ky) (by omega) rfl (congrArg (fun i : Int => some (Value.int .i64 i)) (by omega : ((ky + 1 : Nat) : Int) - 1 = (ky : Int)))))) rfl (fun _ => rfl) rfl (fun _ _ => ⟨rfl, rfl, rfl⟩) rfl ?_) | (refine SXg.v0 (fun dn x p ha hK => ((qaO (i := j) (by omega) (congrArg (fun q => some (Value.slice q nd.1.kids.length nd.2.kc)) hgk) rfl))) rfl (fun _ => rfl) rfl (fun _ _ => ⟨rfl, rfl, rfl⟩) rfl ?_) | (refine SXg.v0 (fun dn x p ha hK => (qae rfl)) rfl (fun _ => rfl) rfl (fun _ _ => ⟨rfl, rfl, rfl⟩) rfl ?_) | (refine SXg.v0 (fun dn x p ha hK => (qai rfl)) rfl (fun _ => rfl) rfl (fun _ _ => ⟨rfl, rfl, rfl⟩) rfl ?_) | (refine SXg.v0 (fun dn x p ha hK => (OpW.subi rfl rfl (by omega) (by omega))) rfl (fun _ => rfl) rfl (fun _ _ => ⟨rfl, rfl, rfl⟩) rfl ?_))
    refine SXg.nilW (fun xq _ _ => ?_)
    cases hid
    · simp only [Bool.false_eq_true, if_false, Nat.add_zero] at hnext
      repeat (first | refine qaj ?_ | refine qaf ?_ | refine qad ?_ | refine qaC ?_ | refine qas rfl ?_ | (refine qao ?_; (refine qac (qai rfl) rfl ?_ ?_ ?_); rfl; rfl) | (refine qal ?_; (refine qac (qag rfl) rfl ?_ ?_ ?_); rfl; rfl) | (refine l_add ?_; (refine qac (OpW.succ rfl rfl (by omega)) rfl ?_ ?_ ?_); rfl; rfl) | refine qar ?_)
      refine SQ.round3 (j + 1) () () (by omega) (by omega) ?_ (fun w hl => hl)
      (repeat (first | exact subF_nil _ | (refine subF_cons rfl ?_) | (refine subF_consv rfl (by rw [hnext]) ?_)))
    · simp only [if_true] at hnext
      repeat (first | refine qaj ?_ | refine qaf ?_ | refine qad ?_ | refine qaq rfl ?_ | (refine qao ?_; (refine qac (qai rfl) rfl ?_ ?_ ?_); rfl; rfl) | (refine qal ?_; (refine qac (qag rfl) rfl ?_ ?_ ?_); rfl; rfl) | (refine l_add ?_; (refine qac (OpW.succ rfl rfl (by omega)) rfl ?_ ?_ ?_); rfl; rfl) | refine qar ?_)
      refine SQ.round3 (j + 1) () () (by omega) (by omega) ?_ (fun w hl => hl)
      (repeat (first | exact subF_nil _ | (refine subF_cons rfl ?_) | (refine subF_consv rfl (by rw [hnext]) ?_)))
  have hje : j = nd.1.kids.length := by omega
  rw [hje, List.take_length] at *
  generalize hidTo (bare ps) nd.1.kids = H at *
  repeat (first | refine qan ?_ | refine qaj ?_ | refine qaf ?_ | refine qad ?_ | refine SX.block ?_ | refine qas rfl ?_ | (refine qau ?_; (first | refine qac (OpW.loadLoc rfl (fun w' hl => hcell w' hl.owns)) rfl ?_ ?_ ?_ | refine qac (qaw 0 rfl rfl rfl) rfl ?_ ?_ ?_); rfl; rfl) | (refine qaM ?_; (refine qac ((qaJ (i := k) (by omega) rfl (congrArg (fun i : Int => some (Value.int .i64 i)) (by omega : ((k + 1 : Nat) : Int) - 1 = (k : Int))))) rfl ?_ ?_ ?_); rfl; rfl) | (refine qak ?_; (refine qac (qae rfl) rfl ?_ ?_ ?_); rfl; rfl) | (refine qao ?_; (refine qac (qai rfl) rfl ?_ ?_ ?_); rfl; rfl) | (refine qal ?_; (refine qac (qag rfl) rfl ?_ ?_ ?_); rfl; rfl) | (refine l_len ?_; (refine qac (OpW.len rfl) rfl ?_ ?_ ?_); rfl; rfl) | (refine l_lss ?_; (refine qac (OpW.lssF rfl rfl (by omega)) rfl ?_ ?_ ?_); rfl; rfl) | (refine l_sub ?_; (refine qac (OpW.subi rfl rfl (by omega) (by omega)) rfl ?_ ?_ ?_); rfl; rfl) | refine SX.exit ?_ | refine qaF ?_ | refine qaD ?_)
  refine SX.loop3 (fun (i : Nat) (_ _ : Unit) => 1 ≤ i) (fun i _ _ => F.length - i) (fun _ _ _ => [⟨g3, [.slice (some ⟨gt, 0, none⟩) ps.length qc], 37⟩]) (fun _ _ _ => treeO ps (some ⟨gt, 0, none⟩) qc) (fun _ _ _ => [ownRes icell 3 1 U pq.q4, ownRes icell 3 1 U pq.q3, ownRes icell 3 1 A pq.q2, ownRes icell 3 1 F pq.q1, ownRes icell 3 1 A qb, ownRes icell 3 1 F qf]) (fun i _ _ => [(3, .pointer (some ⟨g3, 0, none⟩)), (4, .int .i64 ((k + 1 : Nat) : Int)), (5, .slice qf.a F.length qf.c), (6, .slice qb.a A.length qb.c), (7, .int .i64 H.length), (9, .int .i64 i)]) 1 () () (Nat.le_refl _) ?_ (fun w hl => hl) ?_
  · (repeat (first | exact subF_nil _ | (refine subF_cons rfl ?_) | (refine subF_consv rfl (by rfl) ?_)))
  rintro i _ _ hi
  by_cases hil : i < F.length
  · have hi1 : i - 1 < F.length := by omega
    obtain ⟨u1, hu1⟩ : ∃ u, F[i - 1]? = some u := ⟨_, List.getElem?_eq_getElem hi1⟩
    obtain ⟨u2, hu2⟩ : ∃ u, F[i]? = some u := ⟨_, List.getElem?_eq_getElem hil⟩
    have hle : ordAt (bare ps) u1 ≤ ordAt (bare ps) u2 := by
      have := List.pairwise_iff_getElem.1 hFr (i - 1) i hi1 hil (by omega)
      rw [List.getElem?_eq_getElem hi1] at hu1
      rw [List.getElem?_eq_getElem hil] at hu2
      rwa [Option.some.inj hu1, Option.some.inj hu2] at this
    refine SX.know (fun w hl => intO_addr (hl.res (ownRes icell 3 1 F qf) (by simp)).1 (by omega)) (fun ⟨gf, hgf⟩ => ?_)
    have hf1 : ∀ w', (ownRes icell 3 1 F qf).says w' → w'.cell? ⟨gf, 0 + (i - 1), none⟩ = some (.int .i64 u1) ∧ w'.cell? ⟨gf, 0 + i, none⟩ = some (.int .i64 u2) := fun w' h2 => by
      simp only [ownRes, hgf] at h2
      exact ⟨intO_cell h2 hu1, intO_cell h2 hu2⟩
    obtain ⟨k1, rfl, hk1l⟩ := hpos u1 (hFm u1 (List.mem_of_getElem? hu1))
    obtain ⟨k2, rfl, hk2l⟩ := hpos u2 (hFm u2 (List.mem_of_getElem? hu2))
    have hs1 := hst k1 hk1l
    have hs2 := hst k2 hk2l
    unfold ordAt at hle
    generalize (nodeAt (bare ps) ((k1 + 1 : Nat) : Int)).style.order = o1 at *
    generalize (nodeAt (bare ps) ((k2 + 1 : Nat) : Int)).style.order = o2 at *
    repeat (first | refine qan ?_ | refine qaj ?_ | refine qaf ?_ | refine qad ?_ | refine SX.block ?_ | refine qaC ?_ | refine qaq rfl ?_ | (refine qao ?_; (refine qac (qai rfl) rfl ?_ ?_ ?_); rfl; rfl) | (refine l_len ?_; (refine qac (OpW.len rfl) rfl ?_ ?_ ?_); rfl; rfl) | (refine l_lss ?_; (refine qac (OpW.lssT rfl rfl (by omega)) rfl ?_ ?_ ?_); rfl; rfl))
    refine SX.drawnG (ζ := Unit) 24 (fun _ _ => [⟨g3, [.slice (some ⟨gt, 0, none⟩) ps.length qc], 37⟩]) (fun _ _ => treeO ps (some ⟨gt, 0, none⟩) qc) (fun _ _ => [ownRes icell 3 1 U pq.q4, ownRes icell 3 1 U pq.q3, ownRes icell 3 1 A pq.q2, ownRes icell 3 1 F pq.q1, ownRes icell 3 1 A qb, ownRes icell 3 1 F qf]) [] () (by kernel_rfl) (by kernel_rfl) (by kernel_rfl) ⟨rfl, rfl, rfl⟩ ?_
    repeat (first | (refine SXg.v0 (fun dn x p ha hK => (qaw 0 rfl rfl rfl)) rfl (fun _ => rfl) rfl (fun _ _ => ⟨rfl, rfl, rfl⟩) rfl ?_) | (refine SXg.v0 (fun dn x p ha hK => (OpW.loadLoc rfl (fun w' hl => (hf1 w' (hl.res (ownRes icell 3 1 F qf) (by simp)).1).1))) rfl (fun _ => rfl) rfl (fun _ _ => ⟨rfl, rfl, rfl⟩) rfl ?_) | (refine SXg.v0 (fun dn x p ha hK => (OpW.loadLoc rfl (fun w' hl => (hf1 w' (hl.res (ownRes icell 3 1 F qf) (by simp)).1).2))) rfl (fun _ => rfl) rfl (fun _ _ => ⟨rfl, rfl, rfl⟩) rfl ?_) | (refine SXg.v0 (fun dn x p ha hK => (OpW.loadLoc rfl (fun w' hl => (hs1 w' hl.owns).2))) rfl (fun _ => rfl) rfl (fun _ _ => ⟨rfl, rfl, rfl⟩) rfl ?_) | (refine SXg.v0 (fun dn x p ha hK => (OpW.loadLoc rfl (fun w' hl => (hs2 w' hl.owns).2))) rfl (fun _ => rfl) rfl (fun _ _ => ⟨rfl, rfl, rfl⟩) rfl ?_) | (refine SXg.v0 (fun dn x p ha hK => ((qaJ (i := k1) (by omega) rfl (congrArg (fun i : Int => some (Value.int .i64 i)) (by omega : ((k1 + 1 : Nat) : Int) - 1 = (k1 : Int)))))) rfl (fun _ => rfl) rfl (fun _ _ => ⟨rfl, rfl, rfl⟩) rfl ?_) | (refine SXg.v0 (fun dn x p ha hK => ((qaJ (i := k2) (by omega) rfl (congrArg (fun i : Int => some (Value.int .i64 i)) (by omega : ((k2 + 1 : Nat) : Int) - 1 = (k2 : Int)))))) rfl (fun _ => rfl) rfl (fun _ _ => ⟨rfl, rfl, rfl⟩) rfl ?_) | (refine SXg.v0 (fun dn x p ha hK => ((qaO (i := i - 1) (by omega) (congrArg (fun q => some (Value.slice q F.length qf.c)) hgf) (congrArg (fun i : Int => some (Value.int .i64 i)) (by omega : ((i : Nat) : Int) - 1 = ((i - 1 : Nat) : Int)))))) rfl (fun _ => rfl) rfl (fun _ _ => ⟨rfl, rfl, rfl⟩) rfl ?_) | (refine SXg.v0 (fun dn x p ha hK => ((qaO (i := i) (by omega) (congrArg (fun q => some (Value.slice q F.length qf.c)) hgf) rfl))) rfl (fun _ => rfl) rfl (fun _ _ => ⟨rfl, rfl, rfl⟩) rfl ?_) | (refine SXg.v0 (fun dn x p ha hK => (qae rfl)) rfl (fun _ => rfl) rfl (fun _ _ => ⟨rfl, rfl, rfl⟩) rfl ?_) | (refine SXg.v0 (fun dn x p ha hK => (qai rfl)) rfl (fun _ => rfl) rfl (fun _ _ => ⟨rfl, rfl, rfl⟩) rfl ?_) | (refine SXg.v0 (fun dn x p ha hK => (OpW.gtrF rfl rfl (by omega))) rfl (fun _ => rfl) rfl (fun _ _ => ⟨rfl, rfl, rfl⟩) rfl ?_) | (refine SXg.v0 (fun dn x p ha hK => (OpW.subi rfl rfl (by omega) (by omega))) rfl (fun _ => rfl) rfl (fun _ _ => ⟨rfl, rfl, rfl⟩) rfl ?_))
    refine SXg.nilW (fun xq _ _ => ?_)
    repeat (first | refine qaj ?_ | refine qaf ?_ | refine qad ?_ | refine qaC ?_ | refine qas rfl ?_ | (refine qao ?_; (refine qac (qai rfl) rfl ?_ ?_ ?_); rfl; rfl) | (refine qal ?_; (refine qac (qag rfl) rfl ?_ ?_ ?_); rfl; rfl) | (refine l_add ?_; (refine qac (OpW.succ rfl rfl (by omega)) rfl ?_ ?_ ?_); rfl; rfl) | refine qar ?_)
    refine SQ.round3 (i + 1) () () (by omega) (by omega) ?_ (fun w hl => hl)
    (repeat (first | exact subF_nil _ | (refine subF_cons rfl ?_) | (refine subF_consv rfl (by rfl) ?_)))
  repeat (first | refine qan ?_ | refine qaj ?_ | refine qaf ?_ | refine qad ?_ | refine qas rfl ?_ | (refine qau ?_; (refine qac (qam 0 rfl rfl rfl) rfl ?_ ?_ ?_); rfl; rfl) | (refine qao ?_; (refine qac (qai rfl) rfl ?_ ?_ ?_); rfl; rfl) | (refine l_len ?_; (refine qac (OpW.len rfl) rfl ?_ ?_ ?_); rfl; rfl) | (refine l_lss ?_; (refine qac (OpW.lssF rfl rfl (by omega)) rfl ?_ ?_ ?_); rfl; rfl) | refine SX.exit ?_ | refine qaF ?_ | refine qaD ?_)
  refine qat ?_
  refine SXl.calln1 (v := fun q => .slice q.a U.length q.c) (F1 := ownRes icell 3 1 U) rfl rfl rfl (fun w hl => (hU w hl.owns).mono fun _ _ h => new_own h) (fun qu => ?_)
  refine SXl.know (fun w hl => intO_addr (hl.res (ownRes icell 3 1 U qu) (.head _)).1 hU1) (fun ⟨gu, hgu⟩ => ?_)
  have hu0 : ∀ w', (ownRes icell 3 1 U qu).says w' → w'.cell? ⟨gu, 0 + 0, none⟩ = some (.int .i64 ((k + 1 : Nat) : Int)) := fun w' h2 => by
    simp only [ownRes, hgu] at h2
    exact intO_cell h2 hU0
  repeat (first | refine qan ?_ | refine qaj ?_ | refine qaf ?_ | refine qad ?_ | (refine qau ?_; (first | refine qac (OpW.loadLoc rfl (fun w' hl => hcell w' hl.owns)) rfl ?_ ?_ ?_ | refine qac (OpW.loadLoc rfl (fun w' hl => hu0 w' (hl.res _ (.head _)).1)) rfl ?_ ?_ ?_ | refine qac (qaw 0 rfl rfl rfl) rfl ?_ ?_ ?_ | refine qac (qam 0 rfl rfl rfl) rfl ?_ ?_ ?_); rfl; rfl) | (refine qaM ?_; (first | refine qac ((qaJ (i := k) (by omega) rfl (congrArg (fun i : Int => some (Value.int .i64 i)) (by omega : ((k + 1 : Nat) : Int) - 1 = (k : Int))))) rfl ?_ ?_ ?_ | refine qac ((qaO (i := 0) (by omega) (congrArg (fun q => some (Value.slice q U.length qu.c)) hgu) rfl)) rfl ?_ ?_ ?_); rfl; rfl) | (refine qat ?_; (refine qac (qap rfl (fun w hl => hR _ hl.owns)) rfl ?_ ?_ ?_); rfl; rfl) | (refine qak ?_; (refine qac (qae rfl) rfl ?_ ?_ ?_); rfl; rfl) | (refine qao ?_; (refine qac (qai rfl) rfl ?_ ?_ ?_); rfl; rfl) | (refine qal ?_; (refine qac (qag rfl) rfl ?_ ?_ ?_); rfl; rfl) | (refine l_len ?_; (refine qac (OpW.len rfl) rfl ?_ ?_ ?_); rfl; rfl) | (refine l_add ?_; (refine qac (OpW.addi rfl rfl (by omega) (by omega)) rfl ?_ ?_ ?_); rfl; rfl) | (refine l_eql ?_; (refine qac (qaQ rfl rfl (by omega)) rfl ?_ ?_ ?_); rfl; rfl) | (refine l_gtr ?_; (refine qac (OpW.gtrT rfl rfl (by omega)) rfl ?_ ?_ ?_); rfl; rfl) | (refine l_sub ?_; (refine qac (OpW.subi rfl rfl (by omega) (by omega)) rfl ?_ ?_ ?_); rfl; rfl) | (refine qaE ?_; (refine qac (qav rfl rfl rfl) rfl ?_ ?_ ?_); rfl; rfl) | refine qaA ?_)
  refine qaz rfl rfl (fun w' hl => ⟨rfl, hl.mod⟩)
/-! ### The row's frame (the kit's skeleton, turned) -/
namespace fnFlow
open Go.ChangeShapes Go.WideShapes Go.ChangeAt Go.RowKit
set_option linter.unusedVariables false

theorem own : ownKnob Try.prog.godebug = none := by kernel_rfl
theorem laidOut : laidOutB Try.prog = true := by kernel_rfl
def IsRow (k : IntKind) (w : World) (a : Option Addr) (len cap : Nat) (zs : List Int) : Prop :=
  (a = none ∧ len = 0 ∧ cap = 0 ∧ zs = []) ∨
  ∃ x, a = some x ∧ len ≤ cap ∧ cap ≤ maxLen ∧ zs.length = cap ∧ (∀ i, i < zs.length → w.cell? (x.add i) = some (.int k (zs.getD i 0))) ∧ ∀ n ∈ zs, (Lit.int k n).wf = true

theorem walk (a0 : Option Addr) (len0 cap0 : Nat) (z0 : List Int) (w : World) (w0 : IsRow .u8 w a0 len0 cap0 z0) :
    Calls Try.prog 7 #[.slice a0 len0 cap0] w fun e w' => e = .returned (.bool true) ∧ Below w.heap.size w w' := by
  obtain ⟨h1, h2⟩ := bytes_of_row (a := a0) (len := len0) (cap := cap0) (zs := z0) w0
  exact (fnFlow_walk w a0 len0 cap0 h1 h2).mono fun e w' ⟨he, hm⟩ => ⟨he, hm.below (Nat.le_refl _) fun _ _ h => h⟩

set_option maxRecDepth 100000 in
theorem lifted (os : Os) (started : os.Started) (H : Type) (enc : TypeId × Value → H) :
    ReturnsInHanded {} Try.checked os 7 .any (Rows.fnFlowSpec.pre6 enc Try.prog Try.f7 Rows.fnFlowRow.domain false) (Rows.fnFlowSpec.post enc Try.prog Try.f7 false true false false) := by
  refine returnsInHanded_of_change (C := Try.checked) own started (by kernel_rfl) Try.func7
    (ChangeSpec.witness6 (enc := enc) (C := Try.checked) false ⟨#[], #[.slice none 0 0], []⟩ 8 (by kernel_rfl) (by kernel_rfl) (by kernel_rfl) (by kernel_rfl)) ?_
  intro W base args ds gs before hval0 hW hcnd _
  have hval : ∀ (j : Nat) t v, Try.f7.params[j]? = some t → args[j]? = some v → Value.okWide Try.prog W .any base t v := hval0
  have hW' := hW
  obtain ⟨p, q, hA0, hV, rfl, hfz, hnd⟩ := hW
  have hA : DataW.TrodAll enc Try.prog W 0 (fun _ => true) true Try.f7.params.toList args.toList ds p := hA0
  rw [Try.params7] at hA hval
  obtain ⟨v0, vs0, d0, ds0, p0, q0, hargs, rfl, rfl, h0, r0⟩ := trodAll_cons hA
  obtain ⟨rfl, rfl, rfl⟩ := trodAll_nil r0
  obtain rfl : args = #[v0] := by cases args; simp_all
  obtain ⟨rfl, rfl⟩ := trodVars_none hV
  obtain ⟨a0, len0, cap0, rfl⟩ := okWide_slice Try.underlying50 (hval 0 50 v0 rfl rfl)
  have k0 := h0
  have lt0 : ∀ x ∈ p0, x.block < W.heap.size := by obtain ⟨m, hm⟩ := k0; exact DataW.trod_lt m _ _ _ hm
  obtain ⟨z0, w0⟩ : ∃ zs, IsRow .u8 W a0 len0 cap0 zs := by
    obtain ⟨fuel, hf⟩ := h0
    rcases open_ints Try.underlying50 Try.underlying5 (by kernel_rfl) hf with ⟨hcs, _⟩ | ⟨x, l, c, zs, hcs, _, hl, hm, hz, _, hcell, hwz⟩
    · simp [Value.cells] at hcs
      obtain ⟨rfl, rfl, rfl⟩ := hcs
      exact ⟨[], .inl ⟨rfl, rfl, rfl, rfl⟩⟩
    · simp [Value.cells] at hcs
      obtain ⟨rfl, rfl, rfl⟩ := hcs
      exact ⟨zs, .inr ⟨_, rfl, hl, hm, by simpa using hz, hcell, hwz⟩⟩
  clear hA0 hval0
  refine (walk a0 len0 cap0 z0 W w0).mono fun e W' ⟨he, bel⟩ => ?_
  subst he
  exact ⟨_, rfl, _, _, _, [], _, [], hW', trodAll_mk1 (shut_bool Try.underlying4 _), (trodAll_cons_mk (Below.trod laidOut (by kernel_rfl) (of_decide_eq_true (by kernel_rfl)) k0 bel lt0) trodAll_mk0), rfl, bel.frame _, fun h => by cases h⟩

theorem over : Rows.fnFlowRow.holds Try.pinned (OpenSpec.ofChange Rows.fnFlowSpec) :=
  OpenClaim.holds_of_wide 7 Try.f7 rfl rfl rfl rfl rfl rfl rfl ⟨rfl, rfl, rfl, rfl, rfl⟩ rfl rfl rfl rfl rfl (by kernel_rfl) Try.func7 (by kernel_rfl)
    (of_decide_eq_true (by kernel_rfl)) (by unfold Func.isWrapper; first | (rw [if_pos (by decide +kernel)]; kernel_rfl) | (rw [if_neg (by decide +kernel)]; exact ⟨rfl, rfl⟩))
    (fun os started H enc _ => lifted os started H enc)

theorem proved : Rows.FnFlowSaid := over
#print axioms proved
end fnFlow


end Go.Proofs.Ythffgbhphjkdeaa
