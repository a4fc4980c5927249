/-
  PROVED: contracts of functions and words on memory, several texts put together: what each says stands at its theorems. Conditions: as told there.
-/
import Derived.Test.YtdohglcjjlmhhaaMYb
set_option linter.unusedVariables false
set_option linter.unusedSimpArgs false
namespace Go.Proofs.Ytdohglcjjlmhhaa
open Go.RowKit
set_option linter.unusedVariables false
set_option linter.unusedSimpArgs false

/-- Whether all items stand on one line. -/
def oneLine (l : List Item) (room : Int) (wraps : Bool) : Bool := !wraps || decide (room < 0) || !itemsOk l
theorem oneLine_cases (l : List Item) (room : Int) (wraps : Bool) : (wraps = false ∧ oneLine l room wraps = true) ∨ (wraps = true ∧ room < 0 ∧ oneLine l room wraps = true) ∨ (wraps = true ∧ ¬ room < 0 ∧ itemsOk l = false ∧ oneLine l room wraps = true) ∨ (wraps = true ∧ ¬ room < 0 ∧ itemsOk l = true ∧ oneLine l room wraps = false) := by
  unfold oneLine
  cases wraps
  · exact .inl ⟨rfl, rfl⟩
  · by_cases hr : room < 0
    · exact .inr (.inl ⟨rfl, hr, by simp [hr]⟩)
    · cases hi : itemsOk l
      · exact .inr (.inr (.inl ⟨rfl, hr, rfl, by simp [hr]⟩))
      · exact .inr (.inr (.inr ⟨rfl, hr, rfl, by simp [hr]⟩))
set_option maxRecDepth 100000 in
set_option maxHeartbeats 16000000 in
theorem linesOf_any (l : List Item) (gap room : Int) (wraps : Bool) (a : Option Addr) (c : Nat) (R : Nat → Prop) (w : World) (hlen : l.length ≤ 1048570) (hf : ∀ x ∈ l, x.Fits) (hg : -2147483648 ≤ gap ∧ gap ≤ 2147483648) (h : ItemSlice R w a l) :
    Calls Try.prog 10 #[.slice a l.length c, .int .i64 gap, .int .i64 room, .bool wraps] w (NewLines (linesTo l gap room (oneLine l room wraps) l.length) w) := by
  refine calls_sx Try.func10 rfl rfl (fun a h1 h2 h3 => ((((Fr.nil h1 h2).arg (h3 3 _ rfl)).arg (h3 2 _ rfl)).arg (h3 1 _ rfl)).arg (h3 0 _ rfl)) ?_
  refine SX.ownNil 29 1 ?_
  have hO := fun (w' : World) (hm : Mod (fun _ => False) w w') => itemsOk_any l a c R w' (by omega) (h.flatKeep hm)
  have hI := fun (ln : List Int) (b : Option Addr) (d : Nat) (S : Nat → Prop) (w' : World) (hm : Mod (fun _ => False) w w') (hs : ln.length ≤ 1048576) (h' : IntSlice S w' b ln) => lineItems_any l ln a b c d R S w' (by omega) hs (h.flatKeep hm) h'
  rcases oneLine_cases l room wraps with ⟨hw, he⟩ | ⟨hw, hr, he⟩ | ⟨hw, hr, hi, he⟩ | ⟨hw, hr, hi, he⟩
  all_goals rw [he]; subst hw
  rotate_left 3
  · rw [hi] at hO
    repeat (first | refine SX.seq ?_ | refine SXl.nil ?_ | refine SX.region ?_ | refine SQ.thenNormal ?_ | refine SX.block ?_ | (refine l_call ?_; (refine SXl.v (OpW.call rfl (fun w hl => hO _ hl.mod)) rfl ?_ ?_ ?_); rfl; rfl) | (refine l_move ?_; (refine SXl.v (OpW.move rfl) rfl ?_ ?_ ?_); rfl; rfl) | (refine l_assign ?_; (refine SXl.v (OpW.assign rfl) rfl ?_ ?_ ?_); rfl; rfl) | (refine l_len ?_; (refine SXl.v (OpW.len rfl) rfl ?_ ?_ ?_); rfl; rfl) | (refine l_lss ?_; (refine SXl.v (OpW.lssF rfl rfl (by omega)) rfl ?_ ?_ ?_); rfl; rfl) | (refine l_not ?_; (refine SXl.v (OpW.not rfl) rfl ?_ ?_ ?_); rfl; rfl) | (refine l_pick ?_; (refine SXl.v (OpW.pick rfl rfl rfl) rfl ?_ ?_ ?_); rfl; rfl))
    refine SX.loop3 (fun (k : Nat) (q : LinesQ) (_ : Unit) => k ≤ l.length ∧ q.ps.map (·.1) = linesTo l gap room false k) (fun k _ _ => l.length - k) (fun _ _ _ => []) (fun _ q _ => q.os) (fun _ _ _ => []) (fun k q _ => [(0, .slice a l.length c), (1, .int .i64 gap), (2, .int .i64 room), (9, q.v), (10, .bool false), (27, .int .i64 l.length), (28, .int .i64 k)]) 0 ⟨[], none, 0⟩ () ⟨Nat.zero_le _, rfl⟩ ?_ (fun w hl => hl) ?_
    · (repeat (first | exact subF_nil _ | (refine subF_cons rfl ?_) | (refine subF_consv rfl (by rfl) ?_)))
    rintro k ⟨ps, qa, qc⟩ _ ⟨hk, hps⟩
    simp only at hps
    simp only [LinesQ.v, LinesQ.os]
    have hpl : ps.length ≤ k := by
      have := congrArg List.length hps
      rw [List.length_map] at this
      rw [this]
      exact linesTo_len k
    by_cases hlt : k < l.length
    rotate_left
    · obtain rfl : k = l.length := by omega
      repeat (first | refine SX.seq ?_ | refine SXl.nil ?_ | refine SX.region ?_ | refine SQ.thenNormal ?_ | refine SX.condF rfl ?_ | (refine l_move ?_; (refine SXl.v (OpW.move rfl) rfl ?_ ?_ ?_); rfl; rfl) | (refine l_assign ?_; (refine SXl.v (OpW.assign rfl) rfl ?_ ?_ ?_); rfl; rfl) | (refine l_lss ?_; (refine SXl.v (OpW.lssF rfl rfl (by omega)) rfl ?_ ?_ ?_); rfl; rfl) | refine SX.ret ?_ | refine SX.exit ?_ | refine SQ.thenExit ?_ | refine SQ.blockExit ?_)
      refine SQ.body1 rfl rfl (fun w' hl => ⟨⟨ps, qa, qc⟩, rfl, hps, hl.owns, hl.mod⟩)
    rcases List.eq_nil_or_concat ps with h0 | ⟨ps', p, h0⟩
    · subst h0
      have hn := linesTo_first hps.symm
      repeat (first | refine SX.seq ?_ | refine SXl.nil ?_ | refine SX.region ?_ | refine SQ.thenNormal ?_ | refine SX.block ?_ | refine SX.skip ?_ | refine SX.condT rfl ?_ | refine SX.condF rfl ?_ | (refine l_move ?_; (refine SXl.v (OpW.move rfl) rfl ?_ ?_ ?_); rfl; rfl) | (refine l_assign ?_; (refine SXl.v (OpW.assign rfl) rfl ?_ ?_ ?_); rfl; rfl) | (refine l_len ?_; (refine SXl.v (OpW.len rfl) rfl ?_ ?_ ?_); rfl; rfl) | (refine l_add ?_; (refine SXl.v (OpW.succ rfl rfl (by omega)) rfl ?_ ?_ ?_); rfl; rfl) | (refine l_geq ?_; (refine SXl.v (OpW.geq rfl rfl) rfl ?_ ?_ ?_); rfl; rfl) | (refine l_lss ?_; (refine SXl.v (OpW.lssT rfl rfl (by omega)) rfl ?_ ?_ ?_); rfl; rfl) | (refine l_sub ?_; (refine SXl.v (OpW.subi rfl rfl (by omega) (by omega)) rfl ?_ ?_ ?_); rfl; rfl) | (refine l_buildSlice ?_; first | (refine SXl.lit1 ?_ ?_ rfl rfl rfl (fun g => ?_); rfl; rfl) | (refine SXl.lit0 ?_ ?_ (fun _ h => h) rfl (fun g => ?_); rfl; rfl)) | (refine l_append ?_; first | (refine SXl.append 0 0 rfl rfl rfl rfl rfl rfl rfl rfl (by omega) (by omega) (fun a c => ?_); simp only [List.set_cons_zero, List.set_cons_succ]) | (refine SXl.append 1 0 rfl rfl rfl rfl rfl rfl rfl rfl (by omega) (by omega) (fun a c => ?_); simp only [List.set_cons_zero, List.set_cons_succ])) | refine SQ.blockNormal ?_)
      rename_i g1
      refine SQ.round3 (k + 1) ⟨[([(k : Int)], (some ⟨g1, 0, none⟩, 1))], a, c⟩ () ⟨by omega, hn.symm⟩ (by omega) ?_ (fun w hl => Loc.linePush (ps := []) (p := ([(k : Int)], (some ⟨g1, 0, none⟩, 1))) (hl.drop1.toOwn (m := 1) (sz := 1) (fun h => h) rfl (by decide)))
      (repeat (first | exact subF_nil _ | (refine subF_cons rfl ?_) | (refine subF_consv rfl (by rfl) ?_)))
    · subst h0
      rw [List.concat_eq_append] at *
      have hlast : p.1.length ≤ k := linesTo_mem_len (n := k) (by rw [← hps, List.map_append]; exact List.mem_append_right _ (List.mem_singleton.2 rfl))
      rw [List.map_append] at hps
      simp only [List.map_cons, List.map_nil] at hps
      have hpl2 : (ps' ++ [p]).length = ps'.length + 1 := by simp
      have hon := linesTo_on hps.symm
      have hoff := linesTo_off hps.symm
      refine SX.knowI (fun w hl => rows_addr (hl.owns) (.head _) (by simp)) (fun ⟨gq, hgq⟩ => ?_)
      subst hgq
      have hv : ((ps' ++ [p]).map lineV)[0 + ps'.length]? = some (lineV p) := by
        rw [Nat.zero_add, List.map_append, List.getElem?_append_right (by simp)]; simp
      have hC := copyLine_any p.1 p.2.1 p.2.2
      repeat (first | refine SX.seq ?_ | refine SXl.nil ?_ | refine SX.region ?_ | refine SQ.thenNormal ?_ | refine SX.block ?_ | refine SX.skip ?_ | refine SX.condT rfl ?_ | (refine l_load ?_; (refine SXl.v (OpW.loadOwn (xs := (ps' ++ [p]).map lineV) 0 rfl rfl hv) rfl ?_ ?_ ?_); rfl; rfl) | (refine l_indexAddr ?_; (refine SXl.v ((OpW.indexAddr1 (i := ps'.length) (by omega) rfl (congrArg (fun i : Int => some (Value.int .i64 i)) (by omega : (((ps' ++ [p]).length : Nat) : Int) - 1 = ((ps'.length : Nat) : Int))))) rfl ?_ ?_ ?_); rfl; rfl) | (refine l_move ?_; (refine SXl.v (OpW.move rfl) rfl ?_ ?_ ?_); rfl; rfl) | (refine l_assign ?_; (refine SXl.v (OpW.assign rfl) rfl ?_ ?_ ?_); rfl; rfl) | (refine l_len ?_; (refine SXl.v (OpW.len rfl) rfl ?_ ?_ ?_); rfl; rfl) | (refine l_geq ?_; (refine SXl.v (OpW.geqT rfl rfl (by omega)) rfl ?_ ?_ ?_); rfl; rfl) | (refine l_lss ?_; (refine SXl.v (OpW.lssT rfl rfl (by omega)) rfl ?_ ?_ ?_); rfl; rfl) | (refine l_sub ?_; (refine SXl.v (OpW.subi rfl rfl (by omega) (by omega)) rfl ?_ ?_ ?_); rfl; rfl))
      refine l_call ?_
      refine SXl.callO rfl rfl rfl (fun w' hl => hC _ w' (by omega) (lineO_slice hl.owns (List.mem_cons_of_mem _ (List.mem_map.2 ⟨p, List.mem_append_right _ (List.mem_singleton.2 rfl), rfl⟩)))) (fun qn _ => ?_)
      simp only [List.cons_append, List.nil_append]
      repeat (first | (refine l_move ?_; (refine SXl.v (OpW.move rfl) rfl ?_ ?_ ?_); rfl; rfl) | (refine l_buildSlice ?_; first | (refine SXl.lit1 ?_ ?_ rfl rfl rfl (fun g => ?_); rfl; rfl) | (refine SXl.lit0 ?_ ?_ (fun _ h => h) rfl (fun g => ?_); rfl; rfl)))
      refine l_append ?_
      refine SXl.append (n0 := p.1.length) (xs := (p.1.map icell).flatten) 0 0 rfl rfl rfl rfl rfl rfl rfl rfl (by omega) (by omega) (fun a1 c1 => ?_)
      simp only [List.set_cons_zero]
      rw [line_grown]
      have hLI := hI (p.1 ++ [(k : Int)]) a1 c1
      rw [List.length_append, List.length_singleton] at hLI
      have hll := lineIt_len l (p.1 ++ [(k : Int)])
      rw [List.length_append, List.length_singleton] at hll
      have hlf := lineIt_fits (ln := p.1 ++ [(k : Int)]) hf
      repeat (first | refine SX.seq ?_ | refine SXl.nil ?_ | refine SX.region ?_ | refine SQ.thenNormal ?_ | (refine l_move ?_; (refine SXl.v (OpW.move rfl) rfl ?_ ?_ ?_); rfl; rfl) | (refine l_assign ?_; (refine SXl.v (OpW.assign rfl) rfl ?_ ?_ ?_); rfl; rfl))
      refine l_call ?_
      refine SXl.calln1 (v := fun q => .slice q.a (lineIt l (p.1 ++ [(k : Int)])).length q.c) (F1 := ownRes Item.cells 36 9 (lineIt l (p.1 ++ [(k : Int)]))) rfl rfl rfl (fun w' hl => (hLI _ w' hl.mod (by omega) (lineO_slice hl.owns (.head _))).mono fun _ _ h => new_own h) (fun q1 => ?_)
      have hout : outerL l gap (p.1 ++ [(k : Int)]) = outerOf (lineIt l (p.1 ++ [(k : Int)])) ((lineIt l (p.1 ++ [(k : Int)])).map hyp) gap := rfl
      generalize outerL l gap (p.1 ++ [(k : Int)]) = V at *
      generalize lineIt l (p.1 ++ [(k : Int)]) = li at *
      repeat (first | refine SX.seq ?_ | refine SXl.nil ?_ | refine SX.region ?_ | refine SQ.thenNormal ?_ | (refine l_move ?_; (refine SXl.v (OpW.move rfl) rfl ?_ ?_ ?_); rfl; rfl) | (refine l_assign ?_; (refine SXl.v (OpW.assign rfl) rfl ?_ ?_ ?_); rfl; rfl))
      refine l_call ?_
      refine SXl.calln1 (v := fun q => .slice q.a (li.map hyp).length q.c) (F1 := ownRes icell 3 1 (li.map hyp)) rfl rfl rfl (fun w hl => (hypsOf_any li q1.a q1.c _ w (by omega) (itemRes_in hl (.head _))).mono fun _ _ h => new_own h) (fun q2 => ?_)
      have hU := fun (w' : World) => outerOf_any li (li.map hyp) gap q1.a q2.a q1.c q2.c (fun k => q1.lo ≤ k) (fun k => q2.lo ≤ k) w' (by omega) (by rw [List.length_map]; omega) hlf ((hyp_near hlf).mono (by decide)) hg
      rw [← hout] at hU
      clear hout
      by_cases hfit : V ≤ room
      · repeat (first | refine SX.seq ?_ | refine SXl.nil ?_ | refine SX.region ?_ | refine SQ.thenNormal ?_ | refine SX.condT rfl ?_ | (refine l_call ?_; (refine SXl.v (OpW.call rfl (fun w hl => hU _ (itemRes_in hl (.tail _ (.head _))) (intRes_in hl (.head _)))) rfl ?_ ?_ ?_); rfl; rfl) | (refine l_indexAddr ?_; (refine SXl.v ((OpW.indexAddr1 (i := ps'.length) (by omega) rfl (congrArg (fun i : Int => some (Value.int .i64 i)) (by omega : (((ps' ++ [p]).length : Nat) : Int) - 1 = ((ps'.length : Nat) : Int))))) rfl ?_ ?_ ?_); rfl; rfl) | (refine l_move ?_; (refine SXl.v (OpW.move rfl) rfl ?_ ?_ ?_); rfl; rfl) | (refine l_leq ?_; (refine SXl.v (OpW.leqT rfl rfl (by omega)) rfl ?_ ?_ ?_); rfl; rfl) | (refine l_pick ?_; (refine SXl.v (OpW.pick rfl rfl rfl) rfl ?_ ?_ ?_); rfl; rfl))
        refine l_store ?_
        refine SXl.storeOwn (xs := (ps' ++ [p]).map lineV) 1 rfl rfl rfl rfl (by simp) rfl rfl ?_
        simp only [List.set_cons_zero, List.set_cons_succ]
        repeat (first | refine SXl.nil ?_ | refine SX.region ?_ | refine SQ.thenNormal ?_ | (refine l_move ?_; (refine SXl.v (OpW.move rfl) rfl ?_ ?_ ?_); rfl; rfl) | (refine l_add ?_; (refine SXl.v (OpW.succ rfl rfl (by omega)) rfl ?_ ?_ ?_); rfl; rfl) | refine SX.exit ?_ | refine SQ.thenExit ?_ | refine SQ.blockExit ?_)
        refine SQ.round3 (k + 1) ⟨ps' ++ [(p.1 ++ [(k : Int)], (a1, c1))], some ⟨gq, 0, none⟩, qc⟩ () ⟨by omega, by rw [List.map_append, hon (.inr hfit)]; rfl⟩ (by omega) ?_ (fun w hl => ?_)
        · (repeat (first | exact subF_nil _ | (refine subF_cons rfl ?_) | (refine subF_consv rfl (by simp [LinesQ.v]) ?_)))
        · have hl2 := hl.drop1.dropE.dropE
          rw [line_v p.1 (k : Int) a1 c1] at hl2
          exact hl2.lineAnew
      · repeat (first | refine SXl.nil ?_ | refine SX.region ?_ | refine SQ.thenNormal ?_ | refine SX.skip ?_ | refine SX.condF rfl ?_ | (refine l_call ?_; (refine SXl.v (OpW.call rfl (fun w hl => hU _ (itemRes_in hl (.tail _ (.head _))) (intRes_in hl (.head _)))) rfl ?_ ?_ ?_); rfl; rfl) | (refine l_move ?_; (refine SXl.v (OpW.move rfl) rfl ?_ ?_ ?_); rfl; rfl) | (refine l_assign ?_; (refine SXl.v (OpW.assign rfl) rfl ?_ ?_ ?_); rfl; rfl) | (refine l_add ?_; (refine SXl.v (OpW.succ rfl rfl (by omega)) rfl ?_ ?_ ?_); rfl; rfl) | (refine l_leq ?_; (refine SXl.v (OpW.leqF rfl rfl (by omega)) rfl ?_ ?_ ?_); rfl; rfl) | (refine l_pick ?_; (refine SXl.v (OpW.pick rfl rfl rfl) rfl ?_ ?_ ?_); rfl; rfl) | (refine l_buildSlice ?_; first | (refine SXl.lit1 ?_ ?_ rfl rfl rfl (fun g => ?_); rfl; rfl) | (refine SXl.lit0 ?_ ?_ (fun _ h => h) rfl (fun g => ?_); rfl; rfl)) | (refine l_append ?_; first | (refine SXl.append 0 0 rfl rfl rfl rfl rfl rfl rfl rfl (by omega) (by omega) (fun a c => ?_); simp only [List.set_cons_zero, List.set_cons_succ]) | (refine SXl.append 1 0 rfl rfl rfl rfl rfl rfl rfl rfl (by omega) (by omega) (fun a c => ?_); simp only [List.set_cons_zero, List.set_cons_succ])) | refine SQ.blockNormal ?_)
        rename_i g1
        refine SQ.round3 (k + 1) ⟨ps' ++ [p] ++ [([(k : Int)], (some ⟨g1, 0, none⟩, 1))], a, c⟩ () ⟨by omega, by rw [List.map_append, List.map_append, hoff (by rintro (hc | hc); cases hc; exact hfit hc)]; rfl⟩ (by omega) ?_ (fun w hl => ?_)
        · (repeat (first | exact subF_nil _ | (refine subF_cons rfl ?_) | (refine subF_consv rfl (by simp [LinesQ.v]) ?_)))
        · have hl2 := (hl.drop1.toOwn (m := 1) (sz := 1) (fun h => h) rfl (by decide)).drop1.dropE.dropE
          exact Loc.linePush (ps := ps' ++ [p]) (p := ([(k : Int)], (some ⟨g1, 0, none⟩, 1))) (hl2.ownSub (List.Sublist.cons_cons _ (List.sublist_cons_self _ _)))
  all_goals
    try rw [hi] at hO
    repeat (first | refine SX.seq ?_ | refine SXl.nil ?_ | refine SX.region ?_ | refine SQ.thenNormal ?_ | refine SX.block ?_ | (refine SXl.no rfl rfl rfl ?_) | (refine l_call ?_; (refine SXl.v (OpW.call rfl (fun w hl => hO _ hl.mod)) rfl ?_ ?_ ?_); rfl; rfl) | (refine l_move ?_; (refine SXl.v (OpW.move rfl) rfl ?_ ?_ ?_); rfl; rfl) | (refine l_assign ?_; (refine SXl.v (OpW.assign rfl) rfl ?_ ?_ ?_); rfl; rfl) | (refine l_len ?_; (refine SXl.v (OpW.len rfl) rfl ?_ ?_ ?_); rfl; rfl) | (refine l_lss ?_; (first | refine SXl.v (OpW.lssT rfl rfl (by omega)) rfl ?_ ?_ ?_ | refine SXl.v (OpW.lssF rfl rfl (by omega)) rfl ?_ ?_ ?_); rfl; rfl) | (refine l_not ?_; (refine SXl.v (OpW.not rfl) rfl ?_ ?_ ?_); rfl; rfl) | (refine l_pick ?_; (refine SXl.v (OpW.pick rfl rfl rfl) rfl ?_ ?_ ?_); rfl; rfl))
    refine SX.loop3 (fun (k : Nat) (q : LinesQ) (_ : Unit) => k ≤ l.length ∧ q.ps.map (·.1) = linesTo l gap room true k) (fun k _ _ => l.length - k) (fun _ _ _ => []) (fun _ q _ => q.os) (fun _ _ _ => []) (fun k q _ => [(0, .slice a l.length c), (1, .int .i64 gap), (2, .int .i64 room), (9, q.v), (10, .bool true), (27, .int .i64 l.length), (28, .int .i64 k)]) 0 ⟨[], none, 0⟩ () ⟨Nat.zero_le _, rfl⟩ ?_ (fun w hl => hl) ?_
    · (repeat (first | exact subF_nil _ | (refine subF_cons rfl ?_) | (refine subF_consv rfl (by rfl) ?_)))
    rintro k ⟨ps, qa, qc⟩ _ ⟨hk, hps⟩
    simp only at hps
    simp only [LinesQ.v, LinesQ.os]
    have hpl : ps.length ≤ k := by
      have := congrArg List.length hps
      rw [List.length_map] at this
      rw [this]
      exact linesTo_len k
    by_cases hlt : k < l.length
    rotate_left
    · obtain rfl : k = l.length := by omega
      repeat (first | refine SX.seq ?_ | refine SXl.nil ?_ | refine SX.region ?_ | refine SQ.thenNormal ?_ | refine SX.condF rfl ?_ | (refine l_move ?_; (refine SXl.v (OpW.move rfl) rfl ?_ ?_ ?_); rfl; rfl) | (refine l_assign ?_; (refine SXl.v (OpW.assign rfl) rfl ?_ ?_ ?_); rfl; rfl) | (refine l_lss ?_; (refine SXl.v (OpW.lssF rfl rfl (by omega)) rfl ?_ ?_ ?_); rfl; rfl) | refine SX.ret ?_ | refine SX.exit ?_ | refine SQ.thenExit ?_ | refine SQ.blockExit ?_)
      refine SQ.body1 rfl rfl (fun w' hl => ⟨⟨ps, qa, qc⟩, rfl, hps, hl.owns, hl.mod⟩)
    rcases List.eq_nil_or_concat ps with h0 | ⟨ps', p, h0⟩
    · subst h0
      have hn := linesTo_first hps.symm
      repeat (first | refine SX.seq ?_ | refine SXl.nil ?_ | refine SX.region ?_ | refine SQ.thenNormal ?_ | refine SX.block ?_ | refine SX.skip ?_ | refine SX.condT rfl ?_ | refine SX.condF rfl ?_ | (refine l_move ?_; (refine SXl.v (OpW.move rfl) rfl ?_ ?_ ?_); rfl; rfl) | (refine l_assign ?_; (refine SXl.v (OpW.assign rfl) rfl ?_ ?_ ?_); rfl; rfl) | (refine l_len ?_; (refine SXl.v (OpW.len rfl) rfl ?_ ?_ ?_); rfl; rfl) | (refine l_add ?_; (refine SXl.v (OpW.succ rfl rfl (by omega)) rfl ?_ ?_ ?_); rfl; rfl) | (refine l_geq ?_; (refine SXl.v (OpW.geq rfl rfl) rfl ?_ ?_ ?_); rfl; rfl) | (refine l_lss ?_; (refine SXl.v (OpW.lssT rfl rfl (by omega)) rfl ?_ ?_ ?_); rfl; rfl) | (refine l_sub ?_; (refine SXl.v (OpW.subi rfl rfl (by omega) (by omega)) rfl ?_ ?_ ?_); rfl; rfl) | (refine l_buildSlice ?_; first | (refine SXl.lit1 ?_ ?_ rfl rfl rfl (fun g => ?_); rfl; rfl) | (refine SXl.lit0 ?_ ?_ (fun _ h => h) rfl (fun g => ?_); rfl; rfl)) | (refine l_append ?_; first | (refine SXl.append 0 0 rfl rfl rfl rfl rfl rfl rfl rfl (by omega) (by omega) (fun a c => ?_); simp only [List.set_cons_zero, List.set_cons_succ]) | (refine SXl.append 1 0 rfl rfl rfl rfl rfl rfl rfl rfl (by omega) (by omega) (fun a c => ?_); simp only [List.set_cons_zero, List.set_cons_succ])) | refine SQ.blockNormal ?_)
      rename_i g1
      refine SQ.round3 (k + 1) ⟨[([(k : Int)], (some ⟨g1, 0, none⟩, 1))], a, c⟩ () ⟨by omega, hn.symm⟩ (by omega) ?_ (fun w hl => Loc.linePush (ps := []) (p := ([(k : Int)], (some ⟨g1, 0, none⟩, 1))) (hl.drop1.toOwn (m := 1) (sz := 1) (fun h => h) rfl (by decide)))
      (repeat (first | exact subF_nil _ | (refine subF_cons rfl ?_) | (refine subF_consv rfl (by rfl) ?_)))
    · subst h0
      rw [List.concat_eq_append] at *
      have hlast : p.1.length ≤ k := linesTo_mem_len (n := k) (by rw [← hps, List.map_append]; exact List.mem_append_right _ (List.mem_singleton.2 rfl))
      rw [List.map_append] at hps
      simp only [List.map_cons, List.map_nil] at hps
      have hpl2 : (ps' ++ [p]).length = ps'.length + 1 := by simp
      have hon := linesTo_on hps.symm
      have hoff := linesTo_off hps.symm
      refine SX.knowI (fun w hl => rows_addr (hl.owns) (.head _) (by simp)) (fun ⟨gq, hgq⟩ => ?_)
      subst hgq
      have hv : ((ps' ++ [p]).map lineV)[0 + ps'.length]? = some (lineV p) := by
        rw [Nat.zero_add, List.map_append, List.getElem?_append_right (by simp)]; simp
      have hC := copyLine_any p.1 p.2.1 p.2.2
      repeat (first | refine SX.seq ?_ | refine SXl.nil ?_ | refine SX.region ?_ | refine SQ.thenNormal ?_ | refine SX.block ?_ | refine SX.skip ?_ | refine SX.condT rfl ?_ | (refine l_load ?_; (refine SXl.v (OpW.loadOwn (xs := (ps' ++ [p]).map lineV) 0 rfl rfl hv) rfl ?_ ?_ ?_); rfl; rfl) | (refine l_indexAddr ?_; (refine SXl.v ((OpW.indexAddr1 (i := ps'.length) (by omega) rfl (congrArg (fun i : Int => some (Value.int .i64 i)) (by omega : (((ps' ++ [p]).length : Nat) : Int) - 1 = ((ps'.length : Nat) : Int))))) rfl ?_ ?_ ?_); rfl; rfl) | (refine l_move ?_; (refine SXl.v (OpW.move rfl) rfl ?_ ?_ ?_); rfl; rfl) | (refine l_assign ?_; (refine SXl.v (OpW.assign rfl) rfl ?_ ?_ ?_); rfl; rfl) | (refine l_len ?_; (refine SXl.v (OpW.len rfl) rfl ?_ ?_ ?_); rfl; rfl) | (refine l_geq ?_; (refine SXl.v (OpW.geqT rfl rfl (by omega)) rfl ?_ ?_ ?_); rfl; rfl) | (refine l_lss ?_; (refine SXl.v (OpW.lssT rfl rfl (by omega)) rfl ?_ ?_ ?_); rfl; rfl) | (refine l_sub ?_; (refine SXl.v (OpW.subi rfl rfl (by omega) (by omega)) rfl ?_ ?_ ?_); rfl; rfl))
      refine l_call ?_
      refine SXl.callO rfl rfl rfl (fun w' hl => hC _ w' (by omega) (lineO_slice hl.owns (List.mem_cons_of_mem _ (List.mem_map.2 ⟨p, List.mem_append_right _ (List.mem_singleton.2 rfl), rfl⟩)))) (fun qn _ => ?_)
      simp only [List.cons_append, List.nil_append]
      repeat (first | (refine l_move ?_; (refine SXl.v (OpW.move rfl) rfl ?_ ?_ ?_); rfl; rfl) | (refine l_buildSlice ?_; first | (refine SXl.lit1 ?_ ?_ rfl rfl rfl (fun g => ?_); rfl; rfl) | (refine SXl.lit0 ?_ ?_ (fun _ h => h) rfl (fun g => ?_); rfl; rfl)))
      refine l_append ?_
      refine SXl.append (n0 := p.1.length) (xs := (p.1.map icell).flatten) 0 0 rfl rfl rfl rfl rfl rfl rfl rfl (by omega) (by omega) (fun a1 c1 => ?_)
      simp only [List.set_cons_zero]
      rw [line_grown]
      have hLI := hI (p.1 ++ [(k : Int)]) a1 c1
      rw [List.length_append, List.length_singleton] at hLI
      have hll := lineIt_len l (p.1 ++ [(k : Int)])
      rw [List.length_append, List.length_singleton] at hll
      have hlf := lineIt_fits (ln := p.1 ++ [(k : Int)]) hf
      repeat (first | refine SX.seq ?_ | refine SXl.nil ?_ | refine SX.region ?_ | refine SQ.thenNormal ?_ | (refine l_move ?_; (refine SXl.v (OpW.move rfl) rfl ?_ ?_ ?_); rfl; rfl) | (refine l_assign ?_; (refine SXl.v (OpW.assign rfl) rfl ?_ ?_ ?_); rfl; rfl))
      refine l_call ?_
      refine SXl.calln1 (v := fun q => .slice q.a (lineIt l (p.1 ++ [(k : Int)])).length q.c) (F1 := ownRes Item.cells 36 9 (lineIt l (p.1 ++ [(k : Int)]))) rfl rfl rfl (fun w' hl => (hLI _ w' hl.mod (by omega) (lineO_slice hl.owns (.head _))).mono fun _ _ h => new_own h) (fun q1 => ?_)
      generalize lineIt l (p.1 ++ [(k : Int)]) = li at *
      repeat (first | refine SX.seq ?_ | refine SXl.nil ?_ | refine SX.region ?_ | refine SQ.thenNormal ?_ | refine SX.condT rfl ?_ | (refine SXl.no rfl rfl rfl ?_) | (refine l_indexAddr ?_; (refine SXl.v ((OpW.indexAddr1 (i := ps'.length) (by omega) rfl (congrArg (fun i : Int => some (Value.int .i64 i)) (by omega : (((ps' ++ [p]).length : Nat) : Int) - 1 = ((ps'.length : Nat) : Int))))) rfl ?_ ?_ ?_); rfl; rfl) | (refine l_move ?_; (refine SXl.v (OpW.move rfl) rfl ?_ ?_ ?_); rfl; rfl) | (refine l_assign ?_; (refine SXl.v (OpW.assign rfl) rfl ?_ ?_ ?_); rfl; rfl) | (refine l_pick ?_; (refine SXl.v (OpW.pick rfl rfl rfl) rfl ?_ ?_ ?_); rfl; rfl))
      refine l_store ?_
      refine SXl.storeOwn (xs := (ps' ++ [p]).map lineV) 1 rfl rfl rfl rfl (by simp) rfl rfl ?_
      simp only [List.set_cons_zero, List.set_cons_succ]
      repeat (first | refine SXl.nil ?_ | refine SX.region ?_ | refine SQ.thenNormal ?_ | (refine l_move ?_; (refine SXl.v (OpW.move rfl) rfl ?_ ?_ ?_); rfl; rfl) | (refine l_add ?_; (refine SXl.v (OpW.succ rfl rfl (by omega)) rfl ?_ ?_ ?_); rfl; rfl) | refine SX.exit ?_ | refine SQ.thenExit ?_ | refine SQ.blockExit ?_)
      refine SQ.round3 (k + 1) ⟨ps' ++ [(p.1 ++ [(k : Int)], (a1, c1))], some ⟨gq, 0, none⟩, qc⟩ () ⟨by omega, by rw [List.map_append, hon (.inl rfl)]; rfl⟩ (by omega) ?_ (fun w hl => ?_)
      · (repeat (first | exact subF_nil _ | (refine subF_cons rfl ?_) | (refine subF_consv rfl (by simp [LinesQ.v]) ?_)))
      · have hl2 := hl.drop1.dropE
        rw [line_v p.1 (k : Int) a1 c1] at hl2
        exact hl2.lineAnew
end Go.Proofs.Ytdohglcjjlmhhaa
namespace Go.Proofs.Ytdohglcjjlmhhaa
open Go.RowKit
set_option linter.unusedVariables false
set_option linter.unusedSimpArgs false

set_option maxRecDepth 100000 in
set_option maxHeartbeats 16000000 in
theorem slinesOf_any (l : List Item) (gap room : Int) (wraps : Bool) (a : Option Addr) (c : Nat) (R : Nat → Prop) (w : World) (hlen : l.length ≤ 1048570) (hf : ∀ x ∈ l, x.Fits) (hg : -2147483648 ≤ gap ∧ gap ≤ 2147483648) (h : ItemSlice R w a l) :
    Calls Try.prog 12 #[.slice a l.length c, .int .i64 gap, .int .i64 room, .bool wraps] w (NewLines (linesTo l gap room (oneLine l room wraps) l.length) w) := by
  refine calls_sx Try.func12 rfl rfl (fun a h1 h2 h3 => ((((Fr.nil h1 h2).arg (h3 3 _ rfl)).arg (h3 2 _ rfl)).arg (h3 1 _ rfl)).arg (h3 0 _ rfl)) ?_
  have hO := fun (w' : World) (hm : Mod (fun _ => False) w w') => sitemsOk_any l a c R w' (by omega) (h.flatKeep hm)
  have hI := fun (ln : List Int) (b : Option Addr) (d : Nat) (S : Nat → Prop) (w' : World) (hm : Mod (fun _ => False) w w') (hs : ln.length ≤ 1048576) (h' : IntSlice S w' b ln) => souter14_any l ln gap a b c d R S w' (by omega) hs hf hg (h.flatKeep hm) h'
  rcases oneLine_cases l room wraps with ⟨hw, he⟩ | ⟨hw, hr, he⟩ | ⟨hw, hr, hi, he⟩ | ⟨hw, hr, hi, he⟩
  all_goals rw [he]; subst hw
  rotate_left 3
  · rw [hi] at hO
    repeat (first | refine SX.seq ?_ | refine SXl.nil ?_ | refine SX.region ?_ | refine SQ.thenNormal ?_ | refine SX.block ?_ | (refine l_assign ?_; (refine SXl.v (OpW.assign rfl) rfl ?_ ?_ ?_); rfl; rfl) | (refine l_buildSlice ?_; first | (refine SXl.lit1 ?_ ?_ rfl rfl rfl (fun g => ?_); rfl; rfl) | (refine SXl.lit0 ?_ ?_ (fun _ h => h) rfl (fun g => ?_); rfl; rfl)))
    refine SX.loop3 (fun (k : Nat) (q : LinesQ) (_ : Unit) => k ≤ l.length ∧ q.ps.map (·.1) = linesTo l gap room false k) (fun k _ _ => l.length - k) (fun _ _ _ => []) (fun _ q _ => q.os) (fun _ _ _ => []) (fun k q _ => [(0, .slice a l.length c), (1, .int .i64 gap), (2, .int .i64 room), (3, .bool true), (9, q.v), (10, .int .i64 k)]) 0 ⟨[], _, _⟩ () ⟨Nat.zero_le _, rfl⟩ ?_ (fun w hl => hl) ?_
    · (repeat (first | exact subF_nil _ | (refine subF_cons rfl ?_) | (refine subF_consv rfl (by rfl) ?_)))
    rintro k ⟨ps, qa, qc⟩ _ ⟨hk, hps⟩
    simp only at hps
    simp only [LinesQ.v, LinesQ.os]
    have hpl : ps.length ≤ k := by
      have := congrArg List.length hps
      rw [List.length_map] at this
      rw [this]
      exact linesTo_len k
    by_cases hlt : k < l.length
    rotate_left
    · obtain rfl : k = l.length := by omega
      repeat (first | refine SX.seq ?_ | refine SXl.nil ?_ | refine SX.region ?_ | refine SQ.thenNormal ?_ | refine SX.condF rfl ?_ | (refine l_move ?_; (refine SXl.v (OpW.move rfl) rfl ?_ ?_ ?_); rfl; rfl) | (refine l_assign ?_; (refine SXl.v (OpW.assign rfl) rfl ?_ ?_ ?_); rfl; rfl) | (refine l_len ?_; (refine SXl.v (OpW.len rfl) rfl ?_ ?_ ?_); rfl; rfl) | (refine l_lss ?_; (refine SXl.v (OpW.lssF rfl rfl (by omega)) rfl ?_ ?_ ?_); rfl; rfl) | refine SX.ret ?_ | refine SX.exit ?_ | refine SQ.thenExit ?_ | refine SQ.blockExit ?_)
      refine SQ.body1 rfl rfl (fun w' hl => ⟨⟨ps, qa, qc⟩, rfl, hps, hl.owns, hl.mod⟩)
    rcases List.eq_nil_or_concat ps with h0 | ⟨ps', p, h0⟩
    · subst h0
      have hn := linesTo_first hps.symm
      repeat (first | refine SX.seq ?_ | refine SXl.nil ?_ | refine SX.region ?_ | refine SQ.thenNormal ?_ | refine SX.block ?_ | refine SX.skip ?_ | refine SX.condT rfl ?_ | refine SX.condF rfl ?_ | (refine l_move ?_; (refine SXl.v (OpW.move rfl) rfl ?_ ?_ ?_); rfl; rfl) | (refine l_assign ?_; (refine SXl.v (OpW.assign rfl) rfl ?_ ?_ ?_); rfl; rfl) | (refine l_len ?_; (refine SXl.v (OpW.len rfl) rfl ?_ ?_ ?_); rfl; rfl) | (refine l_add ?_; (refine SXl.v (OpW.succ rfl rfl (by omega)) rfl ?_ ?_ ?_); rfl; rfl) | (refine l_geq ?_; (refine SXl.v (OpW.geq rfl rfl) rfl ?_ ?_ ?_); rfl; rfl) | (refine l_lss ?_; (refine SXl.v (OpW.lssT rfl rfl (by omega)) rfl ?_ ?_ ?_); rfl; rfl) | (refine l_sub ?_; (refine SXl.v (OpW.subi rfl rfl (by omega) (by omega)) rfl ?_ ?_ ?_); rfl; rfl) | (refine l_buildSlice ?_; first | (refine SXl.lit1 ?_ ?_ rfl rfl rfl (fun g => ?_); rfl; rfl) | (refine SXl.lit0 ?_ ?_ (fun _ h => h) rfl (fun g => ?_); rfl; rfl)) | (refine l_append ?_; first | (refine SXl.append 0 0 rfl rfl rfl rfl rfl rfl rfl rfl (by omega) (by omega) (fun a c => ?_); simp only [List.set_cons_zero, List.set_cons_succ]) | (refine SXl.append 1 0 rfl rfl rfl rfl rfl rfl rfl rfl (by omega) (by omega) (fun a c => ?_); simp only [List.set_cons_zero, List.set_cons_succ])) | refine SQ.blockNormal ?_)
      rename_i g1
      refine SQ.round3 (k + 1) ⟨[([(k : Int)], (some ⟨g1, 0, none⟩, 1))], a, c⟩ () ⟨by omega, hn.symm⟩ (by omega) ?_ (fun w hl => Loc.linePush (ps := []) (p := ([(k : Int)], (some ⟨g1, 0, none⟩, 1))) (hl.drop1.toOwn (m := 1) (sz := 1) (fun h => h) rfl (by decide)))
      (repeat (first | exact subF_nil _ | (refine subF_cons rfl ?_) | (refine subF_consv rfl (by rfl) ?_)))
    · subst h0
      rw [List.concat_eq_append] at *
      have hlast : p.1.length ≤ k := linesTo_mem_len (n := k) (by rw [← hps, List.map_append]; exact List.mem_append_right _ (List.mem_singleton.2 rfl))
      rw [List.map_append] at hps
      simp only [List.map_cons, List.map_nil] at hps
      have hpl2 : (ps' ++ [p]).length = ps'.length + 1 := by simp
      have hon := linesTo_on hps.symm
      have hoff := linesTo_off hps.symm
      refine SX.knowI (fun w hl => rows_addr (hl.owns) (.head _) (by simp)) (fun ⟨gq, hgq⟩ => ?_)
      subst hgq
      have hv : ((ps' ++ [p]).map lineV)[0 + ps'.length]? = some (lineV p) := by
        rw [Nat.zero_add, List.map_append, List.getElem?_append_right (by simp)]; simp
      repeat (first | refine SX.seq ?_ | refine SXl.nil ?_ | refine SX.region ?_ | refine SQ.thenNormal ?_ | refine SX.block ?_ | refine SX.skip ?_ | refine SX.condT rfl ?_ | (refine l_load ?_; (refine SXl.v (OpW.loadOwn (xs := (ps' ++ [p]).map lineV) 1 rfl rfl hv) rfl ?_ ?_ ?_); rfl; rfl) | (refine l_indexAddr ?_; (refine SXl.v ((OpW.indexAddr1 (i := ps'.length) (by omega) rfl (congrArg (fun i : Int => some (Value.int .i64 i)) (by omega : (((ps' ++ [p]).length : Nat) : Int) - 1 = ((ps'.length : Nat) : Int))))) rfl ?_ ?_ ?_); rfl; rfl) | (refine l_move ?_; (refine SXl.v (OpW.move rfl) rfl ?_ ?_ ?_); rfl; rfl) | (refine l_assign ?_; (refine SXl.v (OpW.assign rfl) rfl ?_ ?_ ?_); rfl; rfl) | (refine l_len ?_; (refine SXl.v (OpW.len rfl) rfl ?_ ?_ ?_); rfl; rfl) | (refine l_geq ?_; (refine SXl.v (OpW.geqT rfl rfl (by omega)) rfl ?_ ?_ ?_); rfl; rfl) | (refine l_lss ?_; (refine SXl.v (OpW.lssT rfl rfl (by omega)) rfl ?_ ?_ ?_); rfl; rfl) | (refine l_sub ?_; (refine SXl.v (OpW.subi rfl rfl (by omega) (by omega)) rfl ?_ ?_ ?_); rfl; rfl) | (refine l_buildSlice ?_; first | (refine SXl.lit1 ?_ ?_ rfl rfl rfl (fun g => ?_); rfl; rfl) | (refine SXl.lit0 ?_ ?_ (fun _ h => h) rfl (fun g => ?_); rfl; rfl)))
      refine l_append ?_
      refine SXl.appendS (cs := icell) 0 p.1 rfl rfl rfl rfl rfl rfl (fun _ => rfl) icell_one0 (fun w' hl => ⟨_, lineO_slice hl.owns (List.mem_cons_of_mem _ (List.mem_cons_of_mem _ (List.mem_map.2 ⟨p, List.mem_append_right _ (List.mem_singleton.2 rfl), rfl⟩)))⟩) (by omega) (by omega) (fun a0 c0 => ?_)
      simp only [List.set_cons_zero, Nat.zero_add, List.nil_append]
      repeat (first | refine SX.seq ?_ | refine SXl.nil ?_ | refine SX.region ?_ | refine SQ.thenNormal ?_ | (refine l_move ?_; (refine SXl.v (OpW.move rfl) rfl ?_ ?_ ?_); rfl; rfl) | (refine l_assign ?_; (refine SXl.v (OpW.assign rfl) rfl ?_ ?_ ?_); rfl; rfl) | (refine l_lss ?_; (refine SXl.v (OpW.lssF rfl rfl (by omega)) rfl ?_ ?_ ?_); rfl; rfl) | (refine l_not ?_; (refine SXl.v (OpW.not rfl) rfl ?_ ?_ ?_); rfl; rfl) | (refine l_pick ?_; (refine SXl.v (OpW.pick rfl rfl rfl) rfl ?_ ?_ ?_); rfl; rfl) | (refine l_buildSlice ?_; first | (refine SXl.lit1 ?_ ?_ rfl rfl rfl (fun g => ?_); rfl; rfl) | (refine SXl.lit0 ?_ ?_ (fun _ h => h) rfl (fun g => ?_); rfl; rfl)) | (refine l_append ?_; first | (refine SXl.append 0 0 rfl rfl rfl rfl rfl rfl rfl rfl (by omega) (by omega) (fun a c => ?_); simp only [List.set_cons_zero, List.set_cons_succ]) | (refine SXl.append 1 0 rfl rfl rfl rfl rfl rfl rfl rfl (by omega) (by omega) (fun a c => ?_); simp only [List.set_cons_zero, List.set_cons_succ])))
      rw [line_grown]
      have hLI := hI (p.1 ++ [(k : Int)]) a c
      rw [List.length_append, List.length_singleton] at hLI
      generalize outerL l gap (p.1 ++ [(k : Int)]) = V at *
      by_cases hfit : V ≤ room
      · repeat (first | refine SX.seq ?_ | refine SXl.nil ?_ | refine SX.region ?_ | refine SQ.thenNormal ?_ | refine SX.condT rfl ?_ | (refine l_call ?_; (first | refine SXl.v (OpW.call rfl (fun w hl => hO _ hl.mod)) rfl ?_ ?_ ?_ | refine SXl.v (OpW.call rfl (fun w hl => hLI _ _ hl.mod (by omega) (lineO_slice hl.owns (.head _)))) rfl ?_ ?_ ?_); rfl; rfl) | (refine l_indexAddr ?_; (refine SXl.v ((OpW.indexAddr1 (i := ps'.length) (by omega) rfl (congrArg (fun i : Int => some (Value.int .i64 i)) (by omega : (((ps' ++ [p]).length : Nat) : Int) - 1 = ((ps'.length : Nat) : Int))))) rfl ?_ ?_ ?_); rfl; rfl) | (refine l_move ?_; (refine SXl.v (OpW.move rfl) rfl ?_ ?_ ?_); rfl; rfl) | (refine l_leq ?_; (refine SXl.v (OpW.leqT rfl rfl (by omega)) rfl ?_ ?_ ?_); rfl; rfl) | (refine l_not ?_; (refine SXl.v (OpW.not rfl) rfl ?_ ?_ ?_); rfl; rfl) | (refine l_pick ?_; (refine SXl.v (OpW.pick rfl rfl rfl) rfl ?_ ?_ ?_); rfl; rfl))
        refine l_store ?_
        refine SXl.storeOwn (xs := (ps' ++ [p]).map lineV) 1 rfl rfl rfl rfl (by simp) rfl rfl ?_
        simp only [List.set_cons_zero, List.set_cons_succ]
        repeat (first | refine SXl.nil ?_ | refine SX.region ?_ | refine SQ.thenNormal ?_ | (refine l_move ?_; (refine SXl.v (OpW.move rfl) rfl ?_ ?_ ?_); rfl; rfl) | (refine l_assign ?_; (refine SXl.v (OpW.assign rfl) rfl ?_ ?_ ?_); rfl; rfl) | (refine l_add ?_; (refine SXl.v (OpW.succ rfl rfl (by omega)) rfl ?_ ?_ ?_); rfl; rfl) | refine SX.exit ?_ | refine SQ.thenExit ?_ | refine SQ.blockExit ?_)
        refine SQ.round3 (k + 1) ⟨ps' ++ [(p.1 ++ [(k : Int)], (a, c))], some ⟨gq, 0, none⟩, qc⟩ () ⟨by omega, by rw [List.map_append, hon (.inr hfit)]; rfl⟩ (by omega) ?_ (fun w hl => ?_)
        · (repeat (first | exact subF_nil _ | (refine subF_cons rfl ?_) | (refine subF_consv rfl (by simp [LinesQ.v]) ?_)))
        · have hl2 := hl.drop1
          rw [line_v p.1 (k : Int) a c] at hl2
          exact hl2.lineAnew
      · repeat (first | refine SXl.nil ?_ | refine SX.region ?_ | refine SQ.thenNormal ?_ | refine SX.skip ?_ | refine SX.condF rfl ?_ | (refine l_call ?_; (first | refine SXl.v (OpW.call rfl (fun w hl => hO _ hl.mod)) rfl ?_ ?_ ?_ | refine SXl.v (OpW.call rfl (fun w hl => hLI _ _ hl.mod (by omega) (lineO_slice hl.owns (.head _)))) rfl ?_ ?_ ?_); rfl; rfl) | (refine l_move ?_; (refine SXl.v (OpW.move rfl) rfl ?_ ?_ ?_); rfl; rfl) | (refine l_assign ?_; (refine SXl.v (OpW.assign rfl) rfl ?_ ?_ ?_); rfl; rfl) | (refine l_add ?_; (refine SXl.v (OpW.succ rfl rfl (by omega)) rfl ?_ ?_ ?_); rfl; rfl) | (refine l_leq ?_; (refine SXl.v (OpW.leqF rfl rfl (by omega)) rfl ?_ ?_ ?_); rfl; rfl) | (refine l_not ?_; (refine SXl.v (OpW.not rfl) rfl ?_ ?_ ?_); rfl; rfl) | (refine l_pick ?_; (refine SXl.v (OpW.pick rfl rfl rfl) rfl ?_ ?_ ?_); rfl; rfl) | (refine l_buildSlice ?_; first | (refine SXl.lit1 ?_ ?_ rfl rfl rfl (fun g => ?_); rfl; rfl) | (refine SXl.lit0 ?_ ?_ (fun _ h => h) rfl (fun g => ?_); rfl; rfl)) | (refine l_append ?_; first | (refine SXl.append 0 0 rfl rfl rfl rfl rfl rfl rfl rfl (by omega) (by omega) (fun a c => ?_); simp only [List.set_cons_zero, List.set_cons_succ]) | (refine SXl.append 1 0 rfl rfl rfl rfl rfl rfl rfl rfl (by omega) (by omega) (fun a c => ?_); simp only [List.set_cons_zero, List.set_cons_succ])) | refine SQ.blockNormal ?_)
        rename_i g1
        refine SQ.round3 (k + 1) ⟨ps' ++ [p] ++ [([(k : Int)], (some ⟨g1, 0, none⟩, 1))], a, c⟩ () ⟨by omega, by rw [List.map_append, List.map_append, hoff (by rintro (hc | hc); cases hc; exact hfit hc)]; rfl⟩ (by omega) ?_ (fun w hl => ?_)
        · (repeat (first | exact subF_nil _ | (refine subF_cons rfl ?_) | (refine subF_consv rfl (by simp [LinesQ.v]) ?_)))
        · have hl2 := (hl.drop1.toOwn (m := 1) (sz := 1) (fun h => h) rfl (by decide)).drop1
          exact Loc.linePush (ps := ps' ++ [p]) (p := ([(k : Int)], (some ⟨g1, 0, none⟩, 1))) (hl2.ownSub (List.Sublist.cons_cons _ (List.sublist_cons_self _ _)))
  · try rw [hi] at hO
    repeat (first | refine SX.seq ?_ | refine SXl.nil ?_ | refine SX.region ?_ | refine SQ.thenNormal ?_ | refine SX.block ?_ | (refine l_assign ?_; (refine SXl.v (OpW.assign rfl) rfl ?_ ?_ ?_); rfl; rfl) | (refine l_buildSlice ?_; first | (refine SXl.lit1 ?_ ?_ rfl rfl rfl (fun g => ?_); rfl; rfl) | (refine SXl.lit0 ?_ ?_ (fun _ h => h) rfl (fun g => ?_); rfl; rfl)))
    refine SX.loop3 (fun (k : Nat) (q : LinesQ) (_ : Unit) => k ≤ l.length ∧ q.ps.map (·.1) = linesTo l gap room true k) (fun k _ _ => l.length - k) (fun _ _ _ => []) (fun _ q _ => q.os) (fun _ _ _ => []) (fun k q _ => [(0, .slice a l.length c), (1, .int .i64 gap), (2, .int .i64 room), (3, .bool false), (9, q.v), (10, .int .i64 k)]) 0 ⟨[], _, _⟩ () ⟨Nat.zero_le _, rfl⟩ ?_ (fun w hl => hl) ?_
    · (repeat (first | exact subF_nil _ | (refine subF_cons rfl ?_) | (refine subF_consv rfl (by rfl) ?_)))
    rintro k ⟨ps, qa, qc⟩ _ ⟨hk, hps⟩
    simp only at hps
    simp only [LinesQ.v, LinesQ.os]
    have hpl : ps.length ≤ k := by
      have := congrArg List.length hps
      rw [List.length_map] at this
      rw [this]
      exact linesTo_len k
    by_cases hlt : k < l.length
    rotate_left
    · obtain rfl : k = l.length := by omega
      repeat (first | refine SX.seq ?_ | refine SXl.nil ?_ | refine SX.region ?_ | refine SQ.thenNormal ?_ | refine SX.condF rfl ?_ | (refine l_move ?_; (refine SXl.v (OpW.move rfl) rfl ?_ ?_ ?_); rfl; rfl) | (refine l_assign ?_; (refine SXl.v (OpW.assign rfl) rfl ?_ ?_ ?_); rfl; rfl) | (refine l_len ?_; (refine SXl.v (OpW.len rfl) rfl ?_ ?_ ?_); rfl; rfl) | (refine l_lss ?_; (refine SXl.v (OpW.lssF rfl rfl (by omega)) rfl ?_ ?_ ?_); rfl; rfl) | refine SX.ret ?_ | refine SX.exit ?_ | refine SQ.thenExit ?_ | refine SQ.blockExit ?_)
      refine SQ.body1 rfl rfl (fun w' hl => ⟨⟨ps, qa, qc⟩, rfl, hps, hl.owns, hl.mod⟩)
    rcases List.eq_nil_or_concat ps with h0 | ⟨ps', p, h0⟩
    · subst h0
      have hn := linesTo_first hps.symm
      repeat (first | refine SX.seq ?_ | refine SXl.nil ?_ | refine SX.region ?_ | refine SQ.thenNormal ?_ | refine SX.block ?_ | refine SX.skip ?_ | refine SX.condT rfl ?_ | refine SX.condF rfl ?_ | (refine l_move ?_; (refine SXl.v (OpW.move rfl) rfl ?_ ?_ ?_); rfl; rfl) | (refine l_assign ?_; (refine SXl.v (OpW.assign rfl) rfl ?_ ?_ ?_); rfl; rfl) | (refine l_len ?_; (refine SXl.v (OpW.len rfl) rfl ?_ ?_ ?_); rfl; rfl) | (refine l_add ?_; (refine SXl.v (OpW.succ rfl rfl (by omega)) rfl ?_ ?_ ?_); rfl; rfl) | (refine l_geq ?_; (refine SXl.v (OpW.geq rfl rfl) rfl ?_ ?_ ?_); rfl; rfl) | (refine l_lss ?_; (refine SXl.v (OpW.lssT rfl rfl (by omega)) rfl ?_ ?_ ?_); rfl; rfl) | (refine l_sub ?_; (refine SXl.v (OpW.subi rfl rfl (by omega) (by omega)) rfl ?_ ?_ ?_); rfl; rfl) | (refine l_buildSlice ?_; first | (refine SXl.lit1 ?_ ?_ rfl rfl rfl (fun g => ?_); rfl; rfl) | (refine SXl.lit0 ?_ ?_ (fun _ h => h) rfl (fun g => ?_); rfl; rfl)) | (refine l_append ?_; first | (refine SXl.append 0 0 rfl rfl rfl rfl rfl rfl rfl rfl (by omega) (by omega) (fun a c => ?_); simp only [List.set_cons_zero, List.set_cons_succ]) | (refine SXl.append 1 0 rfl rfl rfl rfl rfl rfl rfl rfl (by omega) (by omega) (fun a c => ?_); simp only [List.set_cons_zero, List.set_cons_succ])) | refine SQ.blockNormal ?_)
      rename_i g1
      refine SQ.round3 (k + 1) ⟨[([(k : Int)], (some ⟨g1, 0, none⟩, 1))], a, c⟩ () ⟨by omega, hn.symm⟩ (by omega) ?_ (fun w hl => Loc.linePush (ps := []) (p := ([(k : Int)], (some ⟨g1, 0, none⟩, 1))) (hl.drop1.toOwn (m := 1) (sz := 1) (fun h => h) rfl (by decide)))
      (repeat (first | exact subF_nil _ | (refine subF_cons rfl ?_) | (refine subF_consv rfl (by rfl) ?_)))
    · subst h0
      rw [List.concat_eq_append] at *
      have hlast : p.1.length ≤ k := linesTo_mem_len (n := k) (by rw [← hps, List.map_append]; exact List.mem_append_right _ (List.mem_singleton.2 rfl))
      rw [List.map_append] at hps
      simp only [List.map_cons, List.map_nil] at hps
      have hpl2 : (ps' ++ [p]).length = ps'.length + 1 := by simp
      have hon := linesTo_on hps.symm
      have hoff := linesTo_off hps.symm
      refine SX.knowI (fun w hl => rows_addr (hl.owns) (.head _) (by simp)) (fun ⟨gq, hgq⟩ => ?_)
      subst hgq
      have hv : ((ps' ++ [p]).map lineV)[0 + ps'.length]? = some (lineV p) := by
        rw [Nat.zero_add, List.map_append, List.getElem?_append_right (by simp)]; simp
      repeat (first | refine SX.seq ?_ | refine SXl.nil ?_ | refine SX.region ?_ | refine SQ.thenNormal ?_ | refine SX.block ?_ | refine SX.skip ?_ | refine SX.condT rfl ?_ | (refine l_load ?_; (refine SXl.v (OpW.loadOwn (xs := (ps' ++ [p]).map lineV) 1 rfl rfl hv) rfl ?_ ?_ ?_); rfl; rfl) | (refine l_indexAddr ?_; (refine SXl.v ((OpW.indexAddr1 (i := ps'.length) (by omega) rfl (congrArg (fun i : Int => some (Value.int .i64 i)) (by omega : (((ps' ++ [p]).length : Nat) : Int) - 1 = ((ps'.length : Nat) : Int))))) rfl ?_ ?_ ?_); rfl; rfl) | (refine l_move ?_; (refine SXl.v (OpW.move rfl) rfl ?_ ?_ ?_); rfl; rfl) | (refine l_assign ?_; (refine SXl.v (OpW.assign rfl) rfl ?_ ?_ ?_); rfl; rfl) | (refine l_len ?_; (refine SXl.v (OpW.len rfl) rfl ?_ ?_ ?_); rfl; rfl) | (refine l_geq ?_; (refine SXl.v (OpW.geqT rfl rfl (by omega)) rfl ?_ ?_ ?_); rfl; rfl) | (refine l_lss ?_; (refine SXl.v (OpW.lssT rfl rfl (by omega)) rfl ?_ ?_ ?_); rfl; rfl) | (refine l_sub ?_; (refine SXl.v (OpW.subi rfl rfl (by omega) (by omega)) rfl ?_ ?_ ?_); rfl; rfl) | (refine l_buildSlice ?_; first | (refine SXl.lit1 ?_ ?_ rfl rfl rfl (fun g => ?_); rfl; rfl) | (refine SXl.lit0 ?_ ?_ (fun _ h => h) rfl (fun g => ?_); rfl; rfl)))
      refine l_append ?_
      refine SXl.appendS (cs := icell) 0 p.1 rfl rfl rfl rfl rfl rfl (fun _ => rfl) icell_one0 (fun w' hl => ⟨_, lineO_slice hl.owns (List.mem_cons_of_mem _ (List.mem_cons_of_mem _ (List.mem_map.2 ⟨p, List.mem_append_right _ (List.mem_singleton.2 rfl), rfl⟩)))⟩) (by omega) (by omega) (fun a0 c0 => ?_)
      simp only [List.set_cons_zero, Nat.zero_add, List.nil_append]
      repeat (first | refine SX.seq ?_ | refine SXl.nil ?_ | refine SX.region ?_ | refine SQ.thenNormal ?_ | refine SX.condT rfl ?_ | (refine SXl.no rfl rfl rfl ?_) | (refine l_move ?_; (refine SXl.v (OpW.move rfl) rfl ?_ ?_ ?_); rfl; rfl) | (refine l_assign ?_; (refine SXl.v (OpW.assign rfl) rfl ?_ ?_ ?_); rfl; rfl) | (refine l_not ?_; (refine SXl.v (OpW.not rfl) rfl ?_ ?_ ?_); rfl; rfl) | (refine l_pick ?_; (refine SXl.v (OpW.pick rfl rfl rfl) rfl ?_ ?_ ?_); rfl; rfl) | (refine l_buildSlice ?_; first | (refine SXl.lit1 ?_ ?_ rfl rfl rfl (fun g => ?_); rfl; rfl) | (refine SXl.lit0 ?_ ?_ (fun _ h => h) rfl (fun g => ?_); rfl; rfl)) | (refine l_append ?_; first | (refine SXl.append 0 0 rfl rfl rfl rfl rfl rfl rfl rfl (by omega) (by omega) (fun a c => ?_); simp only [List.set_cons_zero, List.set_cons_succ]) | (refine SXl.append 1 0 rfl rfl rfl rfl rfl rfl rfl rfl (by omega) (by omega) (fun a c => ?_); simp only [List.set_cons_zero, List.set_cons_succ])))
      rw [line_grown]
      have hLI := hI (p.1 ++ [(k : Int)]) a c
      rw [List.length_append, List.length_singleton] at hLI
      repeat ((refine l_indexAddr ?_; (refine SXl.v ((OpW.indexAddr1 (i := ps'.length) (by omega) rfl (congrArg (fun i : Int => some (Value.int .i64 i)) (by omega : (((ps' ++ [p]).length : Nat) : Int) - 1 = ((ps'.length : Nat) : Int))))) rfl ?_ ?_ ?_); rfl; rfl))
      refine l_store ?_
      refine SXl.storeOwn (xs := (ps' ++ [p]).map lineV) 1 rfl rfl rfl rfl (by simp) rfl rfl ?_
      simp only [List.set_cons_zero, List.set_cons_succ]
      repeat (first | refine SXl.nil ?_ | refine SX.region ?_ | refine SQ.thenNormal ?_ | (refine l_move ?_; (refine SXl.v (OpW.move rfl) rfl ?_ ?_ ?_); rfl; rfl) | (refine l_assign ?_; (refine SXl.v (OpW.assign rfl) rfl ?_ ?_ ?_); rfl; rfl) | (refine l_add ?_; (refine SXl.v (OpW.succ rfl rfl (by omega)) rfl ?_ ?_ ?_); rfl; rfl) | refine SX.exit ?_ | refine SQ.thenExit ?_ | refine SQ.blockExit ?_)
      refine SQ.round3 (k + 1) ⟨ps' ++ [(p.1 ++ [(k : Int)], (a, c))], some ⟨gq, 0, none⟩, qc⟩ () ⟨by omega, by rw [List.map_append, hon (.inl rfl)]; rfl⟩ (by omega) ?_ (fun w hl => ?_)
      · (repeat (first | exact subF_nil _ | (refine subF_cons rfl ?_) | (refine subF_consv rfl (by simp [LinesQ.v]) ?_)))
      · have hl2 := hl.drop1
        rw [line_v p.1 (k : Int) a c] at hl2
        exact hl2.lineAnew
  · try rw [hi] at hO
    repeat (first | refine SX.seq ?_ | refine SXl.nil ?_ | refine SX.region ?_ | refine SQ.thenNormal ?_ | refine SX.block ?_ | (refine l_assign ?_; (refine SXl.v (OpW.assign rfl) rfl ?_ ?_ ?_); rfl; rfl) | (refine l_buildSlice ?_; first | (refine SXl.lit1 ?_ ?_ rfl rfl rfl (fun g => ?_); rfl; rfl) | (refine SXl.lit0 ?_ ?_ (fun _ h => h) rfl (fun g => ?_); rfl; rfl)))
    refine SX.loop3 (fun (k : Nat) (q : LinesQ) (_ : Unit) => k ≤ l.length ∧ q.ps.map (·.1) = linesTo l gap room true k) (fun k _ _ => l.length - k) (fun _ _ _ => []) (fun _ q _ => q.os) (fun _ _ _ => []) (fun k q _ => [(0, .slice a l.length c), (1, .int .i64 gap), (2, .int .i64 room), (3, .bool true), (9, q.v), (10, .int .i64 k)]) 0 ⟨[], _, _⟩ () ⟨Nat.zero_le _, rfl⟩ ?_ (fun w hl => hl) ?_
    · (repeat (first | exact subF_nil _ | (refine subF_cons rfl ?_) | (refine subF_consv rfl (by rfl) ?_)))
    rintro k ⟨ps, qa, qc⟩ _ ⟨hk, hps⟩
    simp only at hps
    simp only [LinesQ.v, LinesQ.os]
    have hpl : ps.length ≤ k := by
      have := congrArg List.length hps
      rw [List.length_map] at this
      rw [this]
      exact linesTo_len k
    by_cases hlt : k < l.length
    rotate_left
    · obtain rfl : k = l.length := by omega
      repeat (first | refine SX.seq ?_ | refine SXl.nil ?_ | refine SX.region ?_ | refine SQ.thenNormal ?_ | refine SX.condF rfl ?_ | (refine l_move ?_; (refine SXl.v (OpW.move rfl) rfl ?_ ?_ ?_); rfl; rfl) | (refine l_assign ?_; (refine SXl.v (OpW.assign rfl) rfl ?_ ?_ ?_); rfl; rfl) | (refine l_len ?_; (refine SXl.v (OpW.len rfl) rfl ?_ ?_ ?_); rfl; rfl) | (refine l_lss ?_; (refine SXl.v (OpW.lssF rfl rfl (by omega)) rfl ?_ ?_ ?_); rfl; rfl) | refine SX.ret ?_ | refine SX.exit ?_ | refine SQ.thenExit ?_ | refine SQ.blockExit ?_)
      refine SQ.body1 rfl rfl (fun w' hl => ⟨⟨ps, qa, qc⟩, rfl, hps, hl.owns, hl.mod⟩)
    rcases List.eq_nil_or_concat ps with h0 | ⟨ps', p, h0⟩
    · subst h0
      have hn := linesTo_first hps.symm
      repeat (first | refine SX.seq ?_ | refine SXl.nil ?_ | refine SX.region ?_ | refine SQ.thenNormal ?_ | refine SX.block ?_ | refine SX.skip ?_ | refine SX.condT rfl ?_ | refine SX.condF rfl ?_ | (refine l_move ?_; (refine SXl.v (OpW.move rfl) rfl ?_ ?_ ?_); rfl; rfl) | (refine l_assign ?_; (refine SXl.v (OpW.assign rfl) rfl ?_ ?_ ?_); rfl; rfl) | (refine l_len ?_; (refine SXl.v (OpW.len rfl) rfl ?_ ?_ ?_); rfl; rfl) | (refine l_add ?_; (refine SXl.v (OpW.succ rfl rfl (by omega)) rfl ?_ ?_ ?_); rfl; rfl) | (refine l_geq ?_; (refine SXl.v (OpW.geq rfl rfl) rfl ?_ ?_ ?_); rfl; rfl) | (refine l_lss ?_; (refine SXl.v (OpW.lssT rfl rfl (by omega)) rfl ?_ ?_ ?_); rfl; rfl) | (refine l_sub ?_; (refine SXl.v (OpW.subi rfl rfl (by omega) (by omega)) rfl ?_ ?_ ?_); rfl; rfl) | (refine l_buildSlice ?_; first | (refine SXl.lit1 ?_ ?_ rfl rfl rfl (fun g => ?_); rfl; rfl) | (refine SXl.lit0 ?_ ?_ (fun _ h => h) rfl (fun g => ?_); rfl; rfl)) | (refine l_append ?_; first | (refine SXl.append 0 0 rfl rfl rfl rfl rfl rfl rfl rfl (by omega) (by omega) (fun a c => ?_); simp only [List.set_cons_zero, List.set_cons_succ]) | (refine SXl.append 1 0 rfl rfl rfl rfl rfl rfl rfl rfl (by omega) (by omega) (fun a c => ?_); simp only [List.set_cons_zero, List.set_cons_succ])) | refine SQ.blockNormal ?_)
      rename_i g1
      refine SQ.round3 (k + 1) ⟨[([(k : Int)], (some ⟨g1, 0, none⟩, 1))], a, c⟩ () ⟨by omega, hn.symm⟩ (by omega) ?_ (fun w hl => Loc.linePush (ps := []) (p := ([(k : Int)], (some ⟨g1, 0, none⟩, 1))) (hl.drop1.toOwn (m := 1) (sz := 1) (fun h => h) rfl (by decide)))
      (repeat (first | exact subF_nil _ | (refine subF_cons rfl ?_) | (refine subF_consv rfl (by rfl) ?_)))
    · subst h0
      rw [List.concat_eq_append] at *
      have hlast : p.1.length ≤ k := linesTo_mem_len (n := k) (by rw [← hps, List.map_append]; exact List.mem_append_right _ (List.mem_singleton.2 rfl))
      rw [List.map_append] at hps
      simp only [List.map_cons, List.map_nil] at hps
      have hpl2 : (ps' ++ [p]).length = ps'.length + 1 := by simp
      have hon := linesTo_on hps.symm
      have hoff := linesTo_off hps.symm
      refine SX.knowI (fun w hl => rows_addr (hl.owns) (.head _) (by simp)) (fun ⟨gq, hgq⟩ => ?_)
      subst hgq
      have hv : ((ps' ++ [p]).map lineV)[0 + ps'.length]? = some (lineV p) := by
        rw [Nat.zero_add, List.map_append, List.getElem?_append_right (by simp)]; simp
      repeat (first | refine SX.seq ?_ | refine SXl.nil ?_ | refine SX.region ?_ | refine SQ.thenNormal ?_ | refine SX.block ?_ | refine SX.skip ?_ | refine SX.condT rfl ?_ | (refine l_load ?_; (refine SXl.v (OpW.loadOwn (xs := (ps' ++ [p]).map lineV) 1 rfl rfl hv) rfl ?_ ?_ ?_); rfl; rfl) | (refine l_indexAddr ?_; (refine SXl.v ((OpW.indexAddr1 (i := ps'.length) (by omega) rfl (congrArg (fun i : Int => some (Value.int .i64 i)) (by omega : (((ps' ++ [p]).length : Nat) : Int) - 1 = ((ps'.length : Nat) : Int))))) rfl ?_ ?_ ?_); rfl; rfl) | (refine l_move ?_; (refine SXl.v (OpW.move rfl) rfl ?_ ?_ ?_); rfl; rfl) | (refine l_assign ?_; (refine SXl.v (OpW.assign rfl) rfl ?_ ?_ ?_); rfl; rfl) | (refine l_len ?_; (refine SXl.v (OpW.len rfl) rfl ?_ ?_ ?_); rfl; rfl) | (refine l_geq ?_; (refine SXl.v (OpW.geqT rfl rfl (by omega)) rfl ?_ ?_ ?_); rfl; rfl) | (refine l_lss ?_; (refine SXl.v (OpW.lssT rfl rfl (by omega)) rfl ?_ ?_ ?_); rfl; rfl) | (refine l_sub ?_; (refine SXl.v (OpW.subi rfl rfl (by omega) (by omega)) rfl ?_ ?_ ?_); rfl; rfl) | (refine l_buildSlice ?_; first | (refine SXl.lit1 ?_ ?_ rfl rfl rfl (fun g => ?_); rfl; rfl) | (refine SXl.lit0 ?_ ?_ (fun _ h => h) rfl (fun g => ?_); rfl; rfl)))
      refine l_append ?_
      refine SXl.appendS (cs := icell) 0 p.1 rfl rfl rfl rfl rfl rfl (fun _ => rfl) icell_one0 (fun w' hl => ⟨_, lineO_slice hl.owns (List.mem_cons_of_mem _ (List.mem_cons_of_mem _ (List.mem_map.2 ⟨p, List.mem_append_right _ (List.mem_singleton.2 rfl), rfl⟩)))⟩) (by omega) (by omega) (fun a0 c0 => ?_)
      simp only [List.set_cons_zero, Nat.zero_add, List.nil_append]
      repeat (first | refine SX.seq ?_ | refine SXl.nil ?_ | refine SX.region ?_ | refine SQ.thenNormal ?_ | refine SX.condT rfl ?_ | (refine SXl.no rfl rfl rfl ?_) | (refine l_move ?_; (refine SXl.v (OpW.move rfl) rfl ?_ ?_ ?_); rfl; rfl) | (refine l_assign ?_; (refine SXl.v (OpW.assign rfl) rfl ?_ ?_ ?_); rfl; rfl) | (refine l_lss ?_; (refine SXl.v (OpW.lssT rfl rfl (by omega)) rfl ?_ ?_ ?_); rfl; rfl) | (refine l_not ?_; (refine SXl.v (OpW.not rfl) rfl ?_ ?_ ?_); rfl; rfl) | (refine l_pick ?_; (refine SXl.v (OpW.pick rfl rfl rfl) rfl ?_ ?_ ?_); rfl; rfl) | (refine l_buildSlice ?_; first | (refine SXl.lit1 ?_ ?_ rfl rfl rfl (fun g => ?_); rfl; rfl) | (refine SXl.lit0 ?_ ?_ (fun _ h => h) rfl (fun g => ?_); rfl; rfl)) | (refine l_append ?_; first | (refine SXl.append 0 0 rfl rfl rfl rfl rfl rfl rfl rfl (by omega) (by omega) (fun a c => ?_); simp only [List.set_cons_zero, List.set_cons_succ]) | (refine SXl.append 1 0 rfl rfl rfl rfl rfl rfl rfl rfl (by omega) (by omega) (fun a c => ?_); simp only [List.set_cons_zero, List.set_cons_succ])))
      rw [line_grown]
      have hLI := hI (p.1 ++ [(k : Int)]) a c
      rw [List.length_append, List.length_singleton] at hLI
      repeat ((refine l_indexAddr ?_; (refine SXl.v ((OpW.indexAddr1 (i := ps'.length) (by omega) rfl (congrArg (fun i : Int => some (Value.int .i64 i)) (by omega : (((ps' ++ [p]).length : Nat) : Int) - 1 = ((ps'.length : Nat) : Int))))) rfl ?_ ?_ ?_); rfl; rfl))
      refine l_store ?_
      refine SXl.storeOwn (xs := (ps' ++ [p]).map lineV) 1 rfl rfl rfl rfl (by simp) rfl rfl ?_
      simp only [List.set_cons_zero, List.set_cons_succ]
      repeat (first | refine SXl.nil ?_ | refine SX.region ?_ | refine SQ.thenNormal ?_ | (refine l_move ?_; (refine SXl.v (OpW.move rfl) rfl ?_ ?_ ?_); rfl; rfl) | (refine l_assign ?_; (refine SXl.v (OpW.assign rfl) rfl ?_ ?_ ?_); rfl; rfl) | (refine l_add ?_; (refine SXl.v (OpW.succ rfl rfl (by omega)) rfl ?_ ?_ ?_); rfl; rfl) | refine SX.exit ?_ | refine SQ.thenExit ?_ | refine SQ.blockExit ?_)
      refine SQ.round3 (k + 1) ⟨ps' ++ [(p.1 ++ [(k : Int)], (a, c))], some ⟨gq, 0, none⟩, qc⟩ () ⟨by omega, by rw [List.map_append, hon (.inl rfl)]; rfl⟩ (by omega) ?_ (fun w hl => ?_)
      · (repeat (first | exact subF_nil _ | (refine subF_cons rfl ?_) | (refine subF_consv rfl (by simp [LinesQ.v]) ?_)))
      · have hl2 := hl.drop1
        rw [line_v p.1 (k : Int) a c] at hl2
        exact hl2.lineAnew
  · try rw [hi] at hO
    repeat (first | refine SX.seq ?_ | refine SXl.nil ?_ | refine SX.region ?_ | refine SQ.thenNormal ?_ | refine SX.block ?_ | (refine l_assign ?_; (refine SXl.v (OpW.assign rfl) rfl ?_ ?_ ?_); rfl; rfl) | (refine l_buildSlice ?_; first | (refine SXl.lit1 ?_ ?_ rfl rfl rfl (fun g => ?_); rfl; rfl) | (refine SXl.lit0 ?_ ?_ (fun _ h => h) rfl (fun g => ?_); rfl; rfl)))
    refine SX.loop3 (fun (k : Nat) (q : LinesQ) (_ : Unit) => k ≤ l.length ∧ q.ps.map (·.1) = linesTo l gap room true k) (fun k _ _ => l.length - k) (fun _ _ _ => []) (fun _ q _ => q.os) (fun _ _ _ => []) (fun k q _ => [(0, .slice a l.length c), (1, .int .i64 gap), (2, .int .i64 room), (3, .bool true), (9, q.v), (10, .int .i64 k)]) 0 ⟨[], _, _⟩ () ⟨Nat.zero_le _, rfl⟩ ?_ (fun w hl => hl) ?_
    · (repeat (first | exact subF_nil _ | (refine subF_cons rfl ?_) | (refine subF_consv rfl (by rfl) ?_)))
    rintro k ⟨ps, qa, qc⟩ _ ⟨hk, hps⟩
    simp only at hps
    simp only [LinesQ.v, LinesQ.os]
    have hpl : ps.length ≤ k := by
      have := congrArg List.length hps
      rw [List.length_map] at this
      rw [this]
      exact linesTo_len k
    by_cases hlt : k < l.length
    rotate_left
    · obtain rfl : k = l.length := by omega
      repeat (first | refine SX.seq ?_ | refine SXl.nil ?_ | refine SX.region ?_ | refine SQ.thenNormal ?_ | refine SX.condF rfl ?_ | (refine l_move ?_; (refine SXl.v (OpW.move rfl) rfl ?_ ?_ ?_); rfl; rfl) | (refine l_assign ?_; (refine SXl.v (OpW.assign rfl) rfl ?_ ?_ ?_); rfl; rfl) | (refine l_len ?_; (refine SXl.v (OpW.len rfl) rfl ?_ ?_ ?_); rfl; rfl) | (refine l_lss ?_; (refine SXl.v (OpW.lssF rfl rfl (by omega)) rfl ?_ ?_ ?_); rfl; rfl) | refine SX.ret ?_ | refine SX.exit ?_ | refine SQ.thenExit ?_ | refine SQ.blockExit ?_)
      refine SQ.body1 rfl rfl (fun w' hl => ⟨⟨ps, qa, qc⟩, rfl, hps, hl.owns, hl.mod⟩)
    rcases List.eq_nil_or_concat ps with h0 | ⟨ps', p, h0⟩
    · subst h0
      have hn := linesTo_first hps.symm
      repeat (first | refine SX.seq ?_ | refine SXl.nil ?_ | refine SX.region ?_ | refine SQ.thenNormal ?_ | refine SX.block ?_ | refine SX.skip ?_ | refine SX.condT rfl ?_ | refine SX.condF rfl ?_ | (refine l_move ?_; (refine SXl.v (OpW.move rfl) rfl ?_ ?_ ?_); rfl; rfl) | (refine l_assign ?_; (refine SXl.v (OpW.assign rfl) rfl ?_ ?_ ?_); rfl; rfl) | (refine l_len ?_; (refine SXl.v (OpW.len rfl) rfl ?_ ?_ ?_); rfl; rfl) | (refine l_add ?_; (refine SXl.v (OpW.succ rfl rfl (by omega)) rfl ?_ ?_ ?_); rfl; rfl) | (refine l_geq ?_; (refine SXl.v (OpW.geq rfl rfl) rfl ?_ ?_ ?_); rfl; rfl) | (refine l_lss ?_; (refine SXl.v (OpW.lssT rfl rfl (by omega)) rfl ?_ ?_ ?_); rfl; rfl) | (refine l_sub ?_; (refine SXl.v (OpW.subi rfl rfl (by omega) (by omega)) rfl ?_ ?_ ?_); rfl; rfl) | (refine l_buildSlice ?_; first | (refine SXl.lit1 ?_ ?_ rfl rfl rfl (fun g => ?_); rfl; rfl) | (refine SXl.lit0 ?_ ?_ (fun _ h => h) rfl (fun g => ?_); rfl; rfl)) | (refine l_append ?_; first | (refine SXl.append 0 0 rfl rfl rfl rfl rfl rfl rfl rfl (by omega) (by omega) (fun a c => ?_); simp only [List.set_cons_zero, List.set_cons_succ]) | (refine SXl.append 1 0 rfl rfl rfl rfl rfl rfl rfl rfl (by omega) (by omega) (fun a c => ?_); simp only [List.set_cons_zero, List.set_cons_succ])) | refine SQ.blockNormal ?_)
      rename_i g1
      refine SQ.round3 (k + 1) ⟨[([(k : Int)], (some ⟨g1, 0, none⟩, 1))], a, c⟩ () ⟨by omega, hn.symm⟩ (by omega) ?_ (fun w hl => Loc.linePush (ps := []) (p := ([(k : Int)], (some ⟨g1, 0, none⟩, 1))) (hl.drop1.toOwn (m := 1) (sz := 1) (fun h => h) rfl (by decide)))
      (repeat (first | exact subF_nil _ | (refine subF_cons rfl ?_) | (refine subF_consv rfl (by rfl) ?_)))
    · subst h0
      rw [List.concat_eq_append] at *
      have hlast : p.1.length ≤ k := linesTo_mem_len (n := k) (by rw [← hps, List.map_append]; exact List.mem_append_right _ (List.mem_singleton.2 rfl))
      rw [List.map_append] at hps
      simp only [List.map_cons, List.map_nil] at hps
      have hpl2 : (ps' ++ [p]).length = ps'.length + 1 := by simp
      have hon := linesTo_on hps.symm
      have hoff := linesTo_off hps.symm
      refine SX.knowI (fun w hl => rows_addr (hl.owns) (.head _) (by simp)) (fun ⟨gq, hgq⟩ => ?_)
      subst hgq
      have hv : ((ps' ++ [p]).map lineV)[0 + ps'.length]? = some (lineV p) := by
        rw [Nat.zero_add, List.map_append, List.getElem?_append_right (by simp)]; simp
      repeat (first | refine SX.seq ?_ | refine SXl.nil ?_ | refine SX.region ?_ | refine SQ.thenNormal ?_ | refine SX.block ?_ | refine SX.skip ?_ | refine SX.condT rfl ?_ | (refine l_load ?_; (refine SXl.v (OpW.loadOwn (xs := (ps' ++ [p]).map lineV) 1 rfl rfl hv) rfl ?_ ?_ ?_); rfl; rfl) | (refine l_indexAddr ?_; (refine SXl.v ((OpW.indexAddr1 (i := ps'.length) (by omega) rfl (congrArg (fun i : Int => some (Value.int .i64 i)) (by omega : (((ps' ++ [p]).length : Nat) : Int) - 1 = ((ps'.length : Nat) : Int))))) rfl ?_ ?_ ?_); rfl; rfl) | (refine l_move ?_; (refine SXl.v (OpW.move rfl) rfl ?_ ?_ ?_); rfl; rfl) | (refine l_assign ?_; (refine SXl.v (OpW.assign rfl) rfl ?_ ?_ ?_); rfl; rfl) | (refine l_len ?_; (refine SXl.v (OpW.len rfl) rfl ?_ ?_ ?_); rfl; rfl) | (refine l_geq ?_; (refine SXl.v (OpW.geqT rfl rfl (by omega)) rfl ?_ ?_ ?_); rfl; rfl) | (refine l_lss ?_; (refine SXl.v (OpW.lssT rfl rfl (by omega)) rfl ?_ ?_ ?_); rfl; rfl) | (refine l_sub ?_; (refine SXl.v (OpW.subi rfl rfl (by omega) (by omega)) rfl ?_ ?_ ?_); rfl; rfl) | (refine l_buildSlice ?_; first | (refine SXl.lit1 ?_ ?_ rfl rfl rfl (fun g => ?_); rfl; rfl) | (refine SXl.lit0 ?_ ?_ (fun _ h => h) rfl (fun g => ?_); rfl; rfl)))
      refine l_append ?_
      refine SXl.appendS (cs := icell) 0 p.1 rfl rfl rfl rfl rfl rfl (fun _ => rfl) icell_one0 (fun w' hl => ⟨_, lineO_slice hl.owns (List.mem_cons_of_mem _ (List.mem_cons_of_mem _ (List.mem_map.2 ⟨p, List.mem_append_right _ (List.mem_singleton.2 rfl), rfl⟩)))⟩) (by omega) (by omega) (fun a0 c0 => ?_)
      simp only [List.set_cons_zero, Nat.zero_add, List.nil_append]
      repeat (first | refine SX.seq ?_ | refine SXl.nil ?_ | refine SX.region ?_ | refine SQ.thenNormal ?_ | (refine l_move ?_; (refine SXl.v (OpW.move rfl) rfl ?_ ?_ ?_); rfl; rfl) | (refine l_assign ?_; (refine SXl.v (OpW.assign rfl) rfl ?_ ?_ ?_); rfl; rfl) | (refine l_lss ?_; (refine SXl.v (OpW.lssF rfl rfl (by omega)) rfl ?_ ?_ ?_); rfl; rfl) | (refine l_not ?_; (refine SXl.v (OpW.not rfl) rfl ?_ ?_ ?_); rfl; rfl) | (refine l_pick ?_; (refine SXl.v (OpW.pick rfl rfl rfl) rfl ?_ ?_ ?_); rfl; rfl) | (refine l_buildSlice ?_; first | (refine SXl.lit1 ?_ ?_ rfl rfl rfl (fun g => ?_); rfl; rfl) | (refine SXl.lit0 ?_ ?_ (fun _ h => h) rfl (fun g => ?_); rfl; rfl)) | (refine l_append ?_; first | (refine SXl.append 0 0 rfl rfl rfl rfl rfl rfl rfl rfl (by omega) (by omega) (fun a c => ?_); simp only [List.set_cons_zero, List.set_cons_succ]) | (refine SXl.append 1 0 rfl rfl rfl rfl rfl rfl rfl rfl (by omega) (by omega) (fun a c => ?_); simp only [List.set_cons_zero, List.set_cons_succ])))
      rw [line_grown]
      have hLI := hI (p.1 ++ [(k : Int)]) a c
      rw [List.length_append, List.length_singleton] at hLI
      repeat (first | refine SX.seq ?_ | refine SXl.nil ?_ | refine SX.region ?_ | refine SQ.thenNormal ?_ | refine SX.condT rfl ?_ | (refine SXl.no rfl rfl rfl ?_) | (refine l_call ?_; (refine SXl.v (OpW.call rfl (fun w hl => hO _ hl.mod)) rfl ?_ ?_ ?_); rfl; rfl) | (refine l_indexAddr ?_; (refine SXl.v ((OpW.indexAddr1 (i := ps'.length) (by omega) rfl (congrArg (fun i : Int => some (Value.int .i64 i)) (by omega : (((ps' ++ [p]).length : Nat) : Int) - 1 = ((ps'.length : Nat) : Int))))) rfl ?_ ?_ ?_); rfl; rfl) | (refine l_move ?_; (refine SXl.v (OpW.move rfl) rfl ?_ ?_ ?_); rfl; rfl) | (refine l_not ?_; (refine SXl.v (OpW.not rfl) rfl ?_ ?_ ?_); rfl; rfl) | (refine l_pick ?_; (refine SXl.v (OpW.pick rfl rfl rfl) rfl ?_ ?_ ?_); rfl; rfl))
      refine l_store ?_
      refine SXl.storeOwn (xs := (ps' ++ [p]).map lineV) 1 rfl rfl rfl rfl (by simp) rfl rfl ?_
      simp only [List.set_cons_zero, List.set_cons_succ]
      repeat (first | refine SXl.nil ?_ | refine SX.region ?_ | refine SQ.thenNormal ?_ | (refine l_move ?_; (refine SXl.v (OpW.move rfl) rfl ?_ ?_ ?_); rfl; rfl) | (refine l_assign ?_; (refine SXl.v (OpW.assign rfl) rfl ?_ ?_ ?_); rfl; rfl) | (refine l_add ?_; (refine SXl.v (OpW.succ rfl rfl (by omega)) rfl ?_ ?_ ?_); rfl; rfl) | refine SX.exit ?_ | refine SQ.thenExit ?_ | refine SQ.blockExit ?_)
      refine SQ.round3 (k + 1) ⟨ps' ++ [(p.1 ++ [(k : Int)], (a, c))], some ⟨gq, 0, none⟩, qc⟩ () ⟨by omega, by rw [List.map_append, hon (.inl rfl)]; rfl⟩ (by omega) ?_ (fun w hl => ?_)
      · (repeat (first | exact subF_nil _ | (refine subF_cons rfl ?_) | (refine subF_consv rfl (by simp [LinesQ.v]) ?_)))
      · have hl2 := hl.drop1
        rw [line_v p.1 (k : Int) a c] at hl2
        exact hl2.lineAnew
end Go.Proofs.Ytdohglcjjlmhhaa
namespace Go.Proofs.Ytdohglcjjlmhhaa
open Go.RowKit
set_option linter.unusedVariables false
set_option linter.unusedSimpArgs false

theorem map_at {ps : List PLine} {ls : List (List Int)} (h : ps.map (·.1) = ls) {k : Nat} {p : PLine} (hp : ps[k]? = some p) : ls[k]? = some p.1 := by
  rw [← h, List.getElem?_map, hp]; rfl
theorem OpW.maxi {P : Program} {n : Nat} {W : World} {R : Rg W} {L : List Blk} {O : List Own} {E : List Res} {f : List (Nat × Value)} {d : Option Tmp} {ty : TypeId} {pos : String} {af : Array Edge} {gd : Option (Nat × Bool)} {x y : Operand} {T T' : TypeId} {p q : Int} (hx : evO f x = some (.int .i64 p)) (hy : evO f y = some (.int .i64 q)) : OpW P n W R L O E f ⟨d, .call ⟨.builtin .max, #[x, y], #[T, T']⟩, ty, pos, af, gd⟩ (.int .i64 (max p q)) :=
  OpW.of (fun a w hf _ => by
    have e : (if q > p then q else p) = max p q := by split <;> omega
    simp [execOp, resolve, invoke, builtin, hf.eval hx, hf.eval hy, run_max_int2, e])
end Go.Proofs.Ytdohglcjjlmhhaa
namespace Go.Proofs.Ytdohglcjjlmhhaa
open Go.RowKit
set_option linter.unusedVariables false
set_option linter.unusedSimpArgs false

/-- Blocks of old memory that may turn; they are held as blocks of the call's own. -/
def Rg.rows (W : World) (gs : List Nat) (h : ∀ g ∈ gs, g < W.heap.size) : Rg W := ⟨fun k => k ∈ gs, fun k => k ∈ gs, fun _ => True, h, fun _ h => h, fun _ _ _ _ _ _ => trivial⟩
section
variable {P : Program} {n : Nat} {W : World} {R : Rg W} {L : List Blk} {O : List Own} {E : List Res} {f : List (Nat × Value)} {Q : Exit → Act → World → Prop} {ops : Array Oper} {rest : List Oper} {d : Option Tmp} {ty T T' : TypeId} {pos : String} {af : Array Edge} {gd : Option (Nat × Bool)} {dn : Nat} {x y : Operand}
theorem calls_sxB {fid : FuncId} {fn : Func} {c : Code} {args : List Value} {w : World} (Bs : List Blk) (hb : ∀ b ∈ Bs, w.heap[b.g]? = some (.cells b.cells.toArray b.T (0, 0))) (hd : Bs.Pairwise (fun a b => a.g ≠ b.g)) (hlt : ∀ g ∈ Bs.map (·.g), g < w.heap.size) {R' : Ending → World → Prop} {f : List (Nat × Value)} (hf : P.funcs[fid]? = some fn) (hbd : fn.body = some c) (hn : fn.ntmps = n)
    (hfr : ∀ a : Act, a.defers = [] → n ≤ a.tmps.size → (∀ (t : Nat) (v : Value), args[t]? = some v → a.tmps[t]? = some v) → Fr n f a)
    (h : SX P n w (Rg.rows w (Bs.map (·.g)) hlt) Bs [] [] f c (bodyPost P fn R')) : Calls P fid args.toArray w R' := by
  refine calls_of_wp hf hbd (h.run _ w (hfr _ rfl ?_ ?_) ⟨Mod.refl _ _, trivial, fun b hm => ⟨.inl (List.mem_map.2 ⟨b, hm, rfl⟩), hb b hm⟩, hd, by simp, by simp, by simp, by simp, by simp⟩)
  · simp; omega
  · intro t v ht
    have hlt := (List.getElem?_eq_some_iff.1 ht).1
    obtain ⟨_, e⟩ := List.getElem?_eq_some_iff.1 ht
    simp [Array.getElem?_append, hlt, e]
theorem Loc.newFree {w : World} (h : Loc W R L O E w) : ¬ R.q w.heap.size := fun hq => by
  have := R.low _ (R.sub _ hq)
  have := h.mod.size
  omega
/-- An empty slice literal; where old memory is held. -/
theorem SXl.lit0N {e sz by_ : Nat} {z : Value} [t : TSl P T e sz] [te : TEl P e sz by_ z] (hw : wantO ops f ⟨some dn, .buildSlice T 0 #[], ty, pos, af, gd⟩ = some true) (hd : Nat.blt dn n = true)
    (h : ∀ g, SXl P n W R ops L (⟨.slice (some ⟨g, 0, none⟩) 0 0, e, sz, 0, []⟩ :: O) E ((dn, .slice (some ⟨g, 0, none⟩) 0 0) :: f) rest Q) : SXl P n W R ops L O E f (⟨some dn, .buildSlice T 0 #[], ty, pos, af, gd⟩ :: rest) Q :=
  SXl.stepn (V := fun g => .slice (some ⟨g, 0, none⟩) 0 0) (L' := fun _ => L) (O' := fun g => ⟨.slice (some ⟨g, 0, none⟩) 0 0, e, sz, 0, []⟩ :: O) hw rfl hd (fun a w hf hl => by
    obtain ⟨i0, q1, q2, q3, q4, q5, q6⟩ := te.h
    refine ⟨w.heap.size, w.alloc (.cells #[] e), ?_, ((hl.alloc [] e).toOwn (m := 0) hl.newFree (by simp) (by unfold maxLen; omega))⟩
    simp only [execOp, Instr.buildSlice, Sem.run_bind, run_underlying t.h.1, Result.andThen_ok, sizeOf, typeInfo, run_program, q1, Sem.run_pure, q3]
    have e4 : Array.map (fun _ : Nat => (default : Value)) (Array.range 0) = #[] := by simp
    simp [newRow, q1, q2, q3, e4, Instr.fill]
    done) h
theorem own_cellsB {w : World} {base e c m : Nat} {a : Option Addr} {xs : List Value} (h : w.ownsRow base e 1 (.slice a m c) m xs) (h0 : 0 < m) :
    ∃ (g : Nat) (spare : List Value), a = some ⟨g, 0, none⟩ ∧ base ≤ g ∧ w.heap[g]? = some (.cells (xs ++ spare).toArray e (0, 0)) ∧ xs.length + spare.length = c ∧ c ≤ maxLen := by
  rcases h.2 with ⟨_, hn⟩ | ⟨g, cap, cur, hv, hb, hh, hnc, hcm, hcs, ht⟩
  · omega
  · injection hv with ha _ hc
    subst ha hc
    have e1 : xs ++ cur.toList.drop (m * 1) = cur.toList := by rw [← ht, List.take_append_drop]
    refine ⟨g, cur.toList.drop (m * 1), rfl, hb, ?_, ?_, hcm⟩
    · rw [e1]
      exact hh
    · have := congrArg List.length e1
      rw [List.length_append] at this
      rw [this, Array.length_toList, hcs, Nat.mul_one]
/-- A slice of the call's own is told as a block. -/
theorem Loc.ownB {w : World} {e m g c : Nat} {xs : List Value} (h : Loc W R L (⟨.slice (some ⟨g, 0, none⟩) m c, e, 1, m, xs⟩ :: O) E w) (h0 : 0 < m) : ∃ spare, (xs.length + spare.length = c ∧ c ≤ maxLen) ∧ Loc W R (⟨g, xs ++ spare, e⟩ :: L) O E w := by
  have ho := (h.own _ (.head _)).1
  simp only at ho
  obtain ⟨g', spare, e1, hg, hb, hcap⟩ := own_cellsB ho h0
  simp only [Option.some.injEq, Addr.mk.injEq, and_true] at e1
  subst e1
  exact ⟨spare, hcap, {
    mod := h.mod
    inv := h.inv
    blk := fun b hm => by
      rcases List.mem_cons.1 hm with rfl | hm
      · exact ⟨.inr hg, hb⟩
      · exact h.blk b hm
    apart := List.pairwise_cons.2 ⟨fun b hm e2 => (h.own _ (.head _)).2 b hm (by simp only [Value.ownBlock]; exact congrArg some e2), h.apart⟩
    own := fun o hm => ⟨(h.own o (.tail _ hm)).1, fun b hb2 e2 => by
      rcases List.mem_cons.1 hb2 with rfl | hb2
      · exact (List.pairwise_cons.1 h.ownApart).1 o hm _ rfl e2
      · exact (h.own o (.tail _ hm)).2 b hb2 e2⟩
    ownApart := (List.pairwise_cons.1 h.ownApart).2
    res := fun F hF => ⟨(h.res F hF).1, (h.res F hF).2.1, fun b hm f2 => by
      rcases List.mem_cons.1 hm with rfl | hm
      · exact (h.res F hF).2.2.2 _ (.head _) _ rfl f2
      · exact (h.res F hF).2.2.1 b hm f2, fun o hm k hk f2 => (h.res F hF).2.2.2 o (.tail _ hm) k hk f2⟩
    resNew := h.resNew
    resApart := h.resApart }⟩
theorem SX.ownB {co : Code} {e m g c : Nat} {xs : List Value} (h0 : 0 < m) (h : ∀ spare, xs.length + spare.length = c → c ≤ maxLen → SX P n W R (⟨g, xs ++ spare, e⟩ :: L) O E f co Q) : SX P n W R L (⟨.slice (some ⟨g, 0, none⟩) m c, e, 1, m, xs⟩ :: O) E f co Q := ⟨fun a w hf hl => by
  obtain ⟨s, ⟨h1, h2⟩, hl2⟩ := hl.ownB h0
  exact (h s h1 h2).run a w hf hl2⟩
/-- The block is a slice of the call's own again. -/
theorem Loc.ownBack {w : World} {e m g c : Nat} {xs spare : List Value} (h : Loc W R (⟨g, xs ++ spare, e⟩ :: L) O E w) (hR : ∀ k, ¬ R.q k) (hm : xs.length = m) (hc : xs.length + spare.length = c) (hmax : c ≤ maxLen) : Loc W R L (⟨.slice (some ⟨g, 0, none⟩) m c, e, 1, m, xs⟩ :: O) E w := by
  have h1 := h.toOwn (m := c) (sz := 1) (hR _) (by rw [List.length_append, Nat.mul_one]; exact hc) hmax
  exact {
    mod := h1.mod, inv := h1.inv, blk := h1.blk, apart := h1.apart
    own := fun o ho => by
      rcases List.mem_cons.1 ho with rfl | ho
      · obtain ⟨h2, h3⟩ := h1.own _ (.head _)
        refine ⟨⟨by rw [Nat.mul_one]; exact hm, ?_⟩, h3⟩
        rcases h2.2 with ⟨hv, _⟩ | ⟨g', cap, cur, hv, hb, hh, hnc, hcm, hcs, ht⟩
        · simp at hv
        · simp only [Value.slice.injEq] at hv
          refine .inr ⟨g', cap, cur, ?_, hb, hh, ?_, hcm, hcs, ?_⟩
          · simp only [hv.1, hv.2.2]
          · show m ≤ cap
            rw [← hm]
            omega
          · show cur.toList.take (m * 1) = xs
            simp only at ht
            have e2 := congrArg (List.take m) ht
            rw [List.take_take, Nat.min_eq_left (by omega)] at e2
            rw [Nat.mul_one, e2, List.take_append_of_le_length (by omega), List.take_of_length_le (by omega)]
      · exact h1.own o (.tail _ ho)
    ownApart := List.pairwise_cons.2 ⟨fun o ho k hk => (List.pairwise_cons.1 h1.ownApart).1 o ho k hk, (List.pairwise_cons.1 h1.ownApart).2⟩
    res := fun F hF => ⟨(h1.res F hF).1, (h1.res F hF).2.1, (h1.res F hF).2.2.1, fun o ho k hk => by
      rcases List.mem_cons.1 ho with rfl | ho
      · exact (h1.res F hF).2.2.2 _ (.head _) k hk
      · exact (h1.res F hF).2.2.2 o (.tail _ ho) k hk⟩
    resNew := h1.resNew, resApart := h1.resApart }
/-- A call that turns blocks of the call's own. -/
theorem SXl.callBs {v : Value} {L' : List Blk} {fn : FuncId} {ars : List Operand} {args : List Value} {aT : Array TypeId} [TFun P fn] (hw : wantO ops f ⟨some dn, .call ⟨.value (.func fn), ars.toArray, aT⟩, ty, pos, af, gd⟩ = some true) (hd : Nat.blt dn n = true) (ha : evL f ars = some args)
    (hg : L'.map (·.g) = L.map (·.g))
    (hc : ∀ w, Loc W R L O E w → Calls P fn args.toArray w fun e w' => e = .returned v ∧ Mod (fun k => k ∈ L.map (·.g)) w w' ∧ ∀ b ∈ L', w'.heap[b.g]? = some (.cells b.cells.toArray b.T (0, 0)))
    (h : SXl P n W R ops L' O E ((dn, v) :: f) rest Q) : SXl P n W R ops L O E f (⟨some dn, .call ⟨.value (.func fn), ars.toArray, aT⟩, ty, pos, af, gd⟩ :: rest) Q := ⟨fun a w hf hl => by
  unfold wpList
  rw [if_pos (wanted_of hf hw)]
  refine .inl ?_
  unfold Oper.wp
  rw [run_callop hf ha w _ _, Oper.upon_enter]
  refine (hc w hl).mono ?_
  rintro e w' ⟨rfl, hm, hb⟩
  have hmem : ∀ k, k ∈ L.map (·.g) → ∃ b ∈ L, b.g = k := fun k hk => List.mem_map.1 hk
  have hback : ∀ b ∈ L', ∃ b0 ∈ L, b0.g = b.g := fun b hb' => hmem b.g (hg ▸ List.mem_map.2 ⟨b, hb', rfl⟩)
  exact h.run _ _ (hf.put hd _) {
    mod := hl.mod.then hm fun k hk hs => by
      obtain ⟨b, hb', rfl⟩ := hmem k hs
      rcases (hl.blk b hb').1 with h1 | h1
      · exact R.sub _ h1
      · omega
    inv := R.keep _ _ _ hl.inv hm fun k hk hs => by
      obtain ⟨b, hb', rfl⟩ := hmem k hs
      rcases (hl.blk b hb').1 with h1 | h1
      · exact h1
      · omega
    blk := fun b hb' => by
      obtain ⟨b0, h1, h2⟩ := hback b hb'
      exact ⟨h2 ▸ (hl.blk b0 h1).1, hb b hb'⟩
    apart := by
      have h1 : (L.map (·.g)).Pairwise (· ≠ ·) := List.pairwise_map.2 hl.apart
      rw [← hg] at h1
      exact List.pairwise_map.1 h1
    own := fun o ho => ⟨ownsRow_keep (hl.own o ho).1 hm fun k hk hs => by
      obtain ⟨b, hb', rfl⟩ := hmem k hs
      exact (hl.own o ho).2 b hb' hk, fun b hb' e => by
      obtain ⟨b0, h1, h2⟩ := hback b hb'
      exact (hl.own o ho).2 b0 h1 (h2 ▸ e)⟩
    ownApart := hl.ownApart
    res := fun F hF => ⟨F.stable _ _ _ (hl.res F hF).1 hm (fun k hk hs => by
      obtain ⟨b, hb', rfl⟩ := hmem k hs
      exact (hl.res F hF).2.2.1 b hb' hk), fun k hk => Nat.lt_of_lt_of_le ((hl.res F hF).2.1 k hk) hm.size, fun b hb' f2 => by
      obtain ⟨b0, h1, h2⟩ := hback b hb'
      exact (hl.res F hF).2.2.1 b0 h1 (h2 ▸ f2), (hl.res F hF).2.2.2⟩
    resNew := hl.resNew
    resApart := hl.resApart }⟩
end
theorem blk_ints {w : World} {g : Nat} {xs : List Int} {spare : List Value} {T : TypeId} {R : Nat → Prop} (h : w.heap[g]? = some (.cells (xs.map (Value.int .i64) ++ spare).toArray T (0, 0))) (hR : R g) : IntSlice R w (some ⟨g, 0, none⟩) xs := by
  refine ⟨xs.map icell, .inr ⟨g, 0, rfl, hR, (Array.getElem?_eq_some_iff.1 h).1, fun i r hi => ?_⟩, by simp, fun i r y h1 h2 => ?_⟩
  · rw [List.getElem?_map] at hi
    obtain ⟨y, hy, rfl⟩ := Option.map_eq_some_iff.1 hi
    refine ⟨rfl, fun j v hv => ?_⟩
    obtain ⟨rfl, rfl⟩ : j = 0 ∧ v = .int .i64 y := by
      cases j with
      | zero => exact ⟨rfl, by simpa [icell] using hv.symm⟩
      | succ j => simp [icell] at hv
    have hlt := (List.getElem?_eq_some_iff.1 hy).1
    refine blk_cell h ?_
    rw [Nat.zero_add, Nat.mul_one, Nat.add_zero, List.getElem?_append_left (by simpa using hlt), List.getElem?_map, hy]
    rfl
  · rw [List.getElem?_map, h2] at h1
    simpa [Flat] using h1.symm
theorem mul_near {a b A B : Int} (h1 : 0 ≤ a ∧ a ≤ A) (h2 : 0 ≤ b ∧ b ≤ B) : 0 ≤ a * b ∧ a * b ≤ A * B :=
  ⟨Int.mul_nonneg h1.1 h2.1, Int.le_trans (Int.mul_le_mul_of_nonneg_right h1.2 h2.1) (Int.mul_le_mul_of_nonneg_left h2.2 (Int.le_trans h1.1 h1.2))⟩
theorem mul_both {a b A B : Int} (h1 : -A ≤ a ∧ a ≤ A) (h2 : 0 ≤ b ∧ b ≤ B) : -(A * B) ≤ a * b ∧ a * b ≤ A * B := by
  have hA : 0 ≤ A := by omega
  have h3 : a * b ≤ A * b := Int.mul_le_mul_of_nonneg_right h1.2 h2.1
  have h4 : -A * b ≤ a * b := Int.mul_le_mul_of_nonneg_right h1.1 h2.1
  have h5 : A * b ≤ A * B := Int.mul_le_mul_of_nonneg_left h2.2 hA
  rw [Int.neg_mul] at h4
  omega
/-- A right item. -/
structure Right (x : Item) : Prop where
  base : 0 ≤ x.base ∧ x.base ≤ 1048576
  least : 0 ≤ x.least ∧ x.least ≤ 1048576
  most : -1 ≤ x.most ∧ x.most ≤ 1048576
  grow : 0 ≤ x.grow ∧ x.grow ≤ 1000
  shrink : 0 ≤ x.shrink ∧ x.shrink ≤ 1000
  before : -1048576 ≤ x.before ∧ x.before ≤ 1048576
  behind : -1048576 ≤ x.behind ∧ x.behind ≤ 1048576
theorem right_of {x : Item} (h : itemOk x = true) : Right x := by
  unfold itemOk inB at h
  simp only [Bool.and_eq_true, decide_eq_true_eq] at h
  obtain ⟨⟨⟨⟨⟨⟨h1, h2⟩, h3⟩, h4⟩, h5⟩, h6⟩, h7⟩ := h
  exact ⟨h1, h2, h3, h4, h5, h6, h7⟩
theorem Right.fits {x : Item} (h : Right x) : x.Fits := by
  obtain ⟨h1, h2, h3, h4, h5, h6, h7⟩ := h
  exact ⟨by omega, by omega, by omega, by omega, by omega, by omega, by omega⟩
theorem Right.weight {x : Item} (h : Right x) (g : Bool) : 0 ≤ weightOf g x ∧ weightOf g x ≤ 1048576000 := by
  have := mul_near h.shrink h.base
  have := h.grow
  unfold weightOf
  split <;> omega
theorem Right.hyp {x : Item} (h : Right x) : 0 ≤ hyp x ∧ hyp x ≤ 1048576 := by
  obtain ⟨h1, h2, h3, -⟩ := h
  unfold Go.Proofs.Ytdohglcjjlmhhaa.hyp within
  split <;> omega
theorem Right.upper {x : Item} (h : Right x) : 0 ≤ upperOf x ∧ upperOf x ≤ 1048576 := by
  obtain ⟨h1, h2, h3, -⟩ := h
  unfold upperOf
  omega
set_option maxRecDepth 100000 in
set_option maxHeartbeats 4000000 in
theorem weightOf_any (x : Item) (g : Bool) (w : World) (hx : Right x) : Calls Try.prog 91 #[.agg x.cells.toArray, .bool g] w fun e w' => e = .returned (.int .i64 (weightOf g x)) ∧ Mod (fun _ => False) w w' := by
  refine calls_sx Try.func91 rfl rfl (fun a h1 h2 h3 => ((Fr.nil h1 h2).arg (h3 1 _ rfl)).arg (h3 0 _ rfl)) ?_
  have := mul_near hx.shrink hx.base
  cases g
  · repeat (first | refine SX.seq ?_ | refine SXl.nil ?_ | refine SX.region ?_ | refine SQ.thenNormal ?_ | refine SX.skip ?_ | refine SX.condF rfl ?_ | (refine l_load ?_; (refine SXl.v (OpW.load 0 rfl rfl rfl) rfl ?_ ?_ ?_); rfl; rfl) | (refine l_fieldAddr ?_; (refine SXl.v (OpW.fieldAddr rfl) rfl ?_ ?_ ?_); rfl; rfl) | (refine l_move ?_; (refine SXl.v (OpW.move rfl) rfl ?_ ?_ ?_); rfl; rfl) | (refine l_assign ?_; (refine SXl.v (OpW.assign rfl) rfl ?_ ?_ ?_); rfl; rfl) | (refine l_mul ?_; (refine SXl.v (OpW.muli rfl rfl (by omega) (by omega)) rfl ?_ ?_ ?_); rfl; rfl) | (refine l_box ?_; refine SXl.box ?_ ?_ rfl rfl (fun g => ?_); rfl; rfl) | refine SX.ret ?_)
    refine SQ.body1 rfl rfl (fun w' hl => ⟨rfl, hl.mod⟩)
  · repeat (first | refine SX.seq ?_ | refine SXl.nil ?_ | refine SX.region ?_ | refine SQ.thenNormal ?_ | refine SX.condT rfl ?_ | (refine l_load ?_; (refine SXl.v (OpW.load 0 rfl rfl rfl) rfl ?_ ?_ ?_); rfl; rfl) | (refine l_fieldAddr ?_; (refine SXl.v (OpW.fieldAddr rfl) rfl ?_ ?_ ?_); rfl; rfl) | (refine l_move ?_; (refine SXl.v (OpW.move rfl) rfl ?_ ?_ ?_); rfl; rfl) | (refine l_assign ?_; (refine SXl.v (OpW.assign rfl) rfl ?_ ?_ ?_); rfl; rfl) | (refine l_box ?_; refine SXl.box ?_ ?_ rfl rfl (fun g => ?_); rfl; rfl) | refine SX.ret ?_ | refine SQ.thenRet ?_)
    refine SQ.body1 rfl rfl (fun w' hl => ⟨rfl, hl.mod⟩)
set_option maxRecDepth 100000 in
set_option maxHeartbeats 4000000 in
theorem upper_any (x : Item) (w : World) : Calls Try.prog 131 #[.agg x.cells.toArray] w fun e w' => e = .returned (.int .i64 (upperOf x)) ∧ Mod (fun _ => False) w w' := by
  refine calls_sx Try.func131 rfl rfl (fun a h1 h2 h3 => ((Fr.nil h1 h2).arg (h3 0 _ rfl))) ?_
  repeat (first | refine SX.seq ?_ | refine SXl.nil ?_ | refine SX.region ?_ | refine SQ.thenNormal ?_ | (refine l_load ?_; (refine SXl.v (OpW.load 0 rfl rfl rfl) rfl ?_ ?_ ?_); rfl; rfl) | (refine l_fieldAddr ?_; (refine SXl.v (OpW.fieldAddr rfl) rfl ?_ ?_ ?_); rfl; rfl) | (refine l_assign ?_; (refine SXl.v (OpW.assign rfl) rfl ?_ ?_ ?_); rfl; rfl) | (refine l_box ?_; refine SXl.box ?_ ?_ rfl rfl (fun g => ?_); rfl; rfl) | (refine SXl.v (OpW.maxi rfl rfl) rfl ?_ ?_ ?_; rfl; rfl) | refine SX.ret ?_)
  refine SQ.body1 rfl rfl (fun w' hl => ⟨rfl, hl.mod⟩)
set_option maxRecDepth 100000 in
set_option maxHeartbeats 4000000 in
theorem l13Most_any (x : Item) (w : World) (hx : 0 ≤ x.most) : Calls Try.prog 135 #[.agg x.cells.toArray] w fun e w' => e = .returned (.int .i64 (upperOf x)) ∧ Mod (fun _ => False) w w' := by
  refine calls_sx Try.func135 rfl rfl (fun a h1 h2 h3 => ((Fr.nil h1 h2).arg (h3 0 _ rfl))) ?_
  by_cases h : x.most < x.least
  · repeat (first | refine SX.seq ?_ | refine SXl.nil ?_ | refine SX.region ?_ | refine SQ.thenNormal ?_ | refine SX.condT rfl ?_ | (refine l_load ?_; (refine SXl.v (OpW.load 0 rfl rfl rfl) rfl ?_ ?_ ?_); rfl; rfl) | (refine l_fieldAddr ?_; (refine SXl.v (OpW.fieldAddr rfl) rfl ?_ ?_ ?_); rfl; rfl) | (refine l_move ?_; (refine SXl.v (OpW.move rfl) rfl ?_ ?_ ?_); rfl; rfl) | (refine l_assign ?_; (refine SXl.v (OpW.assign rfl) rfl ?_ ?_ ?_); rfl; rfl) | (refine l_geq ?_; (refine SXl.v (OpW.geqT rfl rfl (by omega)) rfl ?_ ?_ ?_); rfl; rfl) | (refine l_lss ?_; (refine SXl.v (OpW.lssT rfl rfl (by omega)) rfl ?_ ?_ ?_); rfl; rfl) | (refine l_pick ?_; (refine SXl.v (OpW.pick rfl rfl rfl) rfl ?_ ?_ ?_); rfl; rfl) | (refine l_box ?_; refine SXl.box ?_ ?_ rfl rfl (fun g => ?_); rfl; rfl) | refine SX.ret ?_ | refine SQ.thenRet ?_)
    refine SQ.body1 rfl rfl (fun w' hl => ⟨by unfold upperOf; congr 2; omega, hl.mod⟩)
  · repeat (first | refine SX.seq ?_ | refine SXl.nil ?_ | refine SX.region ?_ | refine SQ.thenNormal ?_ | refine SX.skip ?_ | refine SX.condF rfl ?_ | (refine l_load ?_; (refine SXl.v (OpW.load 0 rfl rfl rfl) rfl ?_ ?_ ?_); rfl; rfl) | (refine l_fieldAddr ?_; (refine SXl.v (OpW.fieldAddr rfl) rfl ?_ ?_ ?_); rfl; rfl) | (refine l_move ?_; (refine SXl.v (OpW.move rfl) rfl ?_ ?_ ?_); rfl; rfl) | (refine l_assign ?_; (refine SXl.v (OpW.assign rfl) rfl ?_ ?_ ?_); rfl; rfl) | (refine l_geq ?_; (refine SXl.v (OpW.geqT rfl rfl (by omega)) rfl ?_ ?_ ?_); rfl; rfl) | (refine l_lss ?_; (refine SXl.v (OpW.lssF rfl rfl (by omega)) rfl ?_ ?_ ?_); rfl; rfl) | (refine l_pick ?_; (refine SXl.v (OpW.pick rfl rfl rfl) rfl ?_ ?_ ?_); rfl; rfl) | (refine l_box ?_; refine SXl.box ?_ ?_ rfl rfl (fun g => ?_); rfl; rfl) | refine SX.ret ?_)
    refine SQ.body1 rfl rfl (fun w' hl => ⟨by unfold upperOf; congr 2; omega, hl.mod⟩)
set_option maxRecDepth 100000 in
set_option maxHeartbeats 4000000 in
theorem grows_any (l : List Item) (gap inner : Int) (a : Option Addr) (c : Nat) (R : Nat → Prop) (w : World) (hlen : l.length ≤ 1048576) (hf : ∀ x ∈ l, x.Fits) (hg : -2147483648 ≤ gap ∧ gap ≤ 2147483648) (h : ItemSlice R w a l) :
    Calls Try.prog 29 #[.slice a l.length c, .int .i64 gap, .int .i64 inner] w fun e w' => e = .returned (.bool (growsOf l gap inner)) ∧ Mod (fun _ => False) w w' := by
  refine calls_sx Try.func29 rfl rfl (fun a h1 h2 h3 => (((Fr.nil h1 h2).arg (h3 2 _ rfl)).arg (h3 1 _ rfl)).arg (h3 0 _ rfl)) ?_
  have hHl : (l.map hyp).length ≤ 1048576 := by rw [List.length_map]; exact hlen
  repeat (first | refine SX.seq ?_ | refine SXl.nil ?_ | refine SX.region ?_ | refine SQ.thenNormal ?_ | (refine l_move ?_; (refine SXl.v (OpW.move rfl) rfl ?_ ?_ ?_); rfl; rfl) | (refine l_assign ?_; (refine SXl.v (OpW.assign rfl) rfl ?_ ?_ ?_); rfl; rfl))
  refine l_call ?_
  refine SXl.calln1 (v := fun q => .slice q.a (l.map hyp).length q.c) (F1 := ownRes icell 3 1 (l.map hyp)) rfl rfl rfl (fun w' hl => (hypsOf_any l a c R w' hlen (h.flatKeep hl.mod)).mono fun _ _ h => new_own h) (fun q2 => ?_)
  repeat (first | refine SXl.nil ?_ | refine SQ.thenNormal ?_ | (refine l_call ?_; (refine SXl.v (OpW.call rfl (fun w hl => outerOf_any l (l.map hyp) gap a q2.a c q2.c R _ _ hlen hHl hf ((hyp_near hf).mono (by decide)) hg (h.flatKeep hl.mod) (intRes_in hl (.head _)))) rfl ?_ ?_ ?_); rfl; rfl) | (refine l_move ?_; (refine SXl.v (OpW.move rfl) rfl ?_ ?_ ?_); rfl; rfl) | (refine l_assign ?_; (refine SXl.v (OpW.assign rfl) rfl ?_ ?_ ?_); rfl; rfl) | (refine l_lss ?_; (refine SXl.v (OpW.lss rfl rfl) rfl ?_ ?_ ?_); rfl; rfl) | refine SX.ret ?_)
  refine SQ.body1 rfl rfl (fun w' hl => ⟨rfl, hl.mod⟩)
set_option maxRecDepth 100000 in
set_option maxHeartbeats 4000000 in
theorem sgrows_any (l : List Item) (gap inner : Int) (a : Option Addr) (c : Nat) (R : Nat → Prop) (w : World) (hlen : l.length ≤ 1048576) (hf : ∀ x ∈ l, x.Fits) (hg : -2147483648 ≤ gap ∧ gap ≤ 2147483648) (h : ItemSlice R w a l) :
    Calls Try.prog 30 #[.slice a l.length c, .int .i64 gap, .int .i64 inner] w fun e w' => e = .returned (.bool (growsOf l gap inner)) ∧ Mod (fun _ => False) w w' := by
  refine calls_sx Try.func30 rfl rfl (fun a h1 h2 h3 => (((Fr.nil h1 h2).arg (h3 2 _ rfl)).arg (h3 1 _ rfl)).arg (h3 0 _ rfl)) ?_
  have hHl : (l.map hyp).length ≤ 1048576 := by rw [List.length_map]; exact hlen
  repeat (first | refine SX.seq ?_ | refine SXl.nil ?_ | refine SX.region ?_ | refine SQ.thenNormal ?_ | (refine l_move ?_; (refine SXl.v (OpW.move rfl) rfl ?_ ?_ ?_); rfl; rfl) | (refine l_assign ?_; (refine SXl.v (OpW.assign rfl) rfl ?_ ?_ ?_); rfl; rfl))
  refine l_call ?_
  refine SXl.calln1 (v := fun q => .slice q.a (l.map hyp).length q.c) (F1 := ownRes icell 3 1 (l.map hyp)) rfl rfl rfl (fun w' hl => (shyps_any l a c R w' hlen (h.flatKeep hl.mod)).mono fun _ _ h => new_own h) (fun q2 => ?_)
  repeat (first | refine SXl.nil ?_ | refine SQ.thenNormal ?_ | (refine l_call ?_; (refine SXl.v (OpW.call rfl (fun w hl => souterOf_any l (l.map hyp) gap a q2.a c q2.c R _ _ hlen hHl hf ((hyp_near hf).mono (by decide)) hg (h.flatKeep hl.mod) (intRes_in hl (.head _)))) rfl ?_ ?_ ?_); rfl; rfl) | (refine l_move ?_; (refine SXl.v (OpW.move rfl) rfl ?_ ?_ ?_); rfl; rfl) | (refine l_assign ?_; (refine SXl.v (OpW.assign rfl) rfl ?_ ?_ ?_); rfl; rfl) | (refine l_lss ?_; (refine SXl.v (OpW.lss rfl rfl) rfl ?_ ?_ ?_); rfl; rfl) | refine SX.ret ?_)
  refine SQ.body1 rfl rfl (fun w' hl => ⟨rfl, hl.mod⟩)
end Go.Proofs.Ytdohglcjjlmhhaa
namespace Go.Proofs.Ytdohglcjjlmhhaa
open Go.RowKit
set_option linter.unusedVariables false
set_option linter.unusedSimpArgs false

set_option maxRecDepth 100000 in
set_option maxHeartbeats 4000000 in
theorem l13Weight_any (l : List Item) (grows : Bool) (i : Nat) (x : Item) (gr lc : Nat) (la : Option Addr) (R : Nat → Prop) (w : World) (hx : l[i]? = some x) (hr : Right x) (hS : ItemSlice R w la l) (h0 : w.cell? ⟨gr, 0 + 0, none⟩ = some (.slice la l.length lc)) (h3 : w.cell? ⟨gr, 0 + 3, none⟩ = some (.bool grows)) :
    Calls Try.prog 93 #[.pointer (some ⟨gr, 0, none⟩), .int .i64 i] w fun e w' => e = .returned (.int .i64 (weightOf grows x)) ∧ Mod (fun _ => False) w w' := by
  refine calls_sx Try.func93 rfl rfl (fun a h1 h2 h3 => ((Fr.nil h1 h2).arg (h3 1 _ rfl)).arg (h3 0 _ rfl)) ?_
  have hlt := (List.getElem?_eq_some_iff.1 hx).1
  obtain ⟨b1, o1, x1, e1, hR1, hb1, hxk, hc1⟩ := hS.get hlt
  obtain rfl : x = x1 := Option.some.inj (hx.symm.trans hxk)
  subst e1
  have c0 := hc1 0 _ rfl
  have c3 := hc1 3 _ rfl
  have c4 := hc1 4 _ rfl
  have := mul_near hr.shrink hr.base
  cases grows
  · repeat (first | refine SX.seq ?_ | refine SXl.nil ?_ | refine SX.region ?_ | refine SQ.thenNormal ?_ | refine SX.skip ?_ | refine SX.condF rfl ?_ | (refine l_load ?_; (refine SXl.v (OpW.loadOld rfl (by assumption) (fun h => h)) rfl ?_ ?_ ?_); rfl; rfl) | (refine l_fieldAddr ?_; (refine SXl.v (OpW.fieldAddr rfl) rfl ?_ ?_ ?_); rfl; rfl) | (refine l_move ?_; (refine SXl.v (OpW.move rfl) rfl ?_ ?_ ?_); rfl; rfl) | (refine l_assign ?_; (refine SXl.v (OpW.assign rfl) rfl ?_ ?_ ?_); rfl; rfl) | (refine l_nilCheck ?_; (refine SXl.v (OpW.nilCheck rfl) rfl ?_ ?_ ?_); rfl; rfl) | refine SX.drawn (by kernel_rfl) (by kernel_rfl) ?_ | refine SXr.nil ?_ | (refine r_load ?_; (refine SXr.v (OpW.loadOld rfl (by assumption) (fun h => h)) rfl ?_ ?_ ?_); rfl; rfl) | (refine r_fieldAddr ?_; (refine SXr.v (OpW.fieldAddr rfl) rfl ?_ ?_ ?_); rfl; rfl) | (refine r_move ?_; (refine SXr.v (OpW.move rfl) rfl ?_ ?_ ?_); rfl; rfl) | (refine r_assign ?_; (refine SXr.v (OpW.assign rfl) rfl ?_ ?_ ?_); rfl; rfl) | (refine r_nilCheck ?_; (refine SXr.v (OpW.nilCheck rfl) rfl ?_ ?_ ?_); rfl; rfl) | (refine r_mul ?_; (refine SXr.v (OpW.muli rfl rfl (by omega) (by omega)) rfl ?_ ?_ ?_); rfl; rfl) | (refine r_indexAddr ?_; (refine SXr.v (OpW.indexAddr (by omega) rfl rfl) rfl ?_ ?_ ?_); rfl; rfl) | refine SX.ret ?_)
    refine SQ.body1 rfl rfl (fun w' hl => ⟨rfl, hl.mod⟩)
  · repeat (first | refine SX.seq ?_ | refine SXl.nil ?_ | refine SX.region ?_ | refine SQ.thenNormal ?_ | refine SX.condT rfl ?_ | (refine l_load ?_; (refine SXl.v (OpW.loadOld rfl (by assumption) (fun h => h)) rfl ?_ ?_ ?_); rfl; rfl) | (refine l_fieldAddr ?_; (refine SXl.v (OpW.fieldAddr rfl) rfl ?_ ?_ ?_); rfl; rfl) | (refine l_move ?_; (refine SXl.v (OpW.move rfl) rfl ?_ ?_ ?_); rfl; rfl) | (refine l_assign ?_; (refine SXl.v (OpW.assign rfl) rfl ?_ ?_ ?_); rfl; rfl) | (refine l_nilCheck ?_; (refine SXl.v (OpW.nilCheck rfl) rfl ?_ ?_ ?_); rfl; rfl) | (refine l_indexAddr ?_; (refine SXl.v (OpW.indexAddr (by omega) rfl rfl) rfl ?_ ?_ ?_); rfl; rfl) | refine SX.ret ?_ | refine SQ.thenRet ?_)
    refine SQ.body1 rfl rfl (fun w' hl => ⟨rfl, hl.mod⟩)
theorem rest_bd {h : Held} {gap inner : Int} (hr : ∀ p ∈ h, Right p.1) (hs : Near 2147483648 (heldSizes h)) (hlen : h.length ≤ 1048576) (hg : 0 ≤ gap ∧ gap ≤ 1048576) (hi : 0 ≤ inner ∧ inner ≤ 1048576) : -9007199255789568 ≤ inner - outerOf (h.map (·.1)) (heldSizes h) gap ∧ inner - outerOf (h.map (·.1)) (heldSizes h) gap ≤ 9007199255789568 := by
  have h1 := outer_bd (l := h.map (·.1)) (s := heldSizes h) (gap := gap) (fun x hx => by
    obtain ⟨p, hp, rfl⟩ := List.mem_map.1 hx
    exact (hr p hp).fits) hs (by rw [List.length_map]; exact hlen) (by unfold heldSizes; rw [List.length_map]; exact hlen) (by omega)
  omega
set_option maxRecDepth 100000 in
set_option maxHeartbeats 4000000 in
theorem l13Free_any (h : Held) (grows : Bool) (gap inner : Int) (gr lc m ca : Nat) (la sa : Option Addr) (R S : Nat → Prop) (w : World) (hm : m = h.length) (hr : ∀ p ∈ h, Right p.1) (hs : Near 2147483648 (heldSizes h)) (hlen : h.length ≤ 1048576) (hg : 0 ≤ gap ∧ gap ≤ 1048576) (hi : 0 ≤ inner ∧ inner ≤ 1048576) (hS : ItemSlice R w la (h.map (·.1))) (hZ : IntSlice S w sa (heldSizes h))
    (h0 : w.cell? ⟨gr, 0 + 0, none⟩ = some (.slice la m lc)) (h1 : w.cell? ⟨gr, 0 + 1, none⟩ = some (.int .i64 gap)) (h2 : w.cell? ⟨gr, 0 + 2, none⟩ = some (.int .i64 inner)) (h3 : w.cell? ⟨gr, 0 + 3, none⟩ = some (.bool grows)) (h5 : w.cell? ⟨gr, 0 + 5, none⟩ = some (.slice sa m ca)) :
    Calls Try.prog 134 #[.pointer (some ⟨gr, 0, none⟩)] w fun e w' => e = .returned (.int .i64 (restOf grows gap inner h)) ∧ Mod (fun _ => False) w w' := by
  refine calls_sx Try.func134 rfl rfl (fun a h1 h2 h3 => ((Fr.nil h1 h2).arg (h3 0 _ rfl))) ?_
  have hbd := rest_bd hr hs hlen hg hi
  have hl1 : (h.map (·.1)).length = m := by rw [List.length_map, hm]
  have hl2 : (heldSizes h).length = m := by unfold heldSizes; rw [List.length_map, hm]
  have hO := fun (w' : World) (hmo : Mod (fun _ => False) w w') => souterOf_any (h.map (·.1)) (heldSizes h) gap la sa lc ca R S w' (by omega) (by omega) (fun x hx => by
    obtain ⟨p, hp, rfl⟩ := List.mem_map.1 hx
    exact (hr p hp).fits) hs (by omega) (hS.flatKeep hmo) (SliceAt.flatKeep hZ hmo)
  rw [hl1, hl2] at hO
  unfold restOf
  generalize outerOf (h.map (·.1)) (heldSizes h) gap = V at *
  have e0 : signedL 0 = 0 := by decide
  cases grows
  · by_cases hv : 0 < inner - V
    · have e : (if (false && decide (inner - V < 0) || !false && decide (0 < inner - V)) = true then (0 : Int) else inner - V) = 0 := by rw [decide_eq_true hv]; rfl
      rw [e, e0]
      repeat (first | refine SX.seq ?_ | refine SXl.nil ?_ | refine SX.region ?_ | refine SQ.thenNormal ?_ | refine SX.condT rfl ?_ | (refine SXl.no rfl rfl rfl ?_) | (refine l_load ?_; (refine SXl.v (OpW.loadOld rfl (by assumption) (fun h => h)) rfl ?_ ?_ ?_); rfl; rfl) | (refine l_fieldAddr ?_; (refine SXl.v (OpW.fieldAddr rfl) rfl ?_ ?_ ?_); rfl; rfl) | (refine l_move ?_; (refine SXl.v (OpW.move rfl) rfl ?_ ?_ ?_); rfl; rfl) | (refine l_assign ?_; (refine SXl.v (OpW.assign rfl) rfl ?_ ?_ ?_); rfl; rfl) | (refine l_nilCheck ?_; (refine SXl.v (OpW.nilCheck rfl) rfl ?_ ?_ ?_); rfl; rfl) | (refine l_gtr ?_; (refine SXl.v (OpW.gtrT rfl rfl (by omega)) rfl ?_ ?_ ?_); rfl; rfl) | (refine l_not ?_; (refine SXl.v (OpW.not rfl) rfl ?_ ?_ ?_); rfl; rfl) | (refine l_pick ?_; (refine SXl.v (OpW.pick rfl rfl rfl) rfl ?_ ?_ ?_); rfl; rfl) | refine SX.drawn (by kernel_rfl) (by kernel_rfl) ?_ | refine SXr.nil ?_ | (refine r_call ?_; (refine SXr.v (OpW.call rfl (fun w hl => hO _ hl.mod)) rfl ?_ ?_ ?_); rfl; rfl) | (refine r_load ?_; (refine SXr.v (OpW.loadOld rfl (by assumption) (fun h => h)) rfl ?_ ?_ ?_); rfl; rfl) | (refine r_fieldAddr ?_; (refine SXr.v (OpW.fieldAddr rfl) rfl ?_ ?_ ?_); rfl; rfl) | (refine r_move ?_; (refine SXr.v (OpW.move rfl) rfl ?_ ?_ ?_); rfl; rfl) | (refine r_assign ?_; (refine SXr.v (OpW.assign rfl) rfl ?_ ?_ ?_); rfl; rfl) | (refine r_nilCheck ?_; (refine SXr.v (OpW.nilCheck rfl) rfl ?_ ?_ ?_); rfl; rfl) | (refine r_sub ?_; (refine SXr.v (OpW.subi rfl rfl (by omega) (by omega)) rfl ?_ ?_ ?_); rfl; rfl) | refine SX.ret ?_ | refine SQ.thenRet ?_)
      refine SQ.body1 rfl rfl (fun w' hl => ⟨rfl, hl.mod⟩)
    · have e : (if (false && decide (inner - V < 0) || !false && decide (0 < inner - V)) = true then (0 : Int) else inner - V) = inner - V := by rw [decide_eq_false hv]; rfl
      rw [e]
      repeat (first | refine SX.seq ?_ | refine SXl.nil ?_ | refine SX.region ?_ | refine SQ.thenNormal ?_ | refine SX.skip ?_ | refine SX.condF rfl ?_ | (refine SXl.no rfl rfl rfl ?_) | (refine l_call ?_; (refine SXl.v (OpW.calls rfl (fun w _ => l02Len_any _ _)) rfl ?_ ?_ ?_); rfl; rfl) | (refine l_load ?_; (refine SXl.v (OpW.loadOld rfl (by assumption) (fun h => h)) rfl ?_ ?_ ?_); rfl; rfl) | (refine l_fieldAddr ?_; (refine SXl.v (OpW.fieldAddr rfl) rfl ?_ ?_ ?_); rfl; rfl) | (refine l_move ?_; (refine SXl.v (OpW.move rfl) rfl ?_ ?_ ?_); rfl; rfl) | (refine l_assign ?_; (refine SXl.v (OpW.assign rfl) rfl ?_ ?_ ?_); rfl; rfl) | (refine l_nilCheck ?_; (refine SXl.v (OpW.nilCheck rfl) rfl ?_ ?_ ?_); rfl; rfl) | (refine l_gtr ?_; (refine SXl.v (OpW.gtrF rfl rfl (by omega)) rfl ?_ ?_ ?_); rfl; rfl) | (refine l_not ?_; (refine SXl.v (OpW.not rfl) rfl ?_ ?_ ?_); rfl; rfl) | (refine l_pick ?_; (refine SXl.v (OpW.pick rfl rfl rfl) rfl ?_ ?_ ?_); rfl; rfl) | refine SX.drawn (by kernel_rfl) (by kernel_rfl) ?_ | refine SXr.nil ?_ | (refine r_call ?_; (refine SXr.v (OpW.call rfl (fun w hl => hO _ hl.mod)) rfl ?_ ?_ ?_); rfl; rfl) | (refine r_load ?_; (refine SXr.v (OpW.loadOld rfl (by assumption) (fun h => h)) rfl ?_ ?_ ?_); rfl; rfl) | (refine r_fieldAddr ?_; (refine SXr.v (OpW.fieldAddr rfl) rfl ?_ ?_ ?_); rfl; rfl) | (refine r_move ?_; (refine SXr.v (OpW.move rfl) rfl ?_ ?_ ?_); rfl; rfl) | (refine r_assign ?_; (refine SXr.v (OpW.assign rfl) rfl ?_ ?_ ?_); rfl; rfl) | (refine r_nilCheck ?_; (refine SXr.v (OpW.nilCheck rfl) rfl ?_ ?_ ?_); rfl; rfl) | (refine r_sub ?_; (refine SXr.v (OpW.subi rfl rfl (by omega) (by omega)) rfl ?_ ?_ ?_); rfl; rfl) | refine SX.ret ?_)
      refine SQ.body1 rfl rfl (fun w' hl => ⟨rfl, hl.mod⟩)
  · by_cases hv : inner - V < 0
    · have e : (if (true && decide (inner - V < 0) || !true && decide (0 < inner - V)) = true then (0 : Int) else inner - V) = 0 := by rw [decide_eq_true hv]; rfl
      rw [e, e0]
      repeat (first | refine SX.seq ?_ | refine SXl.nil ?_ | refine SX.region ?_ | refine SQ.thenNormal ?_ | refine SX.condT rfl ?_ | (refine SXl.no rfl rfl rfl ?_) | (refine l_load ?_; (refine SXl.v (OpW.loadOld rfl (by assumption) (fun h => h)) rfl ?_ ?_ ?_); rfl; rfl) | (refine l_fieldAddr ?_; (refine SXl.v (OpW.fieldAddr rfl) rfl ?_ ?_ ?_); rfl; rfl) | (refine l_move ?_; (refine SXl.v (OpW.move rfl) rfl ?_ ?_ ?_); rfl; rfl) | (refine l_assign ?_; (refine SXl.v (OpW.assign rfl) rfl ?_ ?_ ?_); rfl; rfl) | (refine l_nilCheck ?_; (refine SXl.v (OpW.nilCheck rfl) rfl ?_ ?_ ?_); rfl; rfl) | (refine l_lss ?_; (refine SXl.v (OpW.lssT rfl rfl (by omega)) rfl ?_ ?_ ?_); rfl; rfl) | (refine l_pick ?_; (refine SXl.v (OpW.pick rfl rfl rfl) rfl ?_ ?_ ?_); rfl; rfl) | refine SX.drawn (by kernel_rfl) (by kernel_rfl) ?_ | refine SXr.nil ?_ | (refine r_call ?_; (refine SXr.v (OpW.call rfl (fun w hl => hO _ hl.mod)) rfl ?_ ?_ ?_); rfl; rfl) | (refine r_load ?_; (refine SXr.v (OpW.loadOld rfl (by assumption) (fun h => h)) rfl ?_ ?_ ?_); rfl; rfl) | (refine r_fieldAddr ?_; (refine SXr.v (OpW.fieldAddr rfl) rfl ?_ ?_ ?_); rfl; rfl) | (refine r_move ?_; (refine SXr.v (OpW.move rfl) rfl ?_ ?_ ?_); rfl; rfl) | (refine r_assign ?_; (refine SXr.v (OpW.assign rfl) rfl ?_ ?_ ?_); rfl; rfl) | (refine r_nilCheck ?_; (refine SXr.v (OpW.nilCheck rfl) rfl ?_ ?_ ?_); rfl; rfl) | (refine r_sub ?_; (refine SXr.v (OpW.subi rfl rfl (by omega) (by omega)) rfl ?_ ?_ ?_); rfl; rfl) | refine SX.ret ?_ | refine SQ.thenRet ?_)
      refine SQ.body1 rfl rfl (fun w' hl => ⟨rfl, hl.mod⟩)
    · have e : (if (true && decide (inner - V < 0) || !true && decide (0 < inner - V)) = true then (0 : Int) else inner - V) = inner - V := by rw [decide_eq_false hv]; rfl
      rw [e]
      repeat (first | refine SX.seq ?_ | refine SXl.nil ?_ | refine SX.region ?_ | refine SQ.thenNormal ?_ | refine SX.skip ?_ | refine SX.condF rfl ?_ | (refine SXl.no rfl rfl rfl ?_) | (refine l_call ?_; (refine SXl.v (OpW.calls rfl (fun w _ => l02Len_any _ _)) rfl ?_ ?_ ?_); rfl; rfl) | (refine l_load ?_; (refine SXl.v (OpW.loadOld rfl (by assumption) (fun h => h)) rfl ?_ ?_ ?_); rfl; rfl) | (refine l_fieldAddr ?_; (refine SXl.v (OpW.fieldAddr rfl) rfl ?_ ?_ ?_); rfl; rfl) | (refine l_move ?_; (refine SXl.v (OpW.move rfl) rfl ?_ ?_ ?_); rfl; rfl) | (refine l_assign ?_; (refine SXl.v (OpW.assign rfl) rfl ?_ ?_ ?_); rfl; rfl) | (refine l_nilCheck ?_; (refine SXl.v (OpW.nilCheck rfl) rfl ?_ ?_ ?_); rfl; rfl) | (refine l_lss ?_; (refine SXl.v (OpW.lssF rfl rfl (by omega)) rfl ?_ ?_ ?_); rfl; rfl) | (refine l_not ?_; (refine SXl.v (OpW.not rfl) rfl ?_ ?_ ?_); rfl; rfl) | (refine l_pick ?_; (refine SXl.v (OpW.pick rfl rfl rfl) rfl ?_ ?_ ?_); rfl; rfl) | refine SX.drawn (by kernel_rfl) (by kernel_rfl) ?_ | refine SXr.nil ?_ | (refine r_call ?_; (refine SXr.v (OpW.call rfl (fun w hl => hO _ hl.mod)) rfl ?_ ?_ ?_); rfl; rfl) | (refine r_load ?_; (refine SXr.v (OpW.loadOld rfl (by assumption) (fun h => h)) rfl ?_ ?_ ?_); rfl; rfl) | (refine r_fieldAddr ?_; (refine SXr.v (OpW.fieldAddr rfl) rfl ?_ ?_ ?_); rfl; rfl) | (refine r_move ?_; (refine SXr.v (OpW.move rfl) rfl ?_ ?_ ?_); rfl; rfl) | (refine r_assign ?_; (refine SXr.v (OpW.assign rfl) rfl ?_ ?_ ?_); rfl; rfl) | (refine r_nilCheck ?_; (refine SXr.v (OpW.nilCheck rfl) rfl ?_ ?_ ?_); rfl; rfl) | (refine r_sub ?_; (refine SXr.v (OpW.subi rfl rfl (by omega) (by omega)) rfl ?_ ?_ ?_); rfl; rfl) | refine SX.ret ?_)
      refine SQ.body1 rfl rfl (fun w' hl => ⟨rfl, hl.mod⟩)
end Go.Proofs.Ytdohglcjjlmhhaa
namespace Go.Proofs.Ytdohglcjjlmhhaa
open Go.RowKit

def heldL (h : Held) : List Bool := h.map fun p => p.2.isSome
theorem heldL_len (h : Held) : (heldL h).length = h.length := List.length_map _
theorem sizes_len (h : Held) : (heldSizes h).length = h.length := List.length_map _
/-- A line whose items are right, whose sizes are lengths. -/
structure Line (h : Held) : Prop where
  right : ∀ p ∈ h, Right p.1
  size : ∀ p ∈ h, ∀ s, p.2 = some s → 0 ≤ s ∧ s ≤ 1048576
  few : h.length ≤ 12
theorem Line.near {h : Held} (hl : Line h) : Near 2147483648 (heldSizes h) := fun y hy => by
  obtain ⟨p, hp, rfl⟩ := List.mem_map.1 hy
  have h1 := (hl.right p hp).base
  cases e : p.2 with
  | none => simp only [Option.getD_none]; omega
  | some s => have := hl.size p hp s e; simp only [Option.getD_some]; omega
theorem free_mem : ∀ {h : Held} {x : Item}, x ∈ freeItems h → (x, none) ∈ h
  | (y, none) :: t, x, hx => by
    rw [freeItems] at hx
    rcases List.mem_cons.1 hx with rfl | hx
    · exact List.mem_cons_self
    · exact List.mem_cons_of_mem _ (free_mem hx)
  | (y, some s) :: t, x, hx => by
    rw [freeItems] at hx
    exact List.mem_cons_of_mem _ (free_mem hx)
  | [], x, hx => by simp [freeItems] at hx
theorem Line.free {h : Held} (hl : Line h) {x : Item} (hx : x ∈ freeItems h) : Right x := hl.right _ (free_mem hx)
theorem items_len (h : Held) : (freeItems h).length ≤ h.length := by
  rw [← freeN_items]
  exact List.length_filter_le _ _
theorem Line.take {h : Held} (hl : Line h) (k : Nat) : Line (h.take k) := ⟨fun p hp => hl.right p (List.mem_of_mem_take hp), fun p hp => hl.size p (List.mem_of_mem_take hp), by rw [List.length_take]; have := hl.few; omega⟩
theorem Line.weights {h : Held} (hl : Line h) (g : Bool) : wOk ((freeItems h).map (weightOf g)) = true ∧ 0 ≤ ((freeItems h).map (weightOf g)).sum ∧ ((freeItems h).map (weightOf g)).sum ≤ 12884901888 := by
  have hw : ∀ y ∈ (freeItems h).map (weightOf g), 0 ≤ y ∧ y ≤ 1073741824 := fun y hy => by
    obtain ⟨x, hx, rfl⟩ := List.mem_map.1 hy
    have := (hl.free hx).weight g
    omega
  have h1 := sum_bd hw
  have h2 := items_len h
  have h3 := hl.few
  rw [List.length_map] at h1
  refine ⟨?_, h1.1, by omega⟩
  unfold wOk
  rw [Bool.and_eq_true, List.all_eq_true, decide_eq_true_iff, List.length_map]
  exact ⟨fun y hy => inB_true (hw y hy).1 (hw y hy).2, by omega⟩
theorem share_size {grows : Bool} {all rest : Int} : ∀ (h : Held) (pre : Int), Line h → ∀ p ∈ shareOut grows all rest pre h, ∀ s, p.2 = some s → 0 ≤ s ∧ s ≤ 1048576
  | [], _, _, p, hp, _, _ => by simp [shareOut] at hp
  | (x, some u) :: t, pre, hl, p, hp, s, hs => by
    rw [shareOut] at hp
    have ht : Line t := ⟨fun q hq => hl.right q (List.mem_cons_of_mem _ hq), fun q hq => hl.size q (List.mem_cons_of_mem _ hq), by have := hl.few; rw [List.length_cons] at this; omega⟩
    rcases List.mem_cons.1 hp with rfl | hp
    · exact hl.size _ List.mem_cons_self s hs
    · exact share_size t pre ht p hp s hs
  | (x, none) :: t, pre, hl, p, hp, s, hs => by
    rw [shareOut] at hp
    have ht : Line t := ⟨fun q hq => hl.right q (List.mem_cons_of_mem _ hq), fun q hq => hl.size q (List.mem_cons_of_mem _ hq), by have := hl.few; rw [List.length_cons] at this; omega⟩
    rcases List.mem_cons.1 hp with rfl | hp
    · rw [← Option.some.inj hs]; omega
    · exact share_size t _ ht p hp s hs
/-- The numbers of one item in a pass. -/
structure Nums (all rest : Int) (g : Bool) (x : Item) : Prop where
  base : 0 ≤ x.base * all ∧ x.base * all ≤ 13510798882111488
  least : 0 ≤ x.least * all ∧ x.least * all ≤ 13510798882111488
  upper : 0 ≤ upperOf x * all ∧ upperOf x * all ≤ 13510798882111488
  part : -1099511627776000 ≤ rest * weightOf g x ∧ rest * weightOf g x ≤ 1099511627776000
theorem nums_of {all rest : Int} {g : Bool} {x : Item} (hx : Right x) (ha : 0 ≤ all ∧ all ≤ 12884901888) (hr : -1048576 ≤ rest ∧ rest ≤ 1048576) : Nums all rest g x := by
  have h1 := mul_near hx.base ha
  have h2 := mul_near hx.least ha
  have h3 := mul_near hx.upper ha
  have h4 := mul_both hr (hx.weight g)
  exact ⟨by omega, by omega, by omega, by omega⟩
theorem Nums.over {all rest : Int} {g : Bool} {x : Item} (h : Nums all rest g x) : -27021597764222976 ≤ overOf all rest (weightOf g x) x ∧ overOf all rest (weightOf g x) x ≤ 27021597764222976 := by
  obtain ⟨h1, h2, h3, h4⟩ := h
  unfold overOf
  split
  · omega
  · split <;> omega
theorem restOf_bd (g : Bool) (gap inner : Int) (h : Held) : -1048576 ≤ restOf g gap inner h ∧ restOf g gap inner h ≤ 1048576 := signedL_bd _
theorem signed_idem {n : Int} (h : -1048576 ≤ n ∧ n ≤ 1048576) : signedL n = n := by
  unfold signedL brought
  rw [if_neg (by omega), if_neg (by omega)]
theorem rest_signed (g : Bool) (gap inner : Int) (h : Held) : signedL (restOf g gap inner h) = restOf g gap inner h := signed_idem (restOf_bd g gap inner h)
def oversT (all rest : Int) (g : Bool) (l : List Item) : List Int := l.map fun x => overOf all rest (weightOf g x) x
theorem overs_sum {all rest : Int} {g : Bool} {l : List Item} (h : ∀ x ∈ l, Nums all rest g x) (hl : l.length ≤ 12) (k : Nat) : -324259173170675712 ≤ ((oversT all rest g l).take k).sum ∧ ((oversT all rest g l).take k).sum ≤ 324259173170675712 := by
  have h1 := sumN_bd 27021597764222976 ((oversT all rest g l).take k) fun y hy => by
    obtain ⟨x, hx, rfl⟩ := List.mem_map.1 (List.mem_of_mem_take hy)
    exact (h x hx).over
  have h2 : ((oversT all rest g l).take k).length ≤ 12 := by
    rw [List.length_take]; unfold oversT; rw [List.length_map]; omega
  omega
theorem set_self {α : Type} {l : List α} {i : Nat} {v : α} (h : l[i]? = some v) : l.set i v = l := by
  obtain ⟨hi, rfl⟩ := List.getElem?_eq_some_iff.1 h
  exact List.set_getElem_self hi
/-- Cells that are filled one by one. -/
def part (xs : List Int) (k : Nat) : List Value := (xs.take k).map (Value.int .i64) ++ List.replicate (xs.length - k) (.int .i64 0)
theorem part_len (xs : List Int) (k : Nat) (h : k ≤ xs.length) : (part xs k).length = xs.length := by
  unfold part; simp; omega
theorem part_at {xs : List Int} {k : Nat} (h : k < xs.length) : (part xs k)[0 + k]? = some (.int .i64 0) := by
  have e : ((xs.take k).map (Value.int .i64)).length = k := by simp; omega
  unfold part
  rw [Nat.zero_add, List.getElem?_append_right (by omega), e, Nat.sub_self, List.getElem?_replicate, if_pos (by omega)]
theorem part_set {xs : List Int} {k : Nat} {y : Int} (h : xs[k]? = some y) : (part xs k).set (0 + k) (.int .i64 y) = part xs (k + 1) := by
  have hlt := (List.getElem?_eq_some_iff.1 h).1
  have e : ((xs.take k).map (Value.int .i64)).length = k := by simp; omega
  unfold part
  rw [Nat.zero_add, List.set_append_right _ _ (by omega), e, Nat.sub_self, show xs.length - k = (xs.length - (k + 1)) + 1 by omega, List.replicate_succ, List.set_cons_zero, List.take_add_one, h, List.map_append]
  simp
theorem part_zero {xs : List Int} {k : Nat} (h : xs[k]? = some 0) : part xs k = part xs (k + 1) := by
  rw [← part_set h]
  have := part_at (List.getElem?_eq_some_iff.1 h).1
  exact (set_self this).symm
theorem part_new {xs : List Int} {k : Nat} {y : Int} (h : xs[k]? = some y) : (part xs (k + 1))[0 + k]? = some (.int .i64 y) := by
  have hlt := (List.getElem?_eq_some_iff.1 h).1
  unfold part
  rw [Nat.zero_add, List.getElem?_append_left (by simp; omega), List.getElem?_map, List.getElem?_take_of_lt (by omega), h]
  rfl
theorem part_all (xs : List Int) : part xs xs.length = xs.map (Value.int .i64) := by simp [part]
theorem held_at {h : Held} {i : Nat} {x : Item} {o : Option Int} (hx : h[i]? = some (x, o)) (sh : List Value) : ((heldL h).map Value.bool ++ sh)[0 + i]? = some (.bool o.isSome) := by
  have hlt := (List.getElem?_eq_some_iff.1 hx).1
  unfold heldL
  rw [Nat.zero_add, List.getElem?_append_left (by simpa using hlt), List.getElem?_map, List.getElem?_map, hx]
  rfl
theorem held_set {h : Held} {i : Nat} (hi : i < h.length) (x : Item) (s : Int) (sh : List Value) : ((heldL h).map Value.bool ++ sh).set (0 + i) (.bool true) = (heldL (h.set i (x, some s))).map Value.bool ++ sh := by
  unfold heldL
  rw [Nat.zero_add, List.set_append_left _ _ (by simpa using hi), List.map_set, List.map_set]
  rfl
theorem size_set {h : Held} {i : Nat} (hi : i < h.length) (x : Item) (s : Int) (ss : List Value) : ((heldSizes h).map (Value.int .i64) ++ ss).set (0 + i) (.int .i64 s) = (heldSizes (h.set i (x, some s))).map (Value.int .i64) ++ ss := by
  unfold heldSizes
  rw [Nat.zero_add, List.set_append_left _ _ (by simpa using hi), List.map_set, List.map_set]
  rfl
theorem set_same {h : Held} {i : Nat} {p : Item × Option Int} (hx : h[i]? = some p) : h.set i p = h := set_self hx
theorem ints_flat (zs : List Int) : (zs.map icell).flatten = zs.map (Value.int .i64) := by
  induction zs with
  | nil => rfl
  | cons z zs ih => rw [List.map_cons, List.flatten_cons, ih]; rfl
/-- The places, as numbers. -/
def placesI (h : Held) : List Int := (freeIx h).map fun k : Nat => (k : Int)
theorem places_get {h : Held} {k i : Nat} (hk : (freeIx h)[k]? = some i) : (placesI h)[k]? = some (i : Int) := by
  unfold placesI; rw [List.getElem?_map, hk]; rfl
theorem places_len (h : Held) : (placesI h).length = (freeItems h).length := by
  unfold placesI freeIx; rw [List.length_map, freeIxO_len]
end Go.Proofs.Ytdohglcjjlmhhaa
namespace Go.Proofs.Ytdohglcjjlmhhaa
open Go.RowKit

/-- The sizes as the program keeps them. -/
def szI (h : Held) : List Int := h.map fun p => p.2.getD (hyp p.1)
theorem szI_len (h : Held) : (szI h).length = h.length := List.length_map _
theorem szI_set {h : Held} {i : Nat} (hi : i < h.length) (x : Item) (s : Int) (ss : List Value) : ((szI h).map (Value.int .i64) ++ ss).set (0 + i) (.int .i64 s) = (szI (h.set i (x, some s))).map (Value.int .i64) ++ ss := by
  unfold szI
  rw [Nat.zero_add, List.set_append_left _ _ (by simpa using hi), List.map_set, List.map_set]
  rfl
theorem szI_done {h : Held} (h0 : freeN h = 0) : szI h = heldSizes h := by
  unfold szI heldSizes
  refine List.map_congr_left fun p hp => ?_
  cases e : p.2 with
  | some s => rfl
  | none =>
    have : p ∈ h.filter fun q => q.2.isNone := List.mem_filter.2 ⟨hp, by rw [e]; rfl⟩
    unfold freeN at h0
    rw [List.length_eq_zero_iff.1 h0] at this
    simp at this
def cpTo (h : Held) (i : Nat) : List Int := heldSizes (h.take i) ++ szI (h.drop i)
theorem cpTo_len (h : Held) (i : Nat) : (cpTo h i).length = h.length := by
  unfold cpTo
  rw [List.length_append, sizes_len, szI_len, ← List.length_append, List.take_append_drop]
theorem cpTo_all (h : Held) : cpTo h h.length = heldSizes h := by
  unfold cpTo
  rw [List.take_length, List.drop_length]
  simp [szI]
theorem cpTo_free {h : Held} {i : Nat} {x : Item} (hx : h[i]? = some (x, none)) : cpTo h (i + 1) = (cpTo h i).set i x.base := by
  obtain ⟨hi, e⟩ := List.getElem?_eq_some_iff.1 hx
  have e2 : h.drop i = (x, none) :: h.drop (i + 1) := by rw [List.drop_eq_getElem_cons hi, e]
  have hl : (heldSizes (h.take i)).length = i := by rw [sizes_len, List.length_take]; omega
  unfold cpTo
  rw [e2, List.set_append_right _ _ (by omega), hl, Nat.sub_self, List.take_add_one, hx]
  simp [heldSizes, szI]
theorem cpTo_held {h : Held} {i : Nat} {x : Item} {s : Int} (hx : h[i]? = some (x, some s)) : cpTo h (i + 1) = cpTo h i := by
  obtain ⟨hi, e⟩ := List.getElem?_eq_some_iff.1 hx
  have e2 : h.drop i = (x, some s) :: h.drop (i + 1) := by rw [List.drop_eq_getElem_cons hi, e]
  unfold cpTo
  rw [e2, List.take_add_one, hx]
  simp [heldSizes, szI]
theorem freeIxO_mem : ∀ (h : Held) (o j : Nat) (x : Item), h[j]? = some (x, none) → ∃ k : Nat, (freeIxO o h)[k]? = some (o + j) ∧ (freeItems h)[k]? = some x
  | [], o, j, x, hj => by simp at hj
  | (y, none) :: t, o, 0, x, hj => by
    rw [List.getElem?_cons_zero] at hj
    obtain ⟨rfl, -⟩ := Prod.mk.inj (Option.some.inj hj)
    exact ⟨0, by simp [freeIxO], by simp [freeItems]⟩
  | (y, none) :: t, o, j + 1, x, hj => by
    rw [List.getElem?_cons_succ] at hj
    obtain ⟨k, h1, h2⟩ := freeIxO_mem t (o + 1) j x hj
    exact ⟨k + 1, by rw [freeIxO, List.getElem?_cons_succ, h1]; congr 1; omega, by rw [freeItems, List.getElem?_cons_succ]; exact h2⟩
  | (y, some s) :: t, o, 0, x, hj => by simp at hj
  | (y, some s) :: t, o, j + 1, x, hj => by
    rw [List.getElem?_cons_succ] at hj
    obtain ⟨k, h1, h2⟩ := freeIxO_mem t (o + 1) j x hj
    exact ⟨k, by rw [freeIxO, h1]; congr 1; omega, by rw [freeItems]; exact h2⟩
/-- The places of those whose number is told by p, among the first k that are free. -/
def pickTo (h : Held) (p : Item → Bool) (k : Nat) : List Nat := (((freeIx h).zip (freeItems h)).take k).filterMap fun q => if p q.2 then some q.1 else none
theorem pick_next {h : Held} {p : Item → Bool} {k j : Nat} {x : Item} (hj : (freeIx h)[k]? = some j) (hx : (freeItems h)[k]? = some x) : pickTo h p (k + 1) = pickTo h p k ++ (if p x then [j] else []) := by
  have hz : ((freeIx h).zip (freeItems h))[k]? = some (j, x) := by
    rw [List.getElem?_zip_eq_some]
    exact ⟨hj, hx⟩
  unfold pickTo
  rw [List.take_add_one, hz, List.filterMap_append]
  congr 1
  simp only [Option.toList_some, List.filterMap_cons, List.filterMap_nil]
  cases p x <;> simp
theorem pick_len (h : Held) (p : Item → Bool) (k : Nat) : (pickTo h p k).length ≤ k := by
  refine Nat.le_trans (List.length_filterMap_le _ _) ?_
  rw [List.length_take]
  omega
theorem zip_len (h : Held) : ((freeIx h).zip (freeItems h)).length = (freeItems h).length := by
  unfold freeIx
  rw [List.length_zip, freeIxO_len, Nat.min_self]
theorem pick_mem {h : Held} {p : Item → Bool} {j : Nat} : j ∈ pickTo h p (freeItems h).length ↔ ∃ x, h[j]? = some (x, none) ∧ p x = true := by
  unfold pickTo
  rw [List.take_of_length_le (by rw [zip_len]; exact Nat.le_refl _), List.mem_filterMap]
  constructor
  · rintro ⟨⟨i, x⟩, hq, he⟩
    simp only at he
    split at he
    · rename_i hp
      obtain rfl := Option.some.inj he
      obtain ⟨k, hk⟩ := List.mem_iff_getElem?.1 hq
      rw [List.getElem?_zip_eq_some] at hk
      obtain ⟨y, h1, h2⟩ := freeIx_get hk.1
      rw [hk.2] at h2
      obtain rfl := Option.some.inj h2
      exact ⟨x, h1, hp⟩
    · cases he
  · rintro ⟨x, hx, hp⟩
    obtain ⟨k, h1, h2⟩ := freeIxO_mem h 0 j x hx
    rw [Nat.zero_add] at h1
    refine ⟨(j, x), List.mem_iff_getElem?.2 ⟨k, ?_⟩, by simp [hp]⟩
    rw [List.getElem?_zip_eq_some]
    exact ⟨h1, h2⟩
def lowP (g : Bool) (all rest : Int) (x : Item) : Bool := decide (0 < overOf all rest (weightOf g x) x)
def highP (g : Bool) (all rest : Int) (x : Item) : Bool := decide (overOf all rest (weightOf g x) x < 0)
/-- Both lists are empty where none breaks its limits. -/
theorem none_low {g : Bool} {all rest : Int} {h : Held} : (pickTo h (lowP g all rest) (freeItems h).length).length + (pickTo h (highP g all rest) (freeItems h).length).length = 0 ↔ noneOver g all rest h = true := by
  unfold noneOver
  rw [overs_items, List.all_eq_true]
  constructor
  · intro h0 o ho
    obtain ⟨x, hx, rfl⟩ := List.mem_map.1 ho
    have e1 := List.length_eq_zero_iff.1 (Nat.eq_zero_of_add_eq_zero_right h0)
    have e2 := List.length_eq_zero_iff.1 (Nat.eq_zero_of_add_eq_zero_left h0)
    obtain ⟨j, hj⟩ := List.mem_iff_getElem?.1 (free_mem hx)
    refine decide_eq_true (Classical.byContradiction fun hne => ?_)
    rcases Int.lt_or_lt_of_ne hne with hlt | hlt
    · have : j ∈ pickTo h (highP g all rest) (freeItems h).length := pick_mem.2 ⟨x, hj, decide_eq_true hlt⟩
      rw [e2] at this
      simp at this
    · have : j ∈ pickTo h (lowP g all rest) (freeItems h).length := pick_mem.2 ⟨x, hj, decide_eq_true hlt⟩
      rw [e1] at this
      simp at this
  · intro ha
    have hz : ∀ (j : Nat) (x : Item), h[j]? = some (x, none) → overOf all rest (weightOf g x) x = 0 := fun j x hx => by
      obtain ⟨k, -, h2⟩ := freeIxO_mem h 0 j x hx
      exact of_decide_eq_true (ha _ (List.mem_map.2 ⟨x, List.mem_of_getElem? h2, rfl⟩))
    have e1 : pickTo h (lowP g all rest) (freeItems h).length = [] := by
      refine List.eq_nil_iff_forall_not_mem.2 fun j hj => ?_
      obtain ⟨x, hx, hp⟩ := pick_mem.1 hj
      have := of_decide_eq_true hp
      rw [hz j x hx] at this
      omega
    have e2 : pickTo h (highP g all rest) (freeItems h).length = [] := by
      refine List.eq_nil_iff_forall_not_mem.2 fun j hj => ?_
      obtain ⟨x, hx, hp⟩ := pick_mem.1 hj
      have := of_decide_eq_true hp
      rw [hz j x hx] at this
      omega
    rw [e1, e2]
    rfl
/-- The two loops hold whom the pass holds. -/
theorem hold_sets (g : Bool) (all rest S : Int) (h : Held) :
    (if S ≤ 0 then setF (pickTo h (highP g all rest) (freeItems h).length) upperOf (if 0 ≤ S then setF (pickTo h (lowP g all rest) (freeItems h).length) (·.least) h else h) else (if 0 ≤ S then setF (pickTo h (lowP g all rest) (freeItems h).length) (·.least) h else h)) = h.map (holdOne g all rest S) := by
  refine List.ext_getElem? fun j => ?_
  rw [List.getElem?_map]
  have key : ∀ (H : Held), (H = setF (pickTo h (lowP g all rest) (freeItems h).length) (·.least) h ∧ 0 ≤ S) ∨ (H = h ∧ ¬ 0 ≤ S) → (if S ≤ 0 then setF (pickTo h (highP g all rest) (freeItems h).length) upperOf H else H)[j]? = (h[j]?).map (holdOne g all rest S) := fun H hH => by
    cases hj : h[j]? with
    | none =>
      have hHj : H[j]? = none := by
        rcases hH with ⟨rfl, -⟩ | ⟨rfl, -⟩
        · rw [setF_get, hj]; rfl
        · exact hj
      split
      · rw [setF_get, hHj]; rfl
      · exact hHj
    | some p =>
      obtain ⟨x, o⟩ := p
      cases o with
      | some s =>
        have n1 : ∀ P : Item → Bool, j ∉ pickTo h P (freeItems h).length := fun P hm => by
          obtain ⟨y, hy, _⟩ := pick_mem.1 hm
          rw [hj] at hy
          cases hy
        have hHj : H[j]? = some (x, some s) := by
          rcases hH with ⟨rfl, -⟩ | ⟨rfl, -⟩
          · rw [setF_get, hj, Option.map_some, if_neg (n1 _)]
          · exact hj
        have e : holdOne g all rest S (x, some s) = (x, some s) := rfl
        rw [Option.map_some, e]
        split
        · rw [setF_get, hHj, Option.map_some, if_neg (n1 _)]
        · exact hHj
      | none =>
        have m1 : j ∈ pickTo h (lowP g all rest) (freeItems h).length ↔ 0 < overOf all rest (weightOf g x) x := by
          rw [pick_mem]
          constructor
          · rintro ⟨y, hy, hp⟩
            rw [hj] at hy
            obtain ⟨rfl, -⟩ := Prod.mk.inj (Option.some.inj hy)
            exact of_decide_eq_true hp
          · exact fun hp => ⟨x, hj, decide_eq_true hp⟩
        have m2 : j ∈ pickTo h (highP g all rest) (freeItems h).length ↔ overOf all rest (weightOf g x) x < 0 := by
          rw [pick_mem]
          constructor
          · rintro ⟨y, hy, hp⟩
            rw [hj] at hy
            obtain ⟨rfl, -⟩ := Prod.mk.inj (Option.some.inj hy)
            exact of_decide_eq_true hp
          · exact fun hp => ⟨x, hj, decide_eq_true hp⟩
        have hHj : H[j]? = some (if 0 < overOf all rest (weightOf g x) x ∧ 0 ≤ S then (x, some x.least) else (x, none)) := by
          rcases hH with ⟨rfl, hs⟩ | ⟨rfl, hs⟩
          · rw [setF_get, hj, Option.map_some]
            by_cases hp : 0 < overOf all rest (weightOf g x) x
            · rw [if_pos (m1.2 hp), if_pos ⟨hp, hs⟩]
            · rw [if_neg (fun hm => hp (m1.1 hm)), if_neg (fun hc => hp hc.1)]
          · rw [hj, if_neg (fun hc => hs hc.2)]
        rw [Option.map_some]
        unfold holdOne
        simp only
        split
        · rename_i hS
          rw [setF_get, hHj, Option.map_some]
          by_cases hp : 0 < overOf all rest (weightOf g x) x ∧ 0 ≤ S
          · rw [if_pos hp, if_neg (fun hm => by have := m2.1 hm; omega)]
            rw [if_pos hp]
          · rw [if_neg hp]
            by_cases hq : overOf all rest (weightOf g x) x < 0
            · rw [if_pos (m2.2 hq), if_neg hp, if_pos ⟨hq, hS⟩]
            · rw [if_neg (fun hm => hq (m2.1 hm)), if_neg hp, if_neg (fun hc => hq hc.1)]
        · rename_i hS
          rw [hHj]
          by_cases hp : 0 < overOf all rest (weightOf g x) x ∧ 0 ≤ S
          · rw [if_pos hp, if_pos hp]
          · rw [if_neg hp, if_neg hp, if_neg (fun hc => hS hc.2)]
  refine key _ ?_
  split
  · rename_i hS; exact .inl ⟨rfl, hS⟩
  · rename_i hS; exact .inr ⟨rfl, hS⟩
theorem setF_next {is : List Nat} {k j : Nat} {val : Item → Int} {h : Held} {x : Item} {o : Option Int} (hk : is[k]? = some j) (hx : (setF (is.take k) val h)[j]? = some (x, o)) : setF (is.take (k + 1)) val h = (setF (is.take k) val h).set j (x, some (val x)) := by
  rw [List.take_add_one, hk]
  show setF (is.take k ++ [j]) val h = _
  rw [setF_snoc]
  refine List.ext_getElem? fun m => ?_
  rw [List.getElem?_modify, List.getElem?_set]
  by_cases e : j = m
  · subst e
    rw [if_pos rfl, if_pos (List.getElem?_eq_some_iff.1 hx).1, hx]
    simp
  · rw [if_neg e]
    simp [e]
theorem setF_item {is : List Nat} {val : Item → Int} {h : Held} {j : Nat} {x : Item} {o : Option Int} (hx : h[j]? = some (x, o)) : ∃ o', (setF is val h)[j]? = some (x, o') := by
  rw [setF_get, hx, Option.map_some]
  split
  · exact ⟨_, rfl⟩
  · exact ⟨_, rfl⟩
theorem setF_len (is : List Nat) (val : Item → Int) (h : Held) : (setF is val h).length = h.length := by
  have := congrArg List.length (setF_fst val is h)
  rwa [List.length_map, List.length_map] at this
end Go.Proofs.Ytdohglcjjlmhhaa
namespace Go.Proofs.Ytdohglcjjlmhhaa
open Go.RowKit
set_option linter.unusedVariables false
set_option linter.unusedSimpArgs false

section
variable {P : Program} {n : Nat} {W : World} {R : Rg W} {L : List Blk} {O : List Own} {E : List Res} {f : List (Nat × Value)} {Q : Exit → Go.Act → World → Prop} {ops : Array Oper} {rest : List Oper}
variable {d : Option Nat} {dn : Nat} {x y : Operand} {ty T T' : TypeId} {pos : String} {af : Array Edge} {gd : Option (Nat × Bool)}
theorem madeCells_oneI (z : Value) (m : Nat) : madeCells #[z] m = (List.replicate m z).toArray := by
  apply Array.ext_getElem?
  intro i
  by_cases h : i < m <;> simp [madeCells, Nat.mod_one, Array.getElem?_map, Array.getElem?_range, List.getElem?_replicate, Array.getElem?_replicate, h]
/-- A slice of n zero elements of one cell. -/
theorem SXl.makeI {e by_ m : Nat} {z : Value} [t : TSl P T e 1] [te : TEl P e 1 by_ z] (hw : wantO ops f ⟨some dn, .makeSlice T x y, ty, pos, af, gd⟩ = some true) (hd : Nat.blt dn n = true) (hx : evO f x = some (.int .i64 (m : Int))) (hy : evO f y = some (.int .i64 (m : Int))) (hz : z.cells = #[z]) (hm : m ≤ 16777216) (hby : by_ * m ≤ 281474976710656)
    (h : ∀ g, SXl P n W R ops (⟨g, List.replicate m z, e⟩ :: L) O E ((dn, .slice (some ⟨g, 0, none⟩) m m) :: f) rest Q) : SXl P n W R ops L O E f (⟨some dn, .makeSlice T x y, ty, pos, af, gd⟩ :: rest) Q :=
  SXl.stepn (V := fun g => .slice (some ⟨g, 0, none⟩) m m) (O' := fun _ => O) hw rfl hd (fun a w hf hl => by
    obtain ⟨i0, q1, q2, q3, q4, q5, q6⟩ := te.h
    refine ⟨w.heap.size, w.alloc (.cells (List.replicate m z).toArray e), ?_, hl.alloc _ e⟩
    have hb : (i0.bytes : Int) * (m : Int) ≤ 281474976710656 := by rw [q4]; omega
    have := run_makeSlice (P := P) w T e i0 z t.h.1 q1 q2 .i64 .i64 m m (by omega) (by omega) (by rw [q3]; simp; omega) hb (by omega)
    rw [q3, hz, Nat.mul_one, Int.toNat_natCast, madeCells_oneI] at this
    simp [execOp, hf.eval hx, hf.eval hy, this]) h
theorem l_makeSliceI (h : SXl P n W R ops L O E f (⟨d, .makeSlice T x y, ty, pos, af, gd⟩ :: rest) Q) : SXl P n W R ops L O E f (⟨d, .makeSlice T x y, ty, pos, af, gd⟩ :: rest) Q := h
end
end Go.Proofs.Ytdohglcjjlmhhaa
namespace Go.Proofs.Ytdohglcjjlmhhaa
open Go.RowKit

set_option maxRecDepth 100000 in
set_option maxHeartbeats 2000000 in
theorem shares_any (n : Int) (l : List Int) (a : Option Addr) (c : Nat) (R : Nat → Prop) (w : World) (hl : l.length ≤ 9223372036854775807) (h : IntSlice R w a l) :
    Calls Try.prog 132 #[.int .i64 n, .slice a l.length c] w (NewSlice 3 1 w (shares n l).length ((shares n l).map icell).flatten) := by
  have H := hid h
  clear h
  by_cases hw : wOk l = true
  · have hsh : shares n l = sharesTo (signedL n) l l.length := by unfold shares; rw [if_pos hw]
    rw [hsh, sharesTo_length]
    have hl64 := (wOk_bd hw).1
    obtain ⟨m0, m1⟩ := signedL_bd n
    have Hw := hid hw
    obtain ⟨s0, s1⟩ := sumTo_bd hw l.length
    obtain ⟨i0, hi, hz0, hz1, hz2⟩ := info_parts info_int
    have Hi := hid hi
    have Hz0 := hid hz0
    have Hz1 := hid hz1
    have Hz2 := hid hz2
    clear hi hz0 hz1 hz2 hsh
    go_enter Try.func132, Try.ntmps132
    go_wp2_with fail
    refine (wOk_any l _ _ R _ hl (H.out.flatKeep ?_)).mono ?_
    · (repeat (first | with_reducible exact Mod.refl _ _ | with_reducible refine Mod.drewN ?_ _ | with_reducible refine Mod.drew ?_ | with_reducible refine Mod.alloc ?_ _ | ((with_reducible refine Mod.setNew ?_ ?_ _ _ _); (rotate_left; omega)) | with_reducible refine Mod.setAt ?_ _ _ _ ))
    rintro e w' ⟨rfl, rfl⟩
    rw [hw]
    clear hw
    go_wp2_with (first | (go_at_call 96; refine (signed_any _ _).mono ?_; rintro e w' ⟨rfl, rfl⟩))
    go_loop [5, 19] (fun z i => ∃ k : Nat, k ≤ l.length ∧ i = .int .i64 k ∧ z = .int .i64 (sumTo l k)) (fun _ i => l.length - (intOf i).toNat)
    case atStart => exact ⟨0, by omega, rfl, rfl⟩
    case round =>
      obtain ⟨k, hk, rfl, rfl⟩ := hrel
      obtain ⟨t0, t1⟩ := sumTo_bd Hw.out k
      by_cases hlt : k < l.length
      · obtain ⟨b, o, x, rfl, _, _, hx, hc⟩ := H.out.get hlt
        have e := hid (sumTo_succ hx)
        have hxb := (wOk_bd Hw.out).2 x (List.mem_of_getElem? hx.out)
        obtain ⟨x0, x1⟩ := hxb
        go_wp2
        go_round
        case rel => exact ⟨k + 1, by omega, by go_num, by rw [e.out]⟩
        case measure => simp [intOf]; omega
      · have hk' : k = l.length := by omega
        subst hk'
        go_wp2_with (first | (go_at_call 96; refine (signed_any _ _).mono ?_; rintro e w' ⟨rfl, rfl⟩))
        go_loopw [8, 9, 29] (fun v z i wr => ∃ (k : Nat) (a' : Option Addr) (c' : Nat), k ≤ l.length ∧ i = .int .i64 k ∧ z = .int .i64 (sumTo l k) ∧ v = .slice a' k c' ∧ wr.ownsRow w.heap.size 3 1 (.slice a' k c') k ((sharesTo (signedL n) l k).map icell).flatten ∧ Mod (fun _ => False) w wr) (fun _ _ i _ => l.length - (intOf i).toNat)
        case atStart => exact ⟨0, _, _, by omega, rfl, rfl, rfl, World.ownsRow_nil _ _ _ _, Mod.refl _ w⟩
        case round =>
          obtain ⟨k, a', c', hk2, rfl, rfl, rfl, hO, hM⟩ := hrel
          obtain ⟨t2, t3⟩ := sumTo_bd Hw.out k
          by_cases hlt2 : k < l.length
          · obtain ⟨b, o, x, rfl, _, _, hx, hc⟩ := IntSlice.get (H.out.flatKeep hM) hlt2
            have e := sumTo_succ hx
            have hxb := (wOk_bd Hw.out).2 x (List.mem_of_getElem? hx.out)
            obtain ⟨x0, x1⟩ := hxb
            obtain ⟨t4, t5⟩ := sumTo_bd Hw.out (k + 1)
            rw [e] at t4 t5
            have p1 := mul_bd m0 m1 t4 t5
            have p2 := mul_bd m0 m1 t2 t3
            obtain ⟨p1, p1'⟩ := p1
            obtain ⟨p2, p2'⟩ := p2
            obtain ⟨f1, f1'⟩ := fdiv_bd0 (b := sumTo l l.length) (show (0 : Int) ≤ 72057594037927936 by omega) p1 p1'
            obtain ⟨f2, f2'⟩ := fdiv_bd0 (b := sumTo l l.length) (show (0 : Int) ≤ 72057594037927936 by omega) p2 p2'
            have E := hid e
            clear e
            have h3 : k + 1 ≤ maxLen := by unfold maxLen; omega
            have h4 : (k + 1) * 8 ≤ 140737488355328 := by omega
            go_wp2_with (first | (at_builtin; refine wpList_append_own _ rfl _ _ 29 rfl w.heap.size 3 i0 _ 1 8 Try.underlying29 Hi.out Hz0.out Hz1.out Hz2.out rfl (by decide) _ _ _ rfl (hO.alloc _) ⟨wr.heap.size, 0, none⟩ 1 1 [.int .i64 (fdiv (signedL n * (sumTo l k + x)) (sumTo l l.length) - fdiv (signedL n * sumTo l k) (sumTo l l.length))] rfl rfl (cells_new _ _ _) (ones_of rfl) h3 h4 (own_room hM _) ?_) | (go_at_call 139; refine (fdiv_any _ _ (by omega) (by omega) (by omega) _).mono ?_; rintro e w' ⟨rfl, rfl⟩))
            intro v' w1 hown1 hgrow _
            obtain ⟨a1, c1', hv⟩ := own_form hown1
            rw [hv] at hown1 ⊢
            have hM1 := hM.appended hO (Nat.le_refl _) hgrow
            clear hv hgrow h3 h4
            go_wp2
            go_roundw
            case rel =>
              refine ⟨k + 1, a1, c1', by omega, by go_num, by rw [E.out], rfl, ?_, hM1⟩
              rw [sharesTo_succ, icells_append]
              have es : shareOf (signedL n) l k = fdiv (signedL n * (sumTo l k + x)) (sumTo l l.length) - fdiv (signedL n * sumTo l k) (sumTo l l.length) := by unfold shareOf; rw [E.out]
              simpa [icell, es] using hown1
            case measure => simp [intOf]; omega
          · have hk3 : k = l.length := by omega
            subst hk3
            go_wp2
            go_ret
            exact ⟨a', c', rfl, hO, hM⟩
  · replace hw : wOk l = false := by simpa using hw
    have hsh : shares n l = [] := by unfold shares; rw [hw]; rfl
    rw [hsh]
    clear hsh
    go_enter Try.func132, Try.ntmps132
    go_wp2_with fail
    refine (wOk_any l _ _ R _ hl (H.out.flatKeep ?_)).mono ?_
    · (repeat (first | with_reducible exact Mod.refl _ _ | with_reducible refine Mod.drewN ?_ _ | with_reducible refine Mod.drew ?_ | with_reducible refine Mod.alloc ?_ _ | ((with_reducible refine Mod.setNew ?_ ?_ _ _ _); (rotate_left; omega)) | with_reducible refine Mod.setAt ?_ _ _ _ ))
    rintro e w' ⟨rfl, rfl⟩
    rw [hw]
    clear hw
    go_wp2
    go_ret
    exact ⟨_, _, rfl, World.ownsRow_nil _ _ _ _, Mod.refl _ w⟩

set_option maxRecDepth 100000 in
set_option maxHeartbeats 2000000 in
theorem sshares_any (n : Int) (l : List Int) (a : Option Addr) (c : Nat) (R : Nat → Prop) (w : World) (hl : l.length ≤ 9223372036854775807) (h : IntSlice R w a l) :
    Calls Try.prog 136 #[.int .i64 n, .slice a l.length c] w (NewSlice 3 1 w (shares n l).length ((shares n l).map icell).flatten) := by
  have H := hid h
  clear h
  by_cases hw : wOk l = true
  · have hsh : shares n l = sharesTo (signedL n) l l.length := by unfold shares; rw [if_pos hw]
    rw [hsh, sharesTo_length]
    have hl64 := (wOk_bd hw).1
    obtain ⟨m0, m1⟩ := signedL_bd n
    have Hw := hid hw
    obtain ⟨s0, s1⟩ := sumTo_bd hw l.length
    obtain ⟨i0, hi, hz0, hz1, hz2⟩ := info_parts info_int
    have Hi := hid hi
    have Hz0 := hid hz0
    have Hz1 := hid hz1
    have Hz2 := hid hz2
    clear hi hz0 hz1 hz2 hsh
    go_enter Try.func136, Try.ntmps136
    go_wp2_with fail
    refine (swOk_any l _ _ R _ hl (H.out.flatKeep ?_)).mono ?_
    · (repeat (first | with_reducible exact Mod.refl _ _ | with_reducible refine Mod.drewN ?_ _ | with_reducible refine Mod.drew ?_ | with_reducible refine Mod.alloc ?_ _ | ((with_reducible refine Mod.setNew ?_ ?_ _ _ _); (rotate_left; omega)) | with_reducible refine Mod.setAt ?_ _ _ _ ))
    rintro e w' ⟨rfl, rfl⟩
    rw [hw]
    clear hw
    go_wp2_with (first | (go_at_call 104; refine (l02Len_any _ _).mono ?_; rintro e w' ⟨rfl, rfl⟩))
    go_loop [6, 7] (fun z i => ∃ k : Nat, k ≤ l.length ∧ i = .int .i64 k ∧ z = .int .i64 (sumTo l k)) (fun _ i => l.length - (intOf i).toNat)
    case atStart => exact ⟨0, by omega, rfl, rfl⟩
    case round =>
      obtain ⟨k, hk, rfl, rfl⟩ := hrel
      obtain ⟨t0, t1⟩ := sumTo_bd Hw.out k
      by_cases hlt : k < l.length
      · obtain ⟨b, o, x, rfl, _, _, hx, hc⟩ := H.out.get hlt
        have e := hid (sumTo_succ hx)
        have hxb := (wOk_bd Hw.out).2 x (List.mem_of_getElem? hx.out)
        obtain ⟨x0, x1⟩ := hxb
        go_wp2
        go_round
        case rel => exact ⟨k + 1, by omega, by go_num, by rw [e.out]⟩
        case measure => simp [intOf]; omega
      · have hk' : k = l.length := by omega
        subst hk'
        go_wp2_with (first | (go_at_call 104; refine (l02Len_any _ _).mono ?_; rintro e w' ⟨rfl, rfl⟩))
        go_loopw [5, 8, 9] (fun v z i wr => ∃ (k : Nat) (a' : Option Addr) (c' : Nat), k ≤ l.length ∧ i = .int .i64 k ∧ z = .int .i64 (sumTo l k) ∧ v = .slice a' k c' ∧ wr.ownsRow w.heap.size 3 1 (.slice a' k c') k ((sharesTo (signedL n) l k).map icell).flatten ∧ Mod (fun _ => False) w wr) (fun _ _ i _ => l.length - (intOf i).toNat)
        case atStart => exact ⟨0, _, _, by omega, rfl, rfl, rfl, World.ownsRow_made w #[] 0 (Nat.le_refl _) (by unfold maxLen; omega) rfl, (Mod.refl _ w).alloc _⟩
        case round =>
          obtain ⟨k, a', c', hk2, rfl, rfl, rfl, hO, hM⟩ := hrel
          obtain ⟨t2, t3⟩ := sumTo_bd Hw.out k
          by_cases hlt2 : k < l.length
          · obtain ⟨b, o, x, rfl, _, _, hx, hc⟩ := IntSlice.get (H.out.flatKeep hM) hlt2
            have e := sumTo_succ hx
            have hxb := (wOk_bd Hw.out).2 x (List.mem_of_getElem? hx.out)
            obtain ⟨x0, x1⟩ := hxb
            obtain ⟨t4, t5⟩ := sumTo_bd Hw.out (k + 1)
            rw [e] at t4 t5
            have p1 := mul_bd m0 m1 t4 t5
            have p2 := mul_bd m0 m1 t2 t3
            obtain ⟨p1, p1'⟩ := p1
            obtain ⟨p2, p2'⟩ := p2
            obtain ⟨f1, f1'⟩ := fdiv_bd0 (b := sumTo l l.length) (show (0 : Int) ≤ 72057594037927936 by omega) p1 p1'
            obtain ⟨f2, f2'⟩ := fdiv_bd0 (b := sumTo l l.length) (show (0 : Int) ≤ 72057594037927936 by omega) p2 p2'
            have E := hid e
            clear e
            have h3 : k + 1 ≤ maxLen := by unfold maxLen; omega
            have h4 : (k + 1) * 8 ≤ 140737488355328 := by omega
            go_wp2_with (first | (at_builtin; refine wpList_append_own _ rfl _ _ 29 rfl w.heap.size 3 i0 _ 1 8 Try.underlying29 Hi.out Hz0.out Hz1.out Hz2.out rfl (by decide) _ _ _ rfl (hO.alloc _) ⟨wr.heap.size, 0, none⟩ 1 1 [.int .i64 (fdiv (signedL n * (sumTo l k + x)) (sumTo l l.length) - fdiv (signedL n * sumTo l k) (sumTo l l.length))] rfl rfl (cells_new _ _ _) (ones_of rfl) h3 h4 (own_room hM _) ?_) | (go_at_call 141; refine (sfdiv_any _ _ (by omega) (by omega) (by omega) _).mono ?_; rintro e w' ⟨rfl, rfl⟩))
            intro v' w1 hown1 hgrow _
            obtain ⟨a1, c1', hv⟩ := own_form hown1
            rw [hv] at hown1 ⊢
            have hM1 := hM.appended hO (Nat.le_refl _) hgrow
            clear hv hgrow h3 h4
            go_wp2
            go_roundw
            case rel =>
              refine ⟨k + 1, a1, c1', by omega, by go_num, by rw [E.out], rfl, ?_, hM1⟩
              rw [sharesTo_succ, icells_append]
              have es : shareOf (signedL n) l k = fdiv (signedL n * (sumTo l k + x)) (sumTo l l.length) - fdiv (signedL n * sumTo l k) (sumTo l l.length) := by unfold shareOf; rw [E.out]
              simpa [icell, es] using hown1
            case measure => simp [intOf]; omega
          · have hk3 : k = l.length := by omega
            subst hk3
            go_wp2
            go_ret
            exact ⟨a', c', rfl, hO, hM⟩
  · replace hw : wOk l = false := by simpa using hw
    have hsh : shares n l = [] := by unfold shares; rw [hw]; rfl
    rw [hsh]
    clear hsh
    go_enter Try.func136, Try.ntmps136
    go_wp2_with fail
    refine (swOk_any l _ _ R _ hl (H.out.flatKeep ?_)).mono ?_
    · (repeat (first | with_reducible exact Mod.refl _ _ | with_reducible refine Mod.drewN ?_ _ | with_reducible refine Mod.drew ?_ | with_reducible refine Mod.alloc ?_ _ | ((with_reducible refine Mod.setNew ?_ ?_ _ _ _); (rotate_left; omega)) | with_reducible refine Mod.setAt ?_ _ _ _ ))
    rintro e w' ⟨rfl, rfl⟩
    rw [hw]
    clear hw
    go_wp2
    go_ret
    exact ⟨_, _, rfl, World.ownsRow_made w #[] 0 (Nat.le_refl _) (by unfold maxLen; omega) rfl, (Mod.refl _ w).alloc _⟩

end Go.Proofs.Ytdohglcjjlmhhaa
namespace Go.Proofs.Ytdohglcjjlmhhaa
open Go.RowKit
set_option linter.unusedVariables false
set_option linter.unusedSimpArgs false

theorem own_addr {w : World} {base e sz n c : Nat} {a : Option Addr} {xs : List Value} (h : w.ownsRow base e sz (.slice a n c) n xs) (h0 : 0 < n) : ∃ g, a = some ⟨g, 0, none⟩ := by
  rcases own_parts h with h1 | ⟨b, h1, _⟩
  · omega
  · exact ⟨b, h1⟩
theorem shareOf_bd {m : Int} {l : List Int} (k : Nat) (hm : -1048576 ≤ m ∧ m ≤ 1048576) (hw : wOk l = true) : -144115188075855872 ≤ shareOf m l k ∧ shareOf m l k ≤ 144115188075855872 := by
  have a1 := sumTo_bd hw (k + 1)
  have a2 := sumTo_bd hw k
  have b1 := mul_bd hm.1 hm.2 a1.1 a1.2
  have b2 := mul_bd hm.1 hm.2 a2.1 a2.2
  have d1 := fdiv_bd0 (b := sumTo l l.length) (by decide : (0 : Int) ≤ 72057594037927936) b1.1 b1.2
  have d2 := fdiv_bd0 (b := sumTo l l.length) (by decide : (0 : Int) ≤ 72057594037927936) b2.1 b2.2
  unfold shareOf
  omega
theorem line_cell1 {l : List Int} {g c lo i : Nat} {w : World} {y : Int} (h : (ownRes icell 3 1 l ⟨some ⟨g, 0, none⟩, c, lo⟩).says w) (hi : l[i]? = some y) : w.cell? ⟨g, 0 + i, none⟩ = some (.int .i64 y) := by
  obtain ⟨b, o, x, e, _, _, hx, hc⟩ := IntSlice.get (own_slice h (fun _ => rfl) (by decide)) (k := i) (List.getElem?_eq_some_iff.1 hi).1
  simp only [Option.some.injEq, Addr.mk.injEq, and_true] at e
  obtain ⟨rfl, rfl⟩ := e
  rw [hx.out] at hi
  rw [← Option.some.inj hi]
  exact hc
theorem placesI_next {h : Held} {i : Nat} {x : Item} (hx : h[i]? = some (x, none)) : placesI (h.take (i + 1)) = placesI (h.take i) ++ [(i : Int)] := by
  unfold placesI; rw [(free_next hx).1, List.map_append]; rfl
theorem placesI_held {h : Held} {i : Nat} {x : Item} {s : Int} (hx : h[i]? = some (x, some s)) : placesI (h.take (i + 1)) = placesI (h.take i) := by
  unfold placesI; rw [(held_next hx).1]
/-- The weights of those that are free. -/
def weightsI (g : Bool) (h : Held) : List Int := (freeItems h).map (weightOf g)
theorem weightsI_next {g : Bool} {h : Held} {i : Nat} {x : Item} (hx : h[i]? = some (x, none)) : weightsI g (h.take (i + 1)) = weightsI g (h.take i) ++ [weightOf g x] := by
  unfold weightsI; rw [(free_next hx).2, List.map_append]; rfl
theorem weightsI_held {g : Bool} {h : Held} {i : Nat} {x : Item} {s : Int} (hx : h[i]? = some (x, some s)) : weightsI g (h.take (i + 1)) = weightsI g (h.take i) := by
  unfold weightsI; rw [(held_next hx).2]
theorem lens (g : Bool) (h : Held) (hl : Line h) (i : Nat) : (placesI (h.take i)).length ≤ 12 ∧ (weightsI g (h.take i)).length ≤ 12 := by
  have h1 := items_len (h.take i)
  have h2 := (hl.take i).few
  unfold weightsI
  rw [places_len, List.length_map]
  omega
theorem part_nil (xs : List Int) : part xs 0 = List.replicate xs.length (.int .i64 0) := by simp [part]
def anyOver (xs : List Int) (k : Nat) : Bool := (xs.take k).any fun o => decide (o ≠ 0)
theorem anyOver_next {xs : List Int} {k : Nat} {o : Int} (h : xs[k]? = some o) : anyOver xs (k + 1) = (anyOver xs k || decide (o ≠ 0)) := by
  unfold anyOver
  rw [List.take_add_one, h, List.any_append]
  simp
theorem anyOver_all (xs : List Int) : anyOver xs xs.length = !(xs.all fun o => decide (o = 0)) := by
  unfold anyOver
  rw [List.take_length, Bool.eq_iff_iff]
  simp
/-- The reference's record of a line, and its lists. -/
def runBs (gr gh gs : Nat) (la : Option Addr) (lc : Nat) (gap inner : Int) (grows : Bool) (ch cs : Nat) (sh ss : List Value) (m : Nat) (h : Held) (passes : Nat) : List Blk :=
  [⟨gr, [.slice la m lc, .int .i64 gap, .int .i64 inner, .bool grows, .slice (some ⟨gh, 0, none⟩) m ch, .slice (some ⟨gs, 0, none⟩) m cs, .int .i64 passes], 124⟩, ⟨gh, (heldL h).map Value.bool ++ sh, 4⟩, ⟨gs, (heldSizes h).map (Value.int .i64) ++ ss, 3⟩]
set_option maxRecDepth 100000 in
set_option maxHeartbeats 16000000 in
theorem l13Pass_any (l : List Item) (h : Held) (m gr gh gs lc ch cs passes : Nat) (la : Option Addr) (gap inner : Int) (grows : Bool) (sh ss : List Value) (R : Nat → Prop) (w : World)
    (hl : Line h) (hi : h.map (·.1) = l) (hm : h.length = m) (hg : 0 ≤ gap ∧ gap ≤ 1048576) (hin : 0 ≤ inner ∧ inner ≤ 1048576) (hp : passes ≤ 100)
    (hS : ItemSlice R w la l) (hR : ∀ k, R k → k ∉ [gr, gh, gs]) (hd : [gr, gh, gs].Pairwise (· ≠ ·))
    (hB : ∀ b ∈ runBs gr gh gs la lc gap inner grows ch cs sh ss m h passes, w.heap[b.g]? = some (.cells b.cells.toArray b.T (0, 0))) :
    Calls Try.prog 94 #[.pointer (some ⟨gr, 0, none⟩)] w fun e w' => e = .returned (.bool (decide (freeN h ≠ 0))) ∧ Mod (fun k => k ∈ [gr, gh, gs]) w w' ∧
      ∀ b ∈ runBs gr gh gs la lc gap inner grows ch cs sh ss m (if freeN h = 0 then h else passOf grows gap inner h) (if freeN h = 0 then passes else passes + 1), w'.heap[b.g]? = some (.cells b.cells.toArray b.T (0, 0)) := by
  have hll : l.length = m := by rw [← hi, List.length_map, hm]
  have hfew := hl.few
  have hlt : ∀ g ∈ (runBs gr gh gs la lc gap inner grows ch cs sh ss m h passes).map (·.g), g < w.heap.size := fun g hg => by
    obtain ⟨b, hb, rfl⟩ := List.mem_map.1 hg
    exact (Array.getElem?_eq_some_iff.1 (hB b hb)).1
  refine calls_sxB (args := [.pointer (some ⟨gr, 0, none⟩)]) (runBs gr gh gs la lc gap inner grows ch cs sh ss m h passes) hB (List.pairwise_map.1 hd) hlt Try.func94 rfl rfl (fun a h1 h2 h3 => ((Fr.nil h1 h2).arg (h3 0 _ rfl))) ?_
  clear hB
  unfold runBs at *
  have hS2 : ∀ (L : List Blk) (O : List Own) (E : List Res) (w' : World), Loc w (Rg.rows w _ hlt) L O E w' → ItemSlice R w' la l := fun L O E w' hl' => hS.flatMod hl'.mod (fun k hk hp => hR k hk hp)
  have hit : ∀ {i : Nat} {x : Item} {o : Option Int}, h[i]? = some (x, o) → l[i]? = some x := fun hx => by rw [← hi, List.getElem?_map, hx]; rfl
  have hW : ∀ (L : List Blk) (O : List Own) (E : List Res) (w' : World) (i : Nat) (x : Item) (o : Option Int), h[i]? = some (x, o) → Loc w (Rg.rows w _ hlt) L O E w' → (⟨gr, [.slice la m lc, .int .i64 gap, .int .i64 inner, .bool grows, .slice (some ⟨gh, 0, none⟩) m ch, .slice (some ⟨gs, 0, none⟩) m cs, .int .i64 passes], 124⟩ : Blk) ∈ L →
      Calls Try.prog 93 #[.pointer (some ⟨gr, 0, none⟩), .int .i64 i] w' fun e w2 => e = .returned (.int .i64 (weightOf grows x)) ∧ Mod (fun _ => False) w' w2 := fun L O E w' i x o hx hl' hm' => by
    have hb := (hl'.blk _ hm').2
    exact l13Weight_any l grows i x gr lc la R w' (hit hx) (hl.right _ (List.mem_of_getElem? hx)) (hS2 _ _ _ _ hl') (by rw [hll]; exact blk_cell hb rfl) (blk_cell hb rfl)
  repeat (first | refine SX.seq ?_ | refine SXl.nil ?_ | refine SX.region ?_ | refine SQ.thenNormal ?_ | refine SX.block ?_ | (refine l_assign ?_; (refine SXl.v (OpW.assign rfl) rfl ?_ ?_ ?_); rfl; rfl) | (refine l_buildSlice ?_; refine SXl.lit0N rfl rfl (fun g => ?_)))
  refine SX.loop3 (fun (i : Nat) (_ _ : Option Addr × Nat) => i ≤ m) (fun i _ _ => m - i) (fun _ _ _ => [⟨gr, [.slice la m lc, .int .i64 gap, .int .i64 inner, .bool grows, .slice (some ⟨gh, 0, none⟩) m ch, .slice (some ⟨gs, 0, none⟩) m cs, .int .i64 passes], 124⟩, ⟨gh, (heldL h).map Value.bool ++ sh, 4⟩, ⟨gs, (heldSizes h).map (Value.int .i64) ++ ss, 3⟩]) (fun i q4 q3 => [lineO (placesI (h.take i), q4), lineO (weightsI grows (h.take i), q3)]) (fun _ _ _ => []) (fun i q4 q3 => [(0, .pointer (some ⟨gr, 0, none⟩)), (3, lineV (weightsI grows (h.take i), q3)), (4, lineV (placesI (h.take i), q4)), (5, .int .i64 (weightsI grows (h.take i)).sum), (6, .int .i64 i)]) 0 (_, _) (_, _) (Nat.zero_le _) ?_ (fun _ hl => hl) ?_
  · (repeat (first | exact subF_nil _ | (refine subF_cons rfl ?_) | (refine subF_consv rfl (by rfl) ?_)))
  rintro i ⟨a4, c4⟩ ⟨a3, c3⟩ hik
  simp only [lineO, lineV]
  obtain ⟨hn1, hn2⟩ := lens grows h hl i
  obtain ⟨-, hw1, hw2⟩ := (hl.take i).weights grows
  change 0 ≤ (weightsI grows (h.take i)).sum at hw1
  change (weightsI grows (h.take i)).sum ≤ _ at hw2
  by_cases hlt2 : i < m
  · obtain ⟨⟨x, o⟩, hx⟩ : ∃ p, h[i]? = some p := ⟨_, List.getElem?_eq_getElem (by omega)⟩
    have hheld := held_at hx sh
    have hWx := fun (L : List Blk) (O : List Own) (E : List Res) (w' : World) => hW L O E w' i x o hx
    have hwx := (hl.right _ (List.mem_of_getElem? hx)).weight grows
    simp only at hwx
    cases o with
    | some s =>
      have e1 := placesI_held hx
      have e2 := weightsI_held (g := grows) hx
      repeat (first | refine SX.seq ?_ | refine SXl.nil ?_ | refine SX.region ?_ | refine SQ.thenNormal ?_ | refine SX.block ?_ | refine SX.skip ?_ | refine SX.condT rfl ?_ | refine SX.condF rfl ?_ | (refine l_load ?_; (first | refine SXl.v (OpW.load 1 rfl rfl hheld) rfl ?_ ?_ ?_ | refine SXl.v (OpW.load 0 rfl rfl rfl) rfl ?_ ?_ ?_); rfl; rfl) | (refine l_fieldAddr ?_; (refine SXl.v (OpW.fieldAddr rfl) rfl ?_ ?_ ?_); rfl; rfl) | (refine l_move ?_; (refine SXl.v (OpW.move rfl) rfl ?_ ?_ ?_); rfl; rfl) | (refine l_assign ?_; (refine SXl.v (OpW.assign rfl) rfl ?_ ?_ ?_); rfl; rfl) | (refine l_len ?_; (refine SXl.v (OpW.len rfl) rfl ?_ ?_ ?_); rfl; rfl) | (refine l_nilCheck ?_; (refine SXl.v (OpW.nilCheck rfl) rfl ?_ ?_ ?_); rfl; rfl) | (refine l_add ?_; (refine SXl.v (OpW.succ rfl rfl (by omega)) rfl ?_ ?_ ?_); rfl; rfl) | (refine l_lss ?_; (refine SXl.v (OpW.lssT rfl rfl (by omega)) rfl ?_ ?_ ?_); rfl; rfl) | (refine l_not ?_; (refine SXl.v (OpW.not rfl) rfl ?_ ?_ ?_); rfl; rfl) | (refine l_indexAddr ?_; (refine SXl.v (OpW.indexAddr1 (by omega) rfl rfl) rfl ?_ ?_ ?_); rfl; rfl) | refine SQ.blockNormal ?_)
      refine SQ.round3 (i + 1) (a4, c4) (a3, c3) (by omega) (by omega) ?_ (fun w hl => by rw [e1, e2]; exact hl)
      (repeat (first | exact subF_nil _ | (refine subF_cons rfl ?_) | (refine subF_consv rfl (by simp [lineV, e1, e2]) ?_)))
    | none =>
      have e1 := placesI_next hx
      have e2 := weightsI_next (g := grows) hx
      have e3 : (weightsI grows (h.take (i + 1))).sum = (weightsI grows (h.take i)).sum + weightOf grows x := by rw [e2, List.sum_append]; simp
      repeat (first | refine SX.seq ?_ | refine SXl.nil ?_ | refine SX.region ?_ | refine SQ.thenNormal ?_ | refine SX.block ?_ | refine SX.skip ?_ | refine SX.condT rfl ?_ | (refine l_load ?_; (first | refine SXl.v (OpW.load 1 rfl rfl hheld) rfl ?_ ?_ ?_ | refine SXl.v (OpW.load 0 rfl rfl rfl) rfl ?_ ?_ ?_); rfl; rfl) | (refine l_call ?_; (first | refine SXl.v (OpW.call rfl (fun w hl => hWx _ _ _ _ hl (.tail _ (.head _)))) rfl ?_ ?_ ?_ | refine SXl.v (OpW.call rfl (fun w hl => hWx _ _ _ _ hl (.tail _ (.tail _ (.head _))))) rfl ?_ ?_ ?_); rfl; rfl) | (refine l_fieldAddr ?_; (refine SXl.v (OpW.fieldAddr rfl) rfl ?_ ?_ ?_); rfl; rfl) | (refine l_move ?_; (refine SXl.v (OpW.move rfl) rfl ?_ ?_ ?_); rfl; rfl) | (refine l_assign ?_; (refine SXl.v (OpW.assign rfl) rfl ?_ ?_ ?_); rfl; rfl) | (refine l_len ?_; (refine SXl.v (OpW.len rfl) rfl ?_ ?_ ?_); rfl; rfl) | (refine l_nilCheck ?_; (refine SXl.v (OpW.nilCheck rfl) rfl ?_ ?_ ?_); rfl; rfl) | (refine l_add ?_; (first | refine SXl.v (OpW.succ rfl rfl (by omega)) rfl ?_ ?_ ?_ | refine SXl.v (OpW.addi rfl rfl (by omega) (by omega)) rfl ?_ ?_ ?_); rfl; rfl) | (refine l_lss ?_; (refine SXl.v (OpW.lssT rfl rfl (by omega)) rfl ?_ ?_ ?_); rfl; rfl) | (refine l_not ?_; (refine SXl.v (OpW.not rfl) rfl ?_ ?_ ?_); rfl; rfl) | (refine l_indexAddr ?_; (refine SXl.v (OpW.indexAddr1 (by omega) rfl rfl) rfl ?_ ?_ ?_); rfl; rfl) | (refine l_buildSlice ?_; first | (refine SXl.lit1 ?_ ?_ rfl rfl rfl (fun g => ?_); rfl; rfl) | (refine SXl.lit0 ?_ ?_ (fun _ h => h) rfl (fun g => ?_); rfl; rfl)) | (refine l_append ?_; first | (refine SXl.append 0 0 rfl rfl rfl rfl rfl rfl rfl rfl (by omega) (by omega) (fun a c => ?_); simp only [List.set_cons_zero, List.set_cons_succ]) | (refine SXl.append 1 0 rfl rfl rfl rfl rfl rfl rfl rfl (by omega) (by omega) (fun a c => ?_); simp only [List.set_cons_zero, List.set_cons_succ])) | refine SQ.blockNormal ?_)
      rw [line_grown, line_grown]
      refine SQ.round3 (i + 1) (_, _) (_, _) (by omega) (by omega) ?_ (fun w hl => by rw [e1, e2]; exact hl.drop1.drop1)
      (repeat (first | exact subF_nil _ | (refine subF_cons rfl ?_) | (refine subF_consv rfl (by first | (rw [e3]; done) | simp [lineV, e1, e2]) ?_)))
  obtain rfl : i = m := by omega
  have ht : h.take i = h := List.take_of_length_le (by omega)
  rw [ht] at hn1 hn2 hw1 hw2 ⊢
  have hall : allOf grows h = (weightsI grows h).sum := by unfold allOf; rw [freeW_items]; rfl
  have hnl : freeN h = (placesI h).length := by rw [places_len, freeN_items]
  have hwl : (weightsI grows h).length = (placesI h).length := by unfold weightsI; rw [places_len, List.length_map]
  by_cases h0 : freeN h = 0
  · rw [if_pos h0, if_pos h0, decide_eq_false (fun hc => hc h0)]
    repeat (first | refine SX.seq ?_ | refine SXl.nil ?_ | refine SX.region ?_ | refine SQ.thenNormal ?_ | refine SX.condT rfl ?_ | refine SX.condF rfl ?_ | (refine l_load ?_; (refine SXl.v (OpW.load 0 rfl rfl rfl) rfl ?_ ?_ ?_); rfl; rfl) | (refine l_fieldAddr ?_; (refine SXl.v (OpW.fieldAddr rfl) rfl ?_ ?_ ?_); rfl; rfl) | (refine l_move ?_; (refine SXl.v (OpW.move rfl) rfl ?_ ?_ ?_); rfl; rfl) | (refine l_assign ?_; (refine SXl.v (OpW.assign rfl) rfl ?_ ?_ ?_); rfl; rfl) | (refine l_len ?_; (refine SXl.v (OpW.len rfl) rfl ?_ ?_ ?_); rfl; rfl) | (refine l_nilCheck ?_; (refine SXl.v (OpW.nilCheck rfl) rfl ?_ ?_ ?_); rfl; rfl) | (refine l_eql ?_; (refine SXl.v (OpW.eqlT rfl rfl (by omega)) rfl ?_ ?_ ?_); rfl; rfl) | (refine l_lss ?_; (refine SXl.v (OpW.lssF rfl rfl (by omega)) rfl ?_ ?_ ?_); rfl; rfl) | refine SX.ret ?_ | refine SX.exit ?_ | refine SQ.thenRet ?_ | refine SQ.thenExit ?_ | refine SQ.blockExit ?_)
    refine SQ.body1 rfl rfl (fun w' hl => ⟨rfl, hl.mod, fun b hb => (hl.blk b hb).2⟩)
  rw [if_neg h0, if_neg h0, decide_eq_true h0]
  have hF : ∀ (L : List Blk) (O : List Own) (E : List Res) (w' : World) (cl : Value), Loc w (Rg.rows w _ hlt) L O E w' → (⟨gr, [.slice la i lc, .int .i64 gap, .int .i64 inner, .bool grows, .slice (some ⟨gh, 0, none⟩) i ch, .slice (some ⟨gs, 0, none⟩) i cs, cl], 124⟩ : Blk) ∈ L → (⟨gs, (heldSizes h).map (Value.int .i64) ++ ss, 3⟩ : Blk) ∈ L →
      Calls Try.prog 134 #[.pointer (some ⟨gr, 0, none⟩)] w' fun e w2 => e = .returned (.int .i64 (restOf grows gap inner h)) ∧ Mod (fun _ => False) w' w2 := fun L O E w' cl hl' hm' hm2 => by
    have hb := (hl'.blk _ hm').2
    exact l13Free_any h grows gap inner gr lc i cs la (some ⟨gs, 0, none⟩) R (fun _ => True) w' hm.symm hl.right hl.near (by omega) hg hin (hi ▸ hS2 _ _ _ _ hl') (blk_ints (hl'.blk _ hm2).2 trivial) (blk_cell hb rfl) (blk_cell hb rfl) (blk_cell hb rfl) (blk_cell hb rfl) (blk_cell hb rfl)
  have hpos : 0 < (placesI h).length := by omega
  refine SX.knowI (fun w' hl' => own_addr (hl'.own _ (.head _)).1 hpos) (fun ⟨g4, e4⟩ => ?_)
  refine SX.knowI (fun w' hl' => own_addr (hl'.own _ (.tail _ (.head _))).1 (by rw [hwl]; exact hpos)) (fun ⟨g3, e3⟩ => ?_)
  subst e4 e3
  have hrb := restOf_bd grows gap inner h
  have hrs := rest_signed grows gap inner h
  repeat (first | refine SX.seq ?_ | refine SXl.nil ?_ | refine SX.region ?_ | refine SQ.thenNormal ?_ | refine SX.skip ?_ | refine SX.condF rfl ?_ | (refine l_call ?_; (refine SXl.v (OpW.call rfl (fun w hl => hF _ _ _ _ _ hl (.head _) (.tail _ (.tail _ (.head _))))) rfl ?_ ?_ ?_); rfl; rfl) | (refine l_load ?_; (refine SXl.v (OpW.load 0 rfl rfl rfl) rfl ?_ ?_ ?_); rfl; rfl) | (refine l_fieldAddr ?_; (refine SXl.v (OpW.fieldAddr rfl) rfl ?_ ?_ ?_); rfl; rfl) | (refine l_move ?_; (refine SXl.v (OpW.move rfl) rfl ?_ ?_ ?_); rfl; rfl) | (refine l_assign ?_; (refine SXl.v (OpW.assign rfl) rfl ?_ ?_ ?_); rfl; rfl) | (refine l_len ?_; (refine SXl.v (OpW.len rfl) rfl ?_ ?_ ?_); rfl; rfl) | (refine l_nilCheck ?_; (refine SXl.v (OpW.nilCheck rfl) rfl ?_ ?_ ?_); rfl; rfl) | (refine l_add ?_; (refine SXl.v (OpW.succ rfl rfl (by omega)) rfl ?_ ?_ ?_); rfl; rfl) | (refine l_eql ?_; (refine SXl.v (OpW.eqlF rfl rfl (by omega)) rfl ?_ ?_ ?_); rfl; rfl) | (refine l_lss ?_; (refine SXl.v (OpW.lssF rfl rfl (by omega)) rfl ?_ ?_ ?_); rfl; rfl) | (refine l_store ?_; first | (refine SXl.store 0 ?_ rfl rfl rfl rfl rfl rfl ?_; rfl; simp only [List.set_cons_zero, List.set_cons_succ]) | (refine SXl.store 1 ?_ rfl rfl rfl rfl rfl rfl ?_; rfl; simp only [List.set_cons_zero, List.set_cons_succ]) | (refine SXl.store 2 ?_ rfl rfl rfl rfl rfl rfl ?_; rfl; simp only [List.set_cons_zero, List.set_cons_succ]) | (refine SXl.storeAll 0 ?_ rfl rfl rfl rfl rfl rfl rfl ?_; rfl; simp only [List.set_cons_zero, List.set_cons_succ]) | (refine SXl.storeAll 1 ?_ rfl rfl rfl rfl rfl rfl rfl ?_; rfl; simp only [List.set_cons_zero, List.set_cons_succ]) | (refine SXl.storeAll 2 ?_ rfl rfl rfl rfl rfl rfl rfl ?_; rfl; simp only [List.set_cons_zero, List.set_cons_succ]) | (refine SXl.storeRow 0 ?_ rfl rfl rfl rfl rfl rfl rfl ?_; rfl; simp only [over, List.set_cons_zero, List.set_cons_succ]) | (refine SXl.storeRow 1 ?_ rfl rfl rfl rfl rfl rfl rfl ?_; rfl; simp only [over, List.set_cons_zero, List.set_cons_succ]) | (refine SXl.storeRow 2 ?_ rfl rfl rfl rfl rfl rfl rfl ?_; rfl; simp only [over, List.set_cons_zero, List.set_cons_succ])) | refine SX.exit ?_ | refine SQ.thenExit ?_ | refine SQ.blockExit ?_)
  have hpass : passOf grows gap inner h = applyV (newVals grows (weightsI grows h).sum (restOf grows gap inner h) h) h := by unfold passOf; rw [hall, pass_apply]
  generalize restOf grows gap inner h = rest at *
  refine l_makeSliceI ?_
  refine SXl.makeI (m := (placesI h).length) (z := .int .i64 0) rfl rfl rfl rfl rfl (by omega) (by omega) (fun go => ?_)
  have hov0 : ∀ x ∈ freeItems h, Nums (weightsI grows h).sum rest grows x := fun x hx => nums_of (hl.free hx) ⟨hw1, hw2⟩ hrb
  have hovl : (oversT (weightsI grows h).sum rest grows (freeItems h)).length = (placesI h).length := by unfold oversT; rw [List.length_map, places_len]
  have hovb := overs_sum hov0 (by rw [← freeN_items]; omega)
  have hovg : ∀ (k : Nat) (x : Item), (freeItems h)[k]? = some x → (oversT (weightsI grows h).sum rest grows (freeItems h))[k]? = some (overOf (weightsI grows h).sum rest (weightOf grows x) x) := fun k x hx => by unfold oversT; rw [List.getElem?_map, hx]; rfl
  have hwg : ∀ (k : Nat) (x : Item), (freeItems h)[k]? = some x → (weightsI grows h)[k]? = some (weightOf grows x) := fun k x hx => by unfold weightsI; rw [List.getElem?_map, hx]; rfl
  have hvals : newVals grows (weightsI grows h).sum rest h = if (oversT (weightsI grows h).sum rest grows (freeItems h)).all (fun o => decide (o = 0)) = true then shareVals grows (weightsI grows h).sum rest 0 (freeItems h) else (freeItems h).map (holdVal grows (weightsI grows h).sum rest (oversT (weightsI grows h).sum rest grows (freeItems h)).sum) := by
    unfold newVals noneOver
    rw [overs_items]
    rfl
  generalize hov : oversT (weightsI grows h).sum rest grows (freeItems h) = ov at *
  repeat (first | refine SX.seq ?_ | refine SXl.nil ?_ | refine SX.region ?_ | refine SQ.thenNormal ?_ | refine SX.block ?_ | (refine l_assign ?_; (refine SXl.v (OpW.assign rfl) rfl ?_ ?_ ?_); rfl; rfl))
  refine SX.loop3 (fun (k : Nat) (_ _ : Unit) => k ≤ (placesI h).length) (fun k _ _ => (placesI h).length - k) (fun k _ _ => ⟨go, part ov k, 3⟩ :: [⟨gr, [.slice la i lc, .int .i64 gap, .int .i64 inner, .bool grows, .slice (some ⟨gh, 0, none⟩) i ch, .slice (some ⟨gs, 0, none⟩) i cs, .int .i64 (passes + 1 : Nat)], 124⟩, ⟨gh, (heldL h).map Value.bool ++ sh, 4⟩, ⟨gs, (heldSizes h).map (Value.int .i64) ++ ss, 3⟩]) (fun _ _ _ => [⟨.slice (some ⟨g4, 0, none⟩) (placesI h).length c4, 3, 1, (placesI h).length, ((placesI h).map icell).flatten⟩, ⟨.slice (some ⟨g3, 0, none⟩) (weightsI grows h).length c3, 3, 1, (weightsI grows h).length, ((weightsI grows h).map icell).flatten⟩]) (fun _ _ _ => []) (fun k _ _ => [(0, .pointer (some ⟨gr, 0, none⟩)), (3, .slice (some ⟨g3, 0, none⟩) (weightsI grows h).length c3), (4, .slice (some ⟨g4, 0, none⟩) (placesI h).length c4), (5, .int .i64 (weightsI grows h).sum), (7, .int .i64 rest), (8, .slice (some ⟨go, 0, none⟩) (placesI h).length (placesI h).length), (9, .int .i64 (ov.take k).sum), (10, .bool (anyOver ov k)), (11, .int .i64 k)]) 0 () () (Nat.zero_le _) ?_ (fun _ hl => by rw [part_nil, hovl]; exact hl) ?_
  · (repeat (first | exact subF_nil _ | (refine subF_cons rfl ?_) | (refine subF_consv rfl (by rfl) ?_)))
  rintro k _ _ hk
  by_cases hkn : k < (placesI h).length
  · obtain ⟨j, hj⟩ : ∃ j, (freeIx h)[k]? = some j := ⟨_, List.getElem?_eq_getElem (by unfold placesI at hkn; rw [List.length_map] at hkn; exact hkn)⟩
    obtain ⟨x, hx, hxi⟩ := freeIx_get hj
    have hpl := places_get hj
    have hws := hwg k x hxi
    have hovk := hovg k x hxi
    have hplv : ((placesI h).map icell).flatten[0 + k]? = some (.int .i64 (j : Int)) := by rw [ints_flat, Nat.zero_add, List.getElem?_map, hpl]; rfl
    have hwsv : ((weightsI grows h).map icell).flatten[0 + k]? = some (.int .i64 (weightOf grows x)) := by rw [ints_flat, Nat.zero_add, List.getElem?_map, hws]; rfl
    have hjm := (List.getElem?_eq_some_iff.1 hx).1
    obtain ⟨b1, o1, x1, e1, hR1, hb1, hxk, hc1⟩ := hS.get (k := j) (by omega)
    obtain rfl : x = x1 := Option.some.inj ((hit hx).symm.trans hxk)
    subst e1
    have hsb := hovb k
    have hsb1 := hovb (k + 1)
    have hsum := sumN_next hovk
    have hany := anyOver_next hovk
    have hmost := hl.free (List.mem_of_getElem? hxi)
    obtain ⟨n1, n2, n3, n4⟩ := hov0 x (List.mem_of_getElem? hxi)
    repeat (first | refine SX.seq ?_ | refine SXl.nil ?_ | refine SX.region ?_ | refine SQ.thenNormal ?_ | refine SX.block ?_ | refine SX.skip ?_ | refine SX.condT rfl ?_ | (refine l_move ?_; (refine SXl.v (OpW.move rfl) rfl ?_ ?_ ?_); rfl; rfl) | (refine l_len ?_; (refine SXl.v (OpW.len rfl) rfl ?_ ?_ ?_); rfl; rfl) | (refine l_lss ?_; (refine SXl.v (OpW.lssT rfl rfl (by omega)) rfl ?_ ?_ ?_); rfl; rfl))
    refine SX.drawnQ 36 [.int .i64 0, .int .i64 0, .int .i64 0, .int .i64 0, .int .i64 0, .int .i64 0, .int .i64 0, .bool false, .bool false] x.cells (by kernel_rfl) (by kernel_rfl) (fun B hf => ?_)
    repeat (first | (refine SXq.alloc hf (fun _ => rfl) rfl ?_) | (refine SXq.v (fun _ => (OpW.loadOwn (xs := ((placesI h).map icell).flatten) 0 rfl rfl hplv)) rfl (fun _ => rfl) rfl ?_) | (refine SXq.v (fun _ => (OpW.loadRowOld rfl hc1 (Item.cells_len x) (Nat.succ_pos _) (hR _ hR1))) rfl (fun _ => rfl) rfl ?_) | (refine SXq.v (fun _ => (OpW.load 1 rfl rfl rfl)) rfl (fun _ => rfl) rfl ?_) | (refine SXq.v (fun _ => ((OpW.indexAddr (i := j) (by omega) rfl rfl))) rfl (fun _ => rfl) rfl ?_) | (refine SXq.v (fun _ => (OpW.indexAddr1 (by omega) rfl rfl)) rfl (fun _ => rfl) rfl ?_) | (refine SXq.v (fun _ => (OpW.fieldAddr rfl)) rfl (fun _ => rfl) rfl ?_) | (refine SXq.v (fun _ => (OpW.move rfl)) rfl (fun _ => rfl) rfl ?_) | (refine SXq.v (fun _ => (OpW.nilCheck rfl)) rfl (fun _ => rfl) rfl ?_))
    refine SXq.store 10 hf (by kernel_rfl) List.mem_cons_self (fun _ => rfl) (fun _ => rfl) (fun _ => rfl) rfl rfl rfl ?_
    refine SXq.nil 10 11 hf (.tail _ (.head _)) (.head _) (fun xq => ?_)
    generalize gOf (xq 10) = g12
    generalize weightOf grows x = wt at *
    generalize (weightsI grows h).sum = A at *
    by_cases d1 : x.base * A + rest * wt < x.least * A
    · have ho : overOf A rest wt x = x.least * A - (x.base * A + rest * wt) := if_pos d1
      rw [ho] at hovk hsum hany
      repeat (first | refine SX.seq ?_ | refine SXl.nil ?_ | refine SX.region ?_ | refine SQ.thenNormal ?_ | refine SX.block ?_ | refine SX.condT rfl ?_ | (refine l_load ?_; (refine SXl.v (OpW.load 0 rfl rfl rfl) rfl ?_ ?_ ?_); rfl; rfl) | (refine l_fieldAddr ?_; (refine SXl.v (OpW.fieldAddr rfl) rfl ?_ ?_ ?_); rfl; rfl) | (refine l_move ?_; (refine SXl.v (OpW.move rfl) rfl ?_ ?_ ?_); rfl; rfl) | (refine l_assign ?_; (refine SXl.v (OpW.assign rfl) rfl ?_ ?_ ?_); rfl; rfl) | (refine l_lss ?_; (refine SXl.v (OpW.lssT rfl rfl (by omega)) rfl ?_ ?_ ?_); rfl; rfl) | (refine l_mul ?_; (refine SXl.v (OpW.muli rfl rfl (by omega) (by omega)) rfl ?_ ?_ ?_); rfl; rfl) | (refine l_sub ?_; (refine SXl.v (OpW.subi rfl rfl (by omega) (by omega)) rfl ?_ ?_ ?_); rfl; rfl) | (refine l_indexAddr ?_; (refine SXl.v (OpW.indexAddr1 (by omega) rfl rfl) rfl ?_ ?_ ?_); rfl; rfl) | refine SX.drawn (by kernel_rfl) (by kernel_rfl) ?_ | refine SXr.nil ?_ | (refine r_load ?_; (first | refine SXr.v (OpW.loadOwn (xs := ((weightsI grows h).map icell).flatten) 1 rfl rfl hwsv) rfl ?_ ?_ ?_ | refine SXr.v (OpW.load 0 rfl rfl rfl) rfl ?_ ?_ ?_); rfl; rfl) | (refine r_fieldAddr ?_; (refine SXr.v (OpW.fieldAddr rfl) rfl ?_ ?_ ?_); rfl; rfl) | (refine r_move ?_; (refine SXr.v (OpW.move rfl) rfl ?_ ?_ ?_); rfl; rfl) | (refine r_assign ?_; (refine SXr.v (OpW.assign rfl) rfl ?_ ?_ ?_); rfl; rfl) | (refine r_add ?_; (refine SXr.v (OpW.addi rfl rfl (by omega) (by omega)) rfl ?_ ?_ ?_); rfl; rfl) | (refine r_mul ?_; (refine SXr.v (OpW.muli rfl rfl (by omega) (by omega)) rfl ?_ ?_ ?_); rfl; rfl) | (refine r_indexAddr ?_; (refine SXr.v (OpW.indexAddr1 (by omega) rfl rfl) rfl ?_ ?_ ?_); rfl; rfl))
      refine l_store ?_
      refine SXl.store 1 rfl rfl rfl rfl (by rw [part_len _ _ (by omega)]; simp; omega) rfl rfl ?_
      simp only [List.set_cons_zero, List.set_cons_succ]
      rw [part_set hovk]
      have hz : x.least * A - (x.base * A + rest * wt) ≠ 0 := by omega
      rw [decide_eq_true hz, Bool.or_true] at hany
      cases hb : anyOver ov k
      · skip
        repeat (first | refine SX.seq ?_ | refine SXl.nil ?_ | refine SX.region ?_ | refine SQ.thenNormal ?_ | (refine l_load ?_; (refine SXl.v (OpW.load 1 rfl rfl (part_new hovk)) rfl ?_ ?_ ?_); rfl; rfl) | (refine l_move ?_; (refine SXl.v (OpW.move rfl) rfl ?_ ?_ ?_); rfl; rfl) | (refine l_assign ?_; (refine SXl.v (OpW.assign rfl) rfl ?_ ?_ ?_); rfl; rfl) | (refine l_add ?_; (first | refine SXl.v (OpW.succ rfl rfl (by omega)) rfl ?_ ?_ ?_ | refine SXl.v (OpW.addi rfl rfl (by omega) (by omega)) rfl ?_ ?_ ?_); rfl; rfl) | (refine l_neq ?_; (refine SXl.v (OpW.neqT rfl rfl (by omega)) rfl ?_ ?_ ?_); rfl; rfl) | (refine l_pick ?_; (refine SXl.v (OpW.pick rfl rfl rfl) rfl ?_ ?_ ?_); rfl; rfl) | (refine l_indexAddr ?_; (refine SXl.v (OpW.indexAddr1 (by omega) rfl rfl) rfl ?_ ?_ ?_); rfl; rfl) | refine SQ.blockNormal ?_)
        refine SQ.round3 (k + 1) () () (by omega) (by omega) ?_ (fun w hl => hl.drop1)
        (repeat (first | exact subF_nil _ | (refine subF_cons rfl ?_) | (refine subF_consv rfl (by first | (rw [hsum]; done) | (rw [hany]; done) | (rw [hany]; rfl)) ?_)))
      · skip
        repeat (first | refine SX.seq ?_ | refine SXl.nil ?_ | refine SX.region ?_ | refine SQ.thenNormal ?_ | (refine SXl.no rfl rfl rfl ?_) | (refine l_load ?_; (refine SXl.v (OpW.load 1 rfl rfl (part_new hovk)) rfl ?_ ?_ ?_); rfl; rfl) | (refine l_move ?_; (refine SXl.v (OpW.move rfl) rfl ?_ ?_ ?_); rfl; rfl) | (refine l_assign ?_; (refine SXl.v (OpW.assign rfl) rfl ?_ ?_ ?_); rfl; rfl) | (refine l_add ?_; (first | refine SXl.v (OpW.succ rfl rfl (by omega)) rfl ?_ ?_ ?_ | refine SXl.v (OpW.addi rfl rfl (by omega) (by omega)) rfl ?_ ?_ ?_); rfl; rfl) | (refine l_pick ?_; (refine SXl.v (OpW.pick rfl rfl rfl) rfl ?_ ?_ ?_); rfl; rfl) | (refine l_indexAddr ?_; (refine SXl.v (OpW.indexAddr1 (by omega) rfl rfl) rfl ?_ ?_ ?_); rfl; rfl) | refine SQ.blockNormal ?_)
        refine SQ.round3 (k + 1) () () (by omega) (by omega) ?_ (fun w hl => hl.drop1)
        (repeat (first | exact subF_nil _ | (refine subF_cons rfl ?_) | (refine subF_consv rfl (by first | (rw [hsum]; done) | (rw [hany]; done) | (rw [hany]; rfl)) ?_)))
    by_cases hm0 : 0 ≤ x.most
    · by_cases d2 : upperOf x * A < x.base * A + rest * wt
      · have ho : overOf A rest wt x = upperOf x * A - (x.base * A + rest * wt) := by unfold overOf; rw [if_neg d1, if_pos ⟨hm0, d2⟩]
        rw [ho] at hovk hsum hany
        repeat (first | refine SX.seq ?_ | refine SXl.nil ?_ | refine SX.region ?_ | refine SQ.thenNormal ?_ | refine SX.block ?_ | refine SX.condT rfl ?_ | refine SX.condF rfl ?_ | (refine l_load ?_; (first | refine SXl.v (OpW.load 0 rfl rfl rfl) rfl ?_ ?_ ?_ | refine SXl.v (OpW.loadAll 0 rfl rfl rfl) rfl ?_ ?_ ?_); rfl; rfl) | (refine l_call ?_; (refine SXl.v (OpW.call rfl (fun w hl => l13Most_any x _ hm0)) rfl ?_ ?_ ?_); rfl; rfl) | (refine l_fieldAddr ?_; (refine SXl.v (OpW.fieldAddr rfl) rfl ?_ ?_ ?_); rfl; rfl) | (refine l_move ?_; (refine SXl.v (OpW.move rfl) rfl ?_ ?_ ?_); rfl; rfl) | (refine l_assign ?_; (refine SXl.v (OpW.assign rfl) rfl ?_ ?_ ?_); rfl; rfl) | (refine l_geq ?_; (refine SXl.v (OpW.geqT rfl rfl (by omega)) rfl ?_ ?_ ?_); rfl; rfl) | (refine l_gtr ?_; (refine SXl.v (OpW.gtrT rfl rfl (by omega)) rfl ?_ ?_ ?_); rfl; rfl) | (refine l_lss ?_; (refine SXl.v (OpW.lssF rfl rfl (by omega)) rfl ?_ ?_ ?_); rfl; rfl) | (refine l_mul ?_; (refine SXl.v (OpW.muli rfl rfl (by omega) (by omega)) rfl ?_ ?_ ?_); rfl; rfl) | (refine l_sub ?_; (refine SXl.v (OpW.subi rfl rfl (by omega) (by omega)) rfl ?_ ?_ ?_); rfl; rfl) | (refine l_pick ?_; (refine SXl.v (OpW.pick rfl rfl rfl) rfl ?_ ?_ ?_); rfl; rfl) | (refine l_indexAddr ?_; (refine SXl.v (OpW.indexAddr1 (by omega) rfl rfl) rfl ?_ ?_ ?_); rfl; rfl) | refine SX.drawn (by kernel_rfl) (by kernel_rfl) ?_ | refine SXr.nil ?_ | (refine r_load ?_; (first | refine SXr.v (OpW.loadOwn (xs := ((weightsI grows h).map icell).flatten) 1 rfl rfl hwsv) rfl ?_ ?_ ?_ | refine SXr.v (OpW.load 0 rfl rfl rfl) rfl ?_ ?_ ?_); rfl; rfl) | (refine r_fieldAddr ?_; (refine SXr.v (OpW.fieldAddr rfl) rfl ?_ ?_ ?_); rfl; rfl) | (refine r_move ?_; (refine SXr.v (OpW.move rfl) rfl ?_ ?_ ?_); rfl; rfl) | (refine r_assign ?_; (refine SXr.v (OpW.assign rfl) rfl ?_ ?_ ?_); rfl; rfl) | (refine r_add ?_; (refine SXr.v (OpW.addi rfl rfl (by omega) (by omega)) rfl ?_ ?_ ?_); rfl; rfl) | (refine r_mul ?_; (refine SXr.v (OpW.muli rfl rfl (by omega) (by omega)) rfl ?_ ?_ ?_); rfl; rfl) | (refine r_indexAddr ?_; (refine SXr.v (OpW.indexAddr1 (by omega) rfl rfl) rfl ?_ ?_ ?_); rfl; rfl))
        refine l_store ?_
        refine SXl.store 1 rfl rfl rfl rfl (by rw [part_len _ _ (by omega)]; simp; omega) rfl rfl ?_
        simp only [List.set_cons_zero, List.set_cons_succ]
        rw [part_set hovk]
        have hz : upperOf x * A - (x.base * A + rest * wt) ≠ 0 := by omega
        rw [decide_eq_true hz, Bool.or_true] at hany
        cases hb : anyOver ov k
        · skip
          repeat (first | refine SX.seq ?_ | refine SXl.nil ?_ | refine SX.region ?_ | refine SQ.thenNormal ?_ | (refine l_load ?_; (refine SXl.v (OpW.load 1 rfl rfl (part_new hovk)) rfl ?_ ?_ ?_); rfl; rfl) | (refine l_move ?_; (refine SXl.v (OpW.move rfl) rfl ?_ ?_ ?_); rfl; rfl) | (refine l_assign ?_; (refine SXl.v (OpW.assign rfl) rfl ?_ ?_ ?_); rfl; rfl) | (refine l_add ?_; (first | refine SXl.v (OpW.succ rfl rfl (by omega)) rfl ?_ ?_ ?_ | refine SXl.v (OpW.addi rfl rfl (by omega) (by omega)) rfl ?_ ?_ ?_); rfl; rfl) | (refine l_neq ?_; (refine SXl.v (OpW.neqT rfl rfl (by omega)) rfl ?_ ?_ ?_); rfl; rfl) | (refine l_pick ?_; (refine SXl.v (OpW.pick rfl rfl rfl) rfl ?_ ?_ ?_); rfl; rfl) | (refine l_indexAddr ?_; (refine SXl.v (OpW.indexAddr1 (by omega) rfl rfl) rfl ?_ ?_ ?_); rfl; rfl) | refine SQ.blockNormal ?_)
          refine SQ.round3 (k + 1) () () (by omega) (by omega) ?_ (fun w hl => hl.drop1)
          (repeat (first | exact subF_nil _ | (refine subF_cons rfl ?_) | (refine subF_consv rfl (by first | (rw [hsum]; done) | (rw [hany]; done) | (rw [hany]; rfl)) ?_)))
        · skip
          repeat (first | refine SX.seq ?_ | refine SXl.nil ?_ | refine SX.region ?_ | refine SQ.thenNormal ?_ | (refine SXl.no rfl rfl rfl ?_) | (refine l_load ?_; (refine SXl.v (OpW.load 1 rfl rfl (part_new hovk)) rfl ?_ ?_ ?_); rfl; rfl) | (refine l_move ?_; (refine SXl.v (OpW.move rfl) rfl ?_ ?_ ?_); rfl; rfl) | (refine l_assign ?_; (refine SXl.v (OpW.assign rfl) rfl ?_ ?_ ?_); rfl; rfl) | (refine l_add ?_; (first | refine SXl.v (OpW.succ rfl rfl (by omega)) rfl ?_ ?_ ?_ | refine SXl.v (OpW.addi rfl rfl (by omega) (by omega)) rfl ?_ ?_ ?_); rfl; rfl) | (refine l_pick ?_; (refine SXl.v (OpW.pick rfl rfl rfl) rfl ?_ ?_ ?_); rfl; rfl) | (refine l_indexAddr ?_; (refine SXl.v (OpW.indexAddr1 (by omega) rfl rfl) rfl ?_ ?_ ?_); rfl; rfl) | refine SQ.blockNormal ?_)
          refine SQ.round3 (k + 1) () () (by omega) (by omega) ?_ (fun w hl => hl.drop1)
          (repeat (first | exact subF_nil _ | (refine subF_cons rfl ?_) | (refine subF_consv rfl (by first | (rw [hsum]; done) | (rw [hany]; done) | (rw [hany]; rfl)) ?_)))
      · have ho : overOf A rest wt x = 0 := by unfold overOf; rw [if_neg d1, if_neg (fun hc => d2 hc.2)]
        rw [ho] at hovk hsum hany
        have hz0 := part_at (xs := ov) (k := k) (by omega)
        rw [decide_eq_false (fun hc => hc rfl), Bool.or_false] at hany
        cases hb : anyOver ov k
        · rw [hb] at hany
          repeat (first | refine SX.seq ?_ | refine SXl.nil ?_ | refine SX.region ?_ | refine SQ.thenNormal ?_ | refine SX.block ?_ | refine SX.skip ?_ | refine SX.condF rfl ?_ | (refine l_load ?_; (first | refine SXl.v (OpW.load 1 rfl rfl hz0) rfl ?_ ?_ ?_ | refine SXl.v (OpW.load 0 rfl rfl rfl) rfl ?_ ?_ ?_ | refine SXl.v (OpW.loadAll 0 rfl rfl rfl) rfl ?_ ?_ ?_); rfl; rfl) | (refine l_call ?_; (refine SXl.v (OpW.call rfl (fun w hl => l13Most_any x _ hm0)) rfl ?_ ?_ ?_); rfl; rfl) | (refine l_fieldAddr ?_; (refine SXl.v (OpW.fieldAddr rfl) rfl ?_ ?_ ?_); rfl; rfl) | (refine l_move ?_; (refine SXl.v (OpW.move rfl) rfl ?_ ?_ ?_); rfl; rfl) | (refine l_assign ?_; (refine SXl.v (OpW.assign rfl) rfl ?_ ?_ ?_); rfl; rfl) | (refine l_add ?_; (first | refine SXl.v (OpW.succ rfl rfl (by omega)) rfl ?_ ?_ ?_ | refine SXl.v (OpW.addi rfl rfl (by omega) (by omega)) rfl ?_ ?_ ?_); rfl; rfl) | (refine l_geq ?_; (refine SXl.v (OpW.geqT rfl rfl (by omega)) rfl ?_ ?_ ?_); rfl; rfl) | (refine l_gtr ?_; (refine SXl.v (OpW.gtrF rfl rfl (by omega)) rfl ?_ ?_ ?_); rfl; rfl) | (refine l_lss ?_; (refine SXl.v (OpW.lssF rfl rfl (by omega)) rfl ?_ ?_ ?_); rfl; rfl) | (refine l_mul ?_; (refine SXl.v (OpW.muli rfl rfl (by omega) (by omega)) rfl ?_ ?_ ?_); rfl; rfl) | (refine l_neq ?_; (refine SXl.v (OpW.neqF rfl rfl (by omega)) rfl ?_ ?_ ?_); rfl; rfl) | (refine l_pick ?_; (refine SXl.v (OpW.pick rfl rfl rfl) rfl ?_ ?_ ?_); rfl; rfl) | (refine l_indexAddr ?_; (refine SXl.v (OpW.indexAddr1 (by omega) rfl rfl) rfl ?_ ?_ ?_); rfl; rfl) | refine SX.drawn (by kernel_rfl) (by kernel_rfl) ?_ | refine SXr.nil ?_ | (refine r_load ?_; (first | refine SXr.v (OpW.loadOwn (xs := ((weightsI grows h).map icell).flatten) 1 rfl rfl hwsv) rfl ?_ ?_ ?_ | refine SXr.v (OpW.load 0 rfl rfl rfl) rfl ?_ ?_ ?_); rfl; rfl) | (refine r_fieldAddr ?_; (refine SXr.v (OpW.fieldAddr rfl) rfl ?_ ?_ ?_); rfl; rfl) | (refine r_move ?_; (refine SXr.v (OpW.move rfl) rfl ?_ ?_ ?_); rfl; rfl) | (refine r_assign ?_; (refine SXr.v (OpW.assign rfl) rfl ?_ ?_ ?_); rfl; rfl) | (refine r_add ?_; (refine SXr.v (OpW.addi rfl rfl (by omega) (by omega)) rfl ?_ ?_ ?_); rfl; rfl) | (refine r_mul ?_; (refine SXr.v (OpW.muli rfl rfl (by omega) (by omega)) rfl ?_ ?_ ?_); rfl; rfl) | (refine r_indexAddr ?_; (refine SXr.v (OpW.indexAddr1 (by omega) rfl rfl) rfl ?_ ?_ ?_); rfl; rfl) | refine SQ.blockNormal ?_)
          refine SQ.round3 (k + 1) () () (by omega) (by omega) ?_ (fun w hl => by rw [← part_zero hovk]; exact hl.drop1)
          (repeat (first | exact subF_nil _ | (refine subF_cons rfl ?_) | (refine subF_consv rfl (by first | (rw [hsum]; done) | (rw [hany]; done) | (rw [hany]; rfl)) ?_)))
        · rw [hb] at hany
          repeat (first | refine SX.seq ?_ | refine SXl.nil ?_ | refine SX.region ?_ | refine SQ.thenNormal ?_ | refine SX.block ?_ | refine SX.skip ?_ | refine SX.condF rfl ?_ | (refine SXl.no rfl rfl rfl ?_) | (refine l_load ?_; (first | refine SXl.v (OpW.load 1 rfl rfl hz0) rfl ?_ ?_ ?_ | refine SXl.v (OpW.load 0 rfl rfl rfl) rfl ?_ ?_ ?_ | refine SXl.v (OpW.loadAll 0 rfl rfl rfl) rfl ?_ ?_ ?_); rfl; rfl) | (refine l_call ?_; (refine SXl.v (OpW.call rfl (fun w hl => l13Most_any x _ hm0)) rfl ?_ ?_ ?_); rfl; rfl) | (refine l_fieldAddr ?_; (refine SXl.v (OpW.fieldAddr rfl) rfl ?_ ?_ ?_); rfl; rfl) | (refine l_move ?_; (refine SXl.v (OpW.move rfl) rfl ?_ ?_ ?_); rfl; rfl) | (refine l_assign ?_; (refine SXl.v (OpW.assign rfl) rfl ?_ ?_ ?_); rfl; rfl) | (refine l_add ?_; (first | refine SXl.v (OpW.succ rfl rfl (by omega)) rfl ?_ ?_ ?_ | refine SXl.v (OpW.addi rfl rfl (by omega) (by omega)) rfl ?_ ?_ ?_); rfl; rfl) | (refine l_geq ?_; (refine SXl.v (OpW.geqT rfl rfl (by omega)) rfl ?_ ?_ ?_); rfl; rfl) | (refine l_gtr ?_; (refine SXl.v (OpW.gtrF rfl rfl (by omega)) rfl ?_ ?_ ?_); rfl; rfl) | (refine l_lss ?_; (refine SXl.v (OpW.lssF rfl rfl (by omega)) rfl ?_ ?_ ?_); rfl; rfl) | (refine l_mul ?_; (refine SXl.v (OpW.muli rfl rfl (by omega) (by omega)) rfl ?_ ?_ ?_); rfl; rfl) | (refine l_pick ?_; (refine SXl.v (OpW.pick rfl rfl rfl) rfl ?_ ?_ ?_); rfl; rfl) | (refine l_indexAddr ?_; (refine SXl.v (OpW.indexAddr1 (by omega) rfl rfl) rfl ?_ ?_ ?_); rfl; rfl) | refine SX.drawn (by kernel_rfl) (by kernel_rfl) ?_ | refine SXr.nil ?_ | (refine r_load ?_; (first | refine SXr.v (OpW.loadOwn (xs := ((weightsI grows h).map icell).flatten) 1 rfl rfl hwsv) rfl ?_ ?_ ?_ | refine SXr.v (OpW.load 0 rfl rfl rfl) rfl ?_ ?_ ?_); rfl; rfl) | (refine r_fieldAddr ?_; (refine SXr.v (OpW.fieldAddr rfl) rfl ?_ ?_ ?_); rfl; rfl) | (refine r_move ?_; (refine SXr.v (OpW.move rfl) rfl ?_ ?_ ?_); rfl; rfl) | (refine r_assign ?_; (refine SXr.v (OpW.assign rfl) rfl ?_ ?_ ?_); rfl; rfl) | (refine r_add ?_; (refine SXr.v (OpW.addi rfl rfl (by omega) (by omega)) rfl ?_ ?_ ?_); rfl; rfl) | (refine r_mul ?_; (refine SXr.v (OpW.muli rfl rfl (by omega) (by omega)) rfl ?_ ?_ ?_); rfl; rfl) | (refine r_indexAddr ?_; (refine SXr.v (OpW.indexAddr1 (by omega) rfl rfl) rfl ?_ ?_ ?_); rfl; rfl) | refine SQ.blockNormal ?_)
          refine SQ.round3 (k + 1) () () (by omega) (by omega) ?_ (fun w hl => by rw [← part_zero hovk]; exact hl.drop1)
          (repeat (first | exact subF_nil _ | (refine subF_cons rfl ?_) | (refine subF_consv rfl (by first | (rw [hsum]; done) | (rw [hany]; done) | (rw [hany]; rfl)) ?_)))
    · have ho : overOf A rest wt x = 0 := by unfold overOf; rw [if_neg d1, if_neg (fun hc => hm0 hc.1)]
      rw [ho] at hovk hsum hany
      have hz0 := part_at (xs := ov) (k := k) (by omega)
      rw [decide_eq_false (fun hc => hc rfl), Bool.or_false] at hany
      cases hb : anyOver ov k
      · rw [hb] at hany
        repeat (first | refine SX.seq ?_ | refine SXl.nil ?_ | refine SX.region ?_ | refine SQ.thenNormal ?_ | refine SX.block ?_ | refine SX.skip ?_ | refine SX.condF rfl ?_ | (refine SXl.no rfl rfl rfl ?_) | (refine l_load ?_; (first | refine SXl.v (OpW.load 1 rfl rfl hz0) rfl ?_ ?_ ?_ | refine SXl.v (OpW.load 0 rfl rfl rfl) rfl ?_ ?_ ?_); rfl; rfl) | (refine l_fieldAddr ?_; (refine SXl.v (OpW.fieldAddr rfl) rfl ?_ ?_ ?_); rfl; rfl) | (refine l_move ?_; (refine SXl.v (OpW.move rfl) rfl ?_ ?_ ?_); rfl; rfl) | (refine l_assign ?_; (refine SXl.v (OpW.assign rfl) rfl ?_ ?_ ?_); rfl; rfl) | (refine l_add ?_; (first | refine SXl.v (OpW.succ rfl rfl (by omega)) rfl ?_ ?_ ?_ | refine SXl.v (OpW.addi rfl rfl (by omega) (by omega)) rfl ?_ ?_ ?_); rfl; rfl) | (refine l_geq ?_; (refine SXl.v (OpW.geqF rfl rfl (by omega)) rfl ?_ ?_ ?_); rfl; rfl) | (refine l_lss ?_; (refine SXl.v (OpW.lssF rfl rfl (by omega)) rfl ?_ ?_ ?_); rfl; rfl) | (refine l_mul ?_; (refine SXl.v (OpW.muli rfl rfl (by omega) (by omega)) rfl ?_ ?_ ?_); rfl; rfl) | (refine l_neq ?_; (refine SXl.v (OpW.neqF rfl rfl (by omega)) rfl ?_ ?_ ?_); rfl; rfl) | (refine l_pick ?_; (refine SXl.v (OpW.pick rfl rfl rfl) rfl ?_ ?_ ?_); rfl; rfl) | (refine l_indexAddr ?_; (refine SXl.v (OpW.indexAddr1 (by omega) rfl rfl) rfl ?_ ?_ ?_); rfl; rfl) | refine SX.drawn (by kernel_rfl) (by kernel_rfl) ?_ | refine SXr.nil ?_ | (refine r_load ?_; (first | refine SXr.v (OpW.loadOwn (xs := ((weightsI grows h).map icell).flatten) 1 rfl rfl hwsv) rfl ?_ ?_ ?_ | refine SXr.v (OpW.load 0 rfl rfl rfl) rfl ?_ ?_ ?_); rfl; rfl) | (refine r_fieldAddr ?_; (refine SXr.v (OpW.fieldAddr rfl) rfl ?_ ?_ ?_); rfl; rfl) | (refine r_move ?_; (refine SXr.v (OpW.move rfl) rfl ?_ ?_ ?_); rfl; rfl) | (refine r_assign ?_; (refine SXr.v (OpW.assign rfl) rfl ?_ ?_ ?_); rfl; rfl) | (refine r_add ?_; (refine SXr.v (OpW.addi rfl rfl (by omega) (by omega)) rfl ?_ ?_ ?_); rfl; rfl) | (refine r_mul ?_; (refine SXr.v (OpW.muli rfl rfl (by omega) (by omega)) rfl ?_ ?_ ?_); rfl; rfl) | (refine r_indexAddr ?_; (refine SXr.v (OpW.indexAddr1 (by omega) rfl rfl) rfl ?_ ?_ ?_); rfl; rfl) | refine SQ.blockNormal ?_)
        refine SQ.round3 (k + 1) () () (by omega) (by omega) ?_ (fun w hl => by rw [← part_zero hovk]; exact hl.drop1)
        (repeat (first | exact subF_nil _ | (refine subF_cons rfl ?_) | (refine subF_consv rfl (by first | (rw [hsum]; done) | (rw [hany]; done) | (rw [hany]; rfl)) ?_)))
      · rw [hb] at hany
        repeat (first | refine SX.seq ?_ | refine SXl.nil ?_ | refine SX.region ?_ | refine SQ.thenNormal ?_ | refine SX.block ?_ | refine SX.skip ?_ | refine SX.condF rfl ?_ | (refine SXl.no rfl rfl rfl ?_) | (refine l_load ?_; (first | refine SXl.v (OpW.load 1 rfl rfl hz0) rfl ?_ ?_ ?_ | refine SXl.v (OpW.load 0 rfl rfl rfl) rfl ?_ ?_ ?_); rfl; rfl) | (refine l_fieldAddr ?_; (refine SXl.v (OpW.fieldAddr rfl) rfl ?_ ?_ ?_); rfl; rfl) | (refine l_move ?_; (refine SXl.v (OpW.move rfl) rfl ?_ ?_ ?_); rfl; rfl) | (refine l_assign ?_; (refine SXl.v (OpW.assign rfl) rfl ?_ ?_ ?_); rfl; rfl) | (refine l_add ?_; (first | refine SXl.v (OpW.succ rfl rfl (by omega)) rfl ?_ ?_ ?_ | refine SXl.v (OpW.addi rfl rfl (by omega) (by omega)) rfl ?_ ?_ ?_); rfl; rfl) | (refine l_geq ?_; (refine SXl.v (OpW.geqF rfl rfl (by omega)) rfl ?_ ?_ ?_); rfl; rfl) | (refine l_lss ?_; (refine SXl.v (OpW.lssF rfl rfl (by omega)) rfl ?_ ?_ ?_); rfl; rfl) | (refine l_mul ?_; (refine SXl.v (OpW.muli rfl rfl (by omega) (by omega)) rfl ?_ ?_ ?_); rfl; rfl) | (refine l_pick ?_; (refine SXl.v (OpW.pick rfl rfl rfl) rfl ?_ ?_ ?_); rfl; rfl) | (refine l_indexAddr ?_; (refine SXl.v (OpW.indexAddr1 (by omega) rfl rfl) rfl ?_ ?_ ?_); rfl; rfl) | refine SX.drawn (by kernel_rfl) (by kernel_rfl) ?_ | refine SXr.nil ?_ | (refine r_load ?_; (first | refine SXr.v (OpW.loadOwn (xs := ((weightsI grows h).map icell).flatten) 1 rfl rfl hwsv) rfl ?_ ?_ ?_ | refine SXr.v (OpW.load 0 rfl rfl rfl) rfl ?_ ?_ ?_); rfl; rfl) | (refine r_fieldAddr ?_; (refine SXr.v (OpW.fieldAddr rfl) rfl ?_ ?_ ?_); rfl; rfl) | (refine r_move ?_; (refine SXr.v (OpW.move rfl) rfl ?_ ?_ ?_); rfl; rfl) | (refine r_assign ?_; (refine SXr.v (OpW.assign rfl) rfl ?_ ?_ ?_); rfl; rfl) | (refine r_add ?_; (refine SXr.v (OpW.addi rfl rfl (by omega) (by omega)) rfl ?_ ?_ ?_); rfl; rfl) | (refine r_mul ?_; (refine SXr.v (OpW.muli rfl rfl (by omega) (by omega)) rfl ?_ ?_ ?_); rfl; rfl) | (refine r_indexAddr ?_; (refine SXr.v (OpW.indexAddr1 (by omega) rfl rfl) rfl ?_ ?_ ?_); rfl; rfl) | refine SQ.blockNormal ?_)
        refine SQ.round3 (k + 1) () () (by omega) (by omega) ?_ (fun w hl => by rw [← part_zero hovk]; exact hl.drop1)
        (repeat (first | exact subF_nil _ | (refine subF_cons rfl ?_) | (refine subF_consv rfl (by first | (rw [hsum]; done) | (rw [hany]; done) | (rw [hany]; rfl)) ?_)))
  obtain rfl : k = (placesI h).length := by omega
  have t1 : ov.take (placesI h).length = ov := List.take_of_length_le (by omega)
  have t2 : anyOver ov (placesI h).length = !(ov.all fun o => decide (o = 0)) := by rw [← hovl]; exact anyOver_all ov
  have t3 : part ov (placesI h).length = ov.map (Value.int .i64) := by rw [← hovl]; exact part_all ov
  rw [t1, t2, t3]
  clear t1 t2 t3
  have hwok := ((hl).weights grows).1
  have hshl : (shares rest (weightsI grows h)).length = (placesI h).length := by
    unfold shares
    rw [show wOk (weightsI grows h) = true from hwok, if_pos rfl, sharesTo_length, hwl]
  have hshg : ∀ k, k < (placesI h).length → (shares rest (weightsI grows h))[k]? = some (shareOf rest (weightsI grows h) k) := fun k hk => by
    unfold shares
    rw [show wOk (weightsI grows h) = true from hwok, if_pos rfl, hrs]
    unfold sharesTo
    rw [List.getElem?_map, List.getElem?_range (by omega)]
    rfl
  have hvl : (newVals grows (weightsI grows h).sum rest h).length = (placesI h).length := by rw [newVals_len, places_len]
  have hsw := hall.symm
  have hwg2 : freeW grows h = weightsI grows h := freeW_items grows h
  have hSH := fun (w' : World) (h' : IntSlice (fun k => w.heap.size ≤ k) w' (some ⟨g3, 0, none⟩) (weightsI grows h)) => sshares_any rest (weightsI grows h) (some ⟨g3, 0, none⟩) c3 _ w' (by omega) h'
  generalize hSL : shares rest (weightsI grows h) = SL at *
  repeat (first | refine SX.seq ?_ | refine SXl.nil ?_ | refine SX.region ?_ | refine SQ.thenNormal ?_ | refine SX.condF rfl ?_ | (refine l_move ?_; (refine SXl.v (OpW.move rfl) rfl ?_ ?_ ?_); rfl; rfl) | (refine l_len ?_; (refine SXl.v (OpW.len rfl) rfl ?_ ?_ ?_); rfl; rfl) | (refine l_lss ?_; (refine SXl.v (OpW.lssF rfl rfl (by omega)) rfl ?_ ?_ ?_); rfl; rfl) | refine SX.exit ?_ | refine SQ.thenExit ?_ | refine SQ.blockExit ?_)
  refine l_call ?_
  refine SXl.calln1 (v := fun q => .slice q.a SL.length q.c) (F1 := ownRes icell 3 1 SL) rfl rfl rfl (fun w' hl' => (hSH w' (lineO_slice (p := (weightsI grows h, (some ⟨g3, 0, none⟩, c3))) hl'.owns (.tail _ (.head _)))).mono fun _ _ h => new_own h) (fun qs => ?_)
  refine SXl.knowI (fun w' hl' => own_addr (hl'.res _ (.head _)).1 (by omega)) (fun ⟨gq, hgq⟩ => ?_)
  obtain ⟨qa, qc, qlo⟩ := qs
  simp only at hgq
  subst hgq
  generalize hvs : newVals grows (weightsI grows h).sum rest h = vals at *
  repeat (first | refine SX.seq ?_ | refine SXl.nil ?_ | refine SX.region ?_ | refine SQ.thenNormal ?_ | refine SX.block ?_ | (refine l_assign ?_; (refine SXl.v (OpW.assign rfl) rfl ?_ ?_ ?_); rfl; rfl))
  refine SX.loop3 (fun (k : Nat) (_ _ : Unit) => k ≤ (placesI h).length) (fun k _ _ => (placesI h).length - k) (fun k _ _ => ⟨go, ov.map (Value.int .i64), 3⟩ :: [⟨gr, [.slice la i lc, .int .i64 gap, .int .i64 inner, .bool grows, .slice (some ⟨gh, 0, none⟩) i ch, .slice (some ⟨gs, 0, none⟩) i cs, .int .i64 (passes + 1 : Nat)], 124⟩, ⟨gh, (heldL (applyV (vals.take k) h)).map Value.bool ++ sh, 4⟩, ⟨gs, (heldSizes (applyV (vals.take k) h)).map (Value.int .i64) ++ ss, 3⟩]) (fun _ _ _ => [⟨.slice (some ⟨g4, 0, none⟩) (placesI h).length c4, 3, 1, (placesI h).length, ((placesI h).map icell).flatten⟩, ⟨.slice (some ⟨g3, 0, none⟩) (weightsI grows h).length c3, 3, 1, (weightsI grows h).length, ((weightsI grows h).map icell).flatten⟩]) (fun _ _ _ => [ownRes icell 3 1 SL ⟨some ⟨gq, 0, none⟩, qc, qlo⟩]) (fun k _ _ => [(0, .pointer (some ⟨gr, 0, none⟩)), (4, .slice (some ⟨g4, 0, none⟩) (placesI h).length c4), (8, .slice (some ⟨go, 0, none⟩) (placesI h).length (placesI h).length), (9, .int .i64 ov.sum), (10, .bool (!(ov.all fun o => decide (o = 0)))), (14, .slice (some ⟨gq, 0, none⟩) SL.length qc), (15, .int .i64 k)]) 0 () () (Nat.zero_le _) ?_ (fun _ hl => by rw [List.take_zero, applyV_nil]; exact hl) ?_
  · (repeat (first | exact subF_nil _ | (refine subF_cons rfl ?_) | (refine subF_consv rfl (by rfl) ?_)))
  rintro k _ _ hk
  by_cases hkn : k < (placesI h).length
  rotate_left
  · obtain rfl : k = (placesI h).length := by omega
    have e1 : vals.take (placesI h).length = vals := List.take_of_length_le (by omega)
    rw [e1, ← hpass]
    repeat (first | refine SX.seq ?_ | refine SXl.nil ?_ | refine SX.region ?_ | refine SQ.thenNormal ?_ | refine SX.condF rfl ?_ | (refine l_move ?_; (refine SXl.v (OpW.move rfl) rfl ?_ ?_ ?_); rfl; rfl) | (refine l_assign ?_; (refine SXl.v (OpW.assign rfl) rfl ?_ ?_ ?_); rfl; rfl) | (refine l_len ?_; (refine SXl.v (OpW.len rfl) rfl ?_ ?_ ?_); rfl; rfl) | (refine l_lss ?_; (refine SXl.v (OpW.lssF rfl rfl (by omega)) rfl ?_ ?_ ?_); rfl; rfl) | refine SX.ret ?_ | refine SX.exit ?_ | refine SQ.thenExit ?_ | refine SQ.blockExit ?_)
    refine SQ.body1 rfl rfl (fun w' hl => ⟨rfl, hl.mod, fun b hb => (hl.blk b (.tail _ hb)).2⟩)
  obtain ⟨j, hj⟩ : ∃ j, (freeIx h)[k]? = some j := ⟨_, List.getElem?_eq_getElem (by unfold placesI at hkn; rw [List.length_map] at hkn; exact hkn)⟩
  obtain ⟨x, hx, hxi⟩ := freeIx_get hj
  have hpl := places_get hj
  have hovk := hovg k x hxi
  have hplv : ((placesI h).map icell).flatten[0 + k]? = some (.int .i64 (j : Int)) := by rw [ints_flat, Nat.zero_add, List.getElem?_map, hpl]; rfl
  have hjm := (List.getElem?_eq_some_iff.1 hx).1
  obtain ⟨b1, o1, x1, e1, hR1, hb1, hxk, hc1⟩ := hS.get (k := j) (by omega)
  obtain rfl : x = x1 := Option.some.inj ((hit hx).symm.trans hxk)
  subst e1
  have hright := hl.free (List.mem_of_getElem? hxi)
  have hovc : (ov.map (Value.int .i64))[0 + k]? = some (.int .i64 (overOf (weightsI grows h).sum rest (weightOf grows x) x)) := by rw [Nat.zero_add, List.getElem?_map, hovk]; rfl
  have hfl : (applyV (vals.take k) h).length = i := by
    have := congrArg List.length (applyV_fst (vals.take k) h)
    rw [List.length_map, List.length_map] at this
    omega
  have hjl : j < (applyV (vals.take k) h).length := by omega
  have hap := fun (v : Option Int) (hv : vals[k]? = some v) => applyV_next h vals 0 k j x v hj hv hxi
  simp only [Nat.sub_zero] at hap
  have c0 := hc1 0 _ rfl
  have c1 := hc1 1 _ rfl
  cases hall0 : (ov.all fun o => decide (o = 0))
  rotate_left
  · rw [hall0, if_pos rfl] at hvals
    have hvk : vals[k]? = some (some (clampedL (x.base + shareOf rest (weightsI grows h) k))) := by
      rw [hvals, shareVals_at hsw hxi, hwg2]
    obtain ⟨a1, a2⟩ := hap _ hvk
    have hsk := hshg k hkn
    have hsb := shareOf_bd k hrb hwok
    change -144115188075855872 ≤ shareOf rest (weightsI grows h) k ∧ shareOf rest (weightsI grows h) k ≤ 144115188075855872 at hsb
    have hxb := hright.base
    repeat (first | refine SX.seq ?_ | refine SXl.nil ?_ | refine SX.region ?_ | refine SQ.thenNormal ?_ | refine SX.block ?_ | refine SX.skip ?_ | refine SX.condT rfl ?_ | (refine l_load ?_; (refine SXl.v (OpW.loadOwn (xs := ((placesI h).map icell).flatten) 0 rfl rfl hplv) rfl ?_ ?_ ?_); rfl; rfl) | (refine l_move ?_; (refine SXl.v (OpW.move rfl) rfl ?_ ?_ ?_); rfl; rfl) | (refine l_assign ?_; (refine SXl.v (OpW.assign rfl) rfl ?_ ?_ ?_); rfl; rfl) | (refine l_len ?_; (refine SXl.v (OpW.len rfl) rfl ?_ ?_ ?_); rfl; rfl) | (refine l_lss ?_; (refine SXl.v (OpW.lssT rfl rfl (by omega)) rfl ?_ ?_ ?_); rfl; rfl) | (refine l_not ?_; (refine SXl.v (OpW.not rfl) rfl ?_ ?_ ?_); rfl; rfl) | (refine l_indexAddr ?_; (refine SXl.v (OpW.indexAddr1 (by omega) rfl rfl) rfl ?_ ?_ ?_); rfl; rfl))
    refine SX.drawnTail 19 (by kernel_rfl) (by kernel_rfl) (by kernel_rfl) ?_
    repeat (first | (refine SXr.tail ?_) | (refine l_indexAddr ?_; (refine SXl.v ((OpW.indexAddr1 (i := j) (by omega) rfl rfl)) rfl ?_ ?_ ?_); rfl; rfl) | (refine r_load ?_; (first | refine SXr.v (OpW.loadOld rfl c0 (hR _ hR1)) rfl ?_ ?_ ?_ | refine SXr.v (OpW.loadLoc rfl (fun w' hl' => line_cell1 (hl'.res _ (.head _)).1 hsk)) rfl ?_ ?_ ?_ | refine SXr.v (OpW.load 1 rfl rfl rfl) rfl ?_ ?_ ?_); rfl; rfl) | (refine r_indexAddr ?_; (first | refine SXr.v ((OpW.indexAddr (i := j) (by omega) rfl rfl)) rfl ?_ ?_ ?_ | refine SXr.v (OpW.indexAddr1 (by omega) rfl rfl) rfl ?_ ?_ ?_); rfl; rfl) | (refine r_call ?_; (refine SXr.v (OpW.calls rfl (fun w _ => sclamped_any _ _)) rfl ?_ ?_ ?_); rfl; rfl) | (refine r_fieldAddr ?_; (refine SXr.v (OpW.fieldAddr rfl) rfl ?_ ?_ ?_); rfl; rfl) | (refine r_move ?_; (refine SXr.v (OpW.move rfl) rfl ?_ ?_ ?_); rfl; rfl) | (refine r_nilCheck ?_; (refine SXr.v (OpW.nilCheck rfl) rfl ?_ ?_ ?_); rfl; rfl) | (refine r_add ?_; (refine SXr.v (OpW.addi rfl rfl (by omega) (by omega)) rfl ?_ ?_ ?_); rfl; rfl))
    refine l_store ?_
    refine SXl.store 3 rfl rfl rfl rfl (by simp [sizes_len]; omega) rfl rfl ?_
    simp only [List.set_cons_zero, List.set_cons_succ]
    rw [size_set hjl x (clampedL (x.base + shareOf rest (weightsI grows h) k))]
    repeat (first | refine SXl.nil ?_ | refine SX.region ?_ | refine SQ.thenNormal ?_ | (refine l_indexAddr ?_; (refine SXl.v ((OpW.indexAddr1 (i := j) (by omega) rfl rfl)) rfl ?_ ?_ ?_); rfl; rfl) | (refine l_load ?_; (refine SXl.v (OpW.load 1 rfl rfl rfl) rfl ?_ ?_ ?_); rfl; rfl) | (refine l_fieldAddr ?_; (refine SXl.v (OpW.fieldAddr rfl) rfl ?_ ?_ ?_); rfl; rfl) | (refine l_move ?_; (refine SXl.v (OpW.move rfl) rfl ?_ ?_ ?_); rfl; rfl) | (refine l_nilCheck ?_; (refine SXl.v (OpW.nilCheck rfl) rfl ?_ ?_ ?_); rfl; rfl))
    refine l_store ?_
    refine SXl.store 2 rfl rfl rfl rfl (by simp [heldL_len]; omega) rfl rfl ?_
    simp only [List.set_cons_zero, List.set_cons_succ]
    rw [held_set hjl x (clampedL (x.base + shareOf rest (weightsI grows h) k))]
    repeat (first | refine SXl.nil ?_ | refine SX.region ?_ | refine SQ.thenNormal ?_ | (refine l_move ?_; (refine SXl.v (OpW.move rfl) rfl ?_ ?_ ?_); rfl; rfl) | (refine l_assign ?_; (refine SXl.v (OpW.assign rfl) rfl ?_ ?_ ?_); rfl; rfl) | (refine l_add ?_; (refine SXl.v (OpW.succ rfl rfl (by omega)) rfl ?_ ?_ ?_); rfl; rfl) | refine SQ.blockNormal ?_)
    refine SQ.round3 (k + 1) () () (by omega) (by omega) ?_ (fun w hl => by rw [a1]; exact hl)
    (repeat (first | exact subF_nil _ | (refine subF_cons rfl ?_) | (refine subF_consv rfl (by rfl) ?_)))
  · rw [hall0, if_neg Bool.false_ne_true] at hvals
    have hvk0 : vals[k]? = some (holdVal grows (weightsI grows h).sum rest ov.sum x) := by rw [hvals, List.getElem?_map, hxi]; rfl
    have hmo : overOf (weightsI grows h).sum rest (weightOf grows x) x < 0 → 0 ≤ x.most := fun ho => by
      unfold overOf at ho
      split at ho
      · omega
      · split at ho
        · rename_i hc; exact hc.1
        · omega
    unfold holdVal at hvk0
    generalize overOf (weightsI grows h).sum rest (weightOf grows x) x = o at *
    by_cases p1 : 0 < o
    · by_cases p2 : 0 ≤ ov.sum
      · have hvk : vals[k]? = some (some x.least) := by rw [hvk0, if_pos ⟨p1, p2⟩]
        obtain ⟨a1, a2⟩ := hap _ hvk
        repeat (first | refine SX.seq ?_ | refine SXl.nil ?_ | refine SX.region ?_ | refine SQ.thenNormal ?_ | refine SX.block ?_ | refine SX.skip ?_ | refine SX.condT rfl ?_ | refine SX.condF rfl ?_ | (refine l_load ?_; (first | refine SXl.v (OpW.loadOwn (xs := ((placesI h).map icell).flatten) 0 rfl rfl hplv) rfl ?_ ?_ ?_ | refine SXl.v (OpW.load 0 rfl rfl hovc) rfl ?_ ?_ ?_); rfl; rfl) | (refine l_move ?_; (refine SXl.v (OpW.move rfl) rfl ?_ ?_ ?_); rfl; rfl) | (refine l_assign ?_; (refine SXl.v (OpW.assign rfl) rfl ?_ ?_ ?_); rfl; rfl) | (refine l_len ?_; (refine SXl.v (OpW.len rfl) rfl ?_ ?_ ?_); rfl; rfl) | (refine l_geq ?_; (refine SXl.v (OpW.geqT rfl rfl (by omega)) rfl ?_ ?_ ?_); rfl; rfl) | (refine l_gtr ?_; (refine SXl.v (OpW.gtrT rfl rfl (by omega)) rfl ?_ ?_ ?_); rfl; rfl) | (refine l_lss ?_; (refine SXl.v (OpW.lssT rfl rfl (by omega)) rfl ?_ ?_ ?_); rfl; rfl) | (refine l_not ?_; (refine SXl.v (OpW.not rfl) rfl ?_ ?_ ?_); rfl; rfl) | (refine l_pick ?_; (refine SXl.v (OpW.pick rfl rfl rfl) rfl ?_ ?_ ?_); rfl; rfl) | (refine l_indexAddr ?_; (refine SXl.v (OpW.indexAddr1 (by omega) rfl rfl) rfl ?_ ?_ ?_); rfl; rfl))
        refine SX.drawnTail 13 (by kernel_rfl) (by kernel_rfl) (by kernel_rfl) ?_
        repeat (first | (refine SXr.tail ?_) | (refine l_indexAddr ?_; (refine SXl.v ((OpW.indexAddr1 (i := j) (by omega) rfl rfl)) rfl ?_ ?_ ?_); rfl; rfl) | (refine r_load ?_; (first | refine SXr.v (OpW.loadOld rfl c1 (hR _ hR1)) rfl ?_ ?_ ?_ | refine SXr.v (OpW.load 1 rfl rfl rfl) rfl ?_ ?_ ?_); rfl; rfl) | (refine r_indexAddr ?_; (refine SXr.v ((OpW.indexAddr (i := j) (by omega) rfl rfl)) rfl ?_ ?_ ?_); rfl; rfl) | (refine r_fieldAddr ?_; (refine SXr.v (OpW.fieldAddr rfl) rfl ?_ ?_ ?_); rfl; rfl) | (refine r_move ?_; (refine SXr.v (OpW.move rfl) rfl ?_ ?_ ?_); rfl; rfl) | (refine r_nilCheck ?_; (refine SXr.v (OpW.nilCheck rfl) rfl ?_ ?_ ?_); rfl; rfl))
        refine l_store ?_
        refine SXl.store 3 rfl rfl rfl rfl (by simp [sizes_len]; omega) rfl rfl ?_
        simp only [List.set_cons_zero, List.set_cons_succ]
        rw [size_set hjl x x.least]
        repeat (first | refine SXl.nil ?_ | refine SX.region ?_ | refine SQ.thenNormal ?_ | (refine l_indexAddr ?_; (refine SXl.v ((OpW.indexAddr1 (i := j) (by omega) rfl rfl)) rfl ?_ ?_ ?_); rfl; rfl) | (refine l_load ?_; (refine SXl.v (OpW.load 1 rfl rfl rfl) rfl ?_ ?_ ?_); rfl; rfl) | (refine l_fieldAddr ?_; (refine SXl.v (OpW.fieldAddr rfl) rfl ?_ ?_ ?_); rfl; rfl) | (refine l_move ?_; (refine SXl.v (OpW.move rfl) rfl ?_ ?_ ?_); rfl; rfl) | (refine l_nilCheck ?_; (refine SXl.v (OpW.nilCheck rfl) rfl ?_ ?_ ?_); rfl; rfl))
        refine l_store ?_
        refine SXl.store 2 rfl rfl rfl rfl (by simp [heldL_len]; omega) rfl rfl ?_
        simp only [List.set_cons_zero, List.set_cons_succ]
        rw [held_set hjl x x.least]
        repeat (first | refine SXl.nil ?_ | refine SX.region ?_ | refine SQ.thenNormal ?_ | (refine l_move ?_; (refine SXl.v (OpW.move rfl) rfl ?_ ?_ ?_); rfl; rfl) | (refine l_assign ?_; (refine SXl.v (OpW.assign rfl) rfl ?_ ?_ ?_); rfl; rfl) | (refine l_add ?_; (refine SXl.v (OpW.succ rfl rfl (by omega)) rfl ?_ ?_ ?_); rfl; rfl) | refine SQ.blockNormal ?_)
        refine SQ.round3 (k + 1) () () (by omega) (by omega) ?_ (fun w hl => by rw [a1]; exact hl)
        (repeat (first | exact subF_nil _ | (refine subF_cons rfl ?_) | (refine subF_consv rfl (by rfl) ?_)))
      · have hvk : vals[k]? = some none := by rw [hvk0, if_neg (by omega), if_neg (by omega)]
        obtain ⟨a1, a2⟩ := hap _ hvk
        rw [set_same a2] at a1
        repeat (first | refine SX.seq ?_ | refine SXl.nil ?_ | refine SX.region ?_ | refine SQ.thenNormal ?_ | refine SX.block ?_ | refine SX.skip ?_ | refine SX.condT rfl ?_ | refine SX.condF rfl ?_ | (refine SXl.no rfl rfl rfl ?_) | (refine l_load ?_; (first | refine SXl.v (OpW.loadOwn (xs := ((placesI h).map icell).flatten) 0 rfl rfl hplv) rfl ?_ ?_ ?_ | refine SXl.v (OpW.load 0 rfl rfl hovc) rfl ?_ ?_ ?_); rfl; rfl) | (refine l_move ?_; (refine SXl.v (OpW.move rfl) rfl ?_ ?_ ?_); rfl; rfl) | (refine l_assign ?_; (refine SXl.v (OpW.assign rfl) rfl ?_ ?_ ?_); rfl; rfl) | (refine l_len ?_; (refine SXl.v (OpW.len rfl) rfl ?_ ?_ ?_); rfl; rfl) | (refine l_add ?_; (refine SXl.v (OpW.succ rfl rfl (by omega)) rfl ?_ ?_ ?_); rfl; rfl) | (refine l_geq ?_; (refine SXl.v (OpW.geqF rfl rfl (by omega)) rfl ?_ ?_ ?_); rfl; rfl) | (refine l_gtr ?_; (refine SXl.v (OpW.gtrT rfl rfl (by omega)) rfl ?_ ?_ ?_); rfl; rfl) | (refine l_lss ?_; (first | refine SXl.v (OpW.lssT rfl rfl (by omega)) rfl ?_ ?_ ?_ | refine SXl.v (OpW.lssF rfl rfl (by omega)) rfl ?_ ?_ ?_); rfl; rfl) | (refine l_not ?_; (refine SXl.v (OpW.not rfl) rfl ?_ ?_ ?_); rfl; rfl) | (refine l_pick ?_; (refine SXl.v (OpW.pick rfl rfl rfl) rfl ?_ ?_ ?_); rfl; rfl) | (refine l_indexAddr ?_; (refine SXl.v (OpW.indexAddr1 (by omega) rfl rfl) rfl ?_ ?_ ?_); rfl; rfl) | refine SQ.blockNormal ?_)
        refine SQ.round3 (k + 1) () () (by omega) (by omega) ?_ (fun w hl => by rw [a1]; exact hl)
        (repeat (first | exact subF_nil _ | (refine subF_cons rfl ?_) | (refine subF_consv rfl (by rfl) ?_)))
    · by_cases p3 : o < 0
      · by_cases p4 : ov.sum ≤ 0
        · have hvk : vals[k]? = some (some (upperOf x)) := by rw [hvk0, if_neg (by omega), if_pos ⟨p3, p4⟩]
          obtain ⟨a1, a2⟩ := hap _ hvk
          repeat (first | refine SX.seq ?_ | refine SXl.nil ?_ | refine SX.region ?_ | refine SQ.thenNormal ?_ | refine SX.block ?_ | refine SX.skip ?_ | refine SX.condT rfl ?_ | refine SX.condF rfl ?_ | (refine SXl.no rfl rfl rfl ?_) | (refine l_load ?_; (first | refine SXl.v (OpW.loadOwn (xs := ((placesI h).map icell).flatten) 0 rfl rfl hplv) rfl ?_ ?_ ?_ | refine SXl.v (OpW.load 0 rfl rfl hovc) rfl ?_ ?_ ?_); rfl; rfl) | (refine l_move ?_; (refine SXl.v (OpW.move rfl) rfl ?_ ?_ ?_); rfl; rfl) | (refine l_assign ?_; (refine SXl.v (OpW.assign rfl) rfl ?_ ?_ ?_); rfl; rfl) | (refine l_len ?_; (refine SXl.v (OpW.len rfl) rfl ?_ ?_ ?_); rfl; rfl) | (refine l_gtr ?_; (refine SXl.v (OpW.gtrF rfl rfl (by omega)) rfl ?_ ?_ ?_); rfl; rfl) | (refine l_leq ?_; (refine SXl.v (OpW.leqT rfl rfl (by omega)) rfl ?_ ?_ ?_); rfl; rfl) | (refine l_lss ?_; (refine SXl.v (OpW.lssT rfl rfl (by omega)) rfl ?_ ?_ ?_); rfl; rfl) | (refine l_not ?_; (refine SXl.v (OpW.not rfl) rfl ?_ ?_ ?_); rfl; rfl) | (refine l_pick ?_; (refine SXl.v (OpW.pick rfl rfl rfl) rfl ?_ ?_ ?_); rfl; rfl) | (refine l_indexAddr ?_; (refine SXl.v (OpW.indexAddr1 (by omega) rfl rfl) rfl ?_ ?_ ?_); rfl; rfl))
          refine SX.drawnTail 13 (by kernel_rfl) (by kernel_rfl) (by kernel_rfl) ?_
          repeat (first | (refine SXr.tail ?_) | (refine l_indexAddr ?_; (refine SXl.v ((OpW.indexAddr1 (i := j) (by omega) rfl rfl)) rfl ?_ ?_ ?_); rfl; rfl) | (refine r_load ?_; (first | refine SXr.v (OpW.loadRowOld rfl hc1 (Item.cells_len x) (Nat.succ_pos _) (hR _ hR1)) rfl ?_ ?_ ?_ | refine SXr.v (OpW.load 1 rfl rfl rfl) rfl ?_ ?_ ?_); rfl; rfl) | (refine r_call ?_; (refine SXr.v (OpW.call rfl (fun w hl => l13Most_any x _ (hmo p3))) rfl ?_ ?_ ?_); rfl; rfl) | (refine r_indexAddr ?_; (refine SXr.v ((OpW.indexAddr (i := j) (by omega) rfl rfl)) rfl ?_ ?_ ?_); rfl; rfl) | (refine r_fieldAddr ?_; (refine SXr.v (OpW.fieldAddr rfl) rfl ?_ ?_ ?_); rfl; rfl) | (refine r_move ?_; (refine SXr.v (OpW.move rfl) rfl ?_ ?_ ?_); rfl; rfl) | (refine r_nilCheck ?_; (refine SXr.v (OpW.nilCheck rfl) rfl ?_ ?_ ?_); rfl; rfl))
          refine l_store ?_
          refine SXl.store 3 rfl rfl rfl rfl (by simp [sizes_len]; omega) rfl rfl ?_
          simp only [List.set_cons_zero, List.set_cons_succ]
          rw [size_set hjl x (upperOf x)]
          repeat (first | refine SXl.nil ?_ | refine SX.region ?_ | refine SQ.thenNormal ?_ | (refine l_indexAddr ?_; (refine SXl.v ((OpW.indexAddr1 (i := j) (by omega) rfl rfl)) rfl ?_ ?_ ?_); rfl; rfl) | (refine l_load ?_; (refine SXl.v (OpW.load 1 rfl rfl rfl) rfl ?_ ?_ ?_); rfl; rfl) | (refine l_fieldAddr ?_; (refine SXl.v (OpW.fieldAddr rfl) rfl ?_ ?_ ?_); rfl; rfl) | (refine l_move ?_; (refine SXl.v (OpW.move rfl) rfl ?_ ?_ ?_); rfl; rfl) | (refine l_nilCheck ?_; (refine SXl.v (OpW.nilCheck rfl) rfl ?_ ?_ ?_); rfl; rfl))
          refine l_store ?_
          refine SXl.store 2 rfl rfl rfl rfl (by simp [heldL_len]; omega) rfl rfl ?_
          simp only [List.set_cons_zero, List.set_cons_succ]
          rw [held_set hjl x (upperOf x)]
          repeat (first | refine SXl.nil ?_ | refine SX.region ?_ | refine SQ.thenNormal ?_ | (refine l_move ?_; (refine SXl.v (OpW.move rfl) rfl ?_ ?_ ?_); rfl; rfl) | (refine l_assign ?_; (refine SXl.v (OpW.assign rfl) rfl ?_ ?_ ?_); rfl; rfl) | (refine l_add ?_; (refine SXl.v (OpW.succ rfl rfl (by omega)) rfl ?_ ?_ ?_); rfl; rfl) | refine SQ.blockNormal ?_)
          refine SQ.round3 (k + 1) () () (by omega) (by omega) ?_ (fun w hl => by rw [a1]; exact hl)
          (repeat (first | exact subF_nil _ | (refine subF_cons rfl ?_) | (refine subF_consv rfl (by rfl) ?_)))
        · have hvk : vals[k]? = some none := by rw [hvk0, if_neg (by omega), if_neg (by omega)]
          obtain ⟨a1, a2⟩ := hap _ hvk
          rw [set_same a2] at a1
          repeat (first | refine SX.seq ?_ | refine SXl.nil ?_ | refine SX.region ?_ | refine SQ.thenNormal ?_ | refine SX.block ?_ | refine SX.skip ?_ | refine SX.condT rfl ?_ | refine SX.condF rfl ?_ | (refine SXl.no rfl rfl rfl ?_) | (refine l_load ?_; (first | refine SXl.v (OpW.loadOwn (xs := ((placesI h).map icell).flatten) 0 rfl rfl hplv) rfl ?_ ?_ ?_ | refine SXl.v (OpW.load 0 rfl rfl hovc) rfl ?_ ?_ ?_); rfl; rfl) | (refine l_move ?_; (refine SXl.v (OpW.move rfl) rfl ?_ ?_ ?_); rfl; rfl) | (refine l_assign ?_; (refine SXl.v (OpW.assign rfl) rfl ?_ ?_ ?_); rfl; rfl) | (refine l_len ?_; (refine SXl.v (OpW.len rfl) rfl ?_ ?_ ?_); rfl; rfl) | (refine l_add ?_; (refine SXl.v (OpW.succ rfl rfl (by omega)) rfl ?_ ?_ ?_); rfl; rfl) | (refine l_gtr ?_; (refine SXl.v (OpW.gtrF rfl rfl (by omega)) rfl ?_ ?_ ?_); rfl; rfl) | (refine l_leq ?_; (refine SXl.v (OpW.leqF rfl rfl (by omega)) rfl ?_ ?_ ?_); rfl; rfl) | (refine l_lss ?_; (refine SXl.v (OpW.lssT rfl rfl (by omega)) rfl ?_ ?_ ?_); rfl; rfl) | (refine l_not ?_; (refine SXl.v (OpW.not rfl) rfl ?_ ?_ ?_); rfl; rfl) | (refine l_pick ?_; (refine SXl.v (OpW.pick rfl rfl rfl) rfl ?_ ?_ ?_); rfl; rfl) | (refine l_indexAddr ?_; (refine SXl.v (OpW.indexAddr1 (by omega) rfl rfl) rfl ?_ ?_ ?_); rfl; rfl) | refine SQ.blockNormal ?_)
          refine SQ.round3 (k + 1) () () (by omega) (by omega) ?_ (fun w hl => by rw [a1]; exact hl)
          (repeat (first | exact subF_nil _ | (refine subF_cons rfl ?_) | (refine subF_consv rfl (by rfl) ?_)))
      · have hvk : vals[k]? = some none := by rw [hvk0, if_neg (by omega), if_neg (by omega)]
        obtain ⟨a1, a2⟩ := hap _ hvk
        rw [set_same a2] at a1
        repeat (first | refine SX.seq ?_ | refine SXl.nil ?_ | refine SX.region ?_ | refine SQ.thenNormal ?_ | refine SX.block ?_ | refine SX.skip ?_ | refine SX.condT rfl ?_ | refine SX.condF rfl ?_ | (refine SXl.no rfl rfl rfl ?_) | (refine l_load ?_; (first | refine SXl.v (OpW.loadOwn (xs := ((placesI h).map icell).flatten) 0 rfl rfl hplv) rfl ?_ ?_ ?_ | refine SXl.v (OpW.load 0 rfl rfl hovc) rfl ?_ ?_ ?_); rfl; rfl) | (refine l_move ?_; (refine SXl.v (OpW.move rfl) rfl ?_ ?_ ?_); rfl; rfl) | (refine l_assign ?_; (refine SXl.v (OpW.assign rfl) rfl ?_ ?_ ?_); rfl; rfl) | (refine l_len ?_; (refine SXl.v (OpW.len rfl) rfl ?_ ?_ ?_); rfl; rfl) | (refine l_add ?_; (refine SXl.v (OpW.succ rfl rfl (by omega)) rfl ?_ ?_ ?_); rfl; rfl) | (refine l_gtr ?_; (refine SXl.v (OpW.gtrF rfl rfl (by omega)) rfl ?_ ?_ ?_); rfl; rfl) | (refine l_lss ?_; (first | refine SXl.v (OpW.lssT rfl rfl (by omega)) rfl ?_ ?_ ?_ | refine SXl.v (OpW.lssF rfl rfl (by omega)) rfl ?_ ?_ ?_); rfl; rfl) | (refine l_not ?_; (refine SXl.v (OpW.not rfl) rfl ?_ ?_ ?_); rfl; rfl) | (refine l_pick ?_; (refine SXl.v (OpW.pick rfl rfl rfl) rfl ?_ ?_ ?_); rfl; rfl) | (refine l_indexAddr ?_; (refine SXl.v (OpW.indexAddr1 (by omega) rfl rfl) rfl ?_ ?_ ?_); rfl; rfl) | refine SQ.blockNormal ?_)
        refine SQ.round3 (k + 1) () () (by omega) (by omega) ?_ (fun w hl => by rw [a1]; exact hl)
        (repeat (first | exact subF_nil _ | (refine subF_cons rfl ?_) | (refine subF_consv rfl (by rfl) ?_)))
end Go.Proofs.Ytdohglcjjlmhhaa
