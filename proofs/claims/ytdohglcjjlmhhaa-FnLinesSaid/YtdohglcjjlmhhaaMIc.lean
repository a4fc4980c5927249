/-
  PROVED: contracts of functions and words on memory, several texts put together: what each says stands at its theorems. Conditions: as told there.
-/
import Derived.Test.YtdohglcjjlmhhaaMIb
import Derived.Test.YtdohglcjjlmhhaaChecked
import Derived.Deep.RegionHeld3
import Derived.Deep.QuietTactic
import Derived.BigQuiet
import Derived.Outline
import Derived.StillTailTactics
import Derived.WalkLawsBesides
import Derived.ProofKit
set_option linter.unusedVariables false
set_option linter.unusedSimpArgs false
namespace Go.Proofs.Ytdohglcjjlmhhaa
open Go.RowKit
set_option linter.unusedVariables false
set_option linter.unusedSimpArgs false

/-- Whether all items stand on one line. -/
def oneLine (l : List Item) (room : Int) (wraps : Bool) : Bool := !wraps || decide (room < 0) || !itemsOk l
theorem oneLine_cases (l : List Item) (room : Int) (wraps : Bool) : (wraps = false ∧ oneLine l room wraps = true) ∨ (wraps = true ∧ room < 0 ∧ oneLine l room wraps = true) ∨ (wraps = true ∧ ¬ room < 0 ∧ itemsOk l = false ∧ oneLine l room wraps = true) ∨ (wraps = true ∧ ¬ room < 0 ∧ itemsOk l = true ∧ oneLine l room wraps = false) := by
  unfold oneLine
  cases wraps
  · exact .inl ⟨rfl, rfl⟩
  · by_cases hr : room < 0
    · exact .inr (.inl ⟨rfl, hr, by simp [hr]⟩)
    · cases hi : itemsOk l
      · exact .inr (.inr (.inl ⟨rfl, hr, rfl, by simp [hr]⟩))
      · exact .inr (.inr (.inr ⟨rfl, hr, rfl, by simp [hr]⟩))
set_option maxRecDepth 100000 in
set_option maxHeartbeats 16000000 in
theorem linesOf_any (l : List Item) (gap room : Int) (wraps : Bool) (a : Option Addr) (c : Nat) (R : Nat → Prop) (w : World) (hlen : l.length ≤ 1048570) (hf : ∀ x ∈ l, x.Fits) (hg : -2147483648 ≤ gap ∧ gap ≤ 2147483648) (h : ItemSlice R w a l) :
    Calls Try.prog 10 #[.slice a l.length c, .int .i64 gap, .int .i64 room, .bool wraps] w (NewLines (linesTo l gap room (oneLine l room wraps) l.length) w) := by
  refine calls_sx Try.func10 rfl rfl (fun a h1 h2 h3 => ((((Fr.nil h1 h2).arg (h3 3 _ rfl)).arg (h3 2 _ rfl)).arg (h3 1 _ rfl)).arg (h3 0 _ rfl)) ?_
  refine SX.ownNil 29 1 ?_
  have hO := fun (w' : World) (hm : Mod (fun _ => False) w w') => itemsOk_any l a c R w' (by omega) (h.flatKeep hm)
  have hI := fun (ln : List Int) (b : Option Addr) (d : Nat) (S : Nat → Prop) (w' : World) (hm : Mod (fun _ => False) w w') (hs : ln.length ≤ 1048576) (h' : IntSlice S w' b ln) => lineItems_any l ln a b c d R S w' (by omega) hs (h.flatKeep hm) h'
  rcases oneLine_cases l room wraps with ⟨hw, he⟩ | ⟨hw, hr, he⟩ | ⟨hw, hr, hi, he⟩ | ⟨hw, hr, hi, he⟩
  all_goals rw [he]; subst hw
  rotate_left 3
  · rw [hi] at hO
    repeat (first | refine SX.seq ?_ | refine SXl.nil ?_ | refine SX.region ?_ | refine SQ.thenNormal ?_ | refine SX.block ?_ | (refine l_call ?_; (refine SXl.v (OpW.call rfl (fun w hl => hO _ hl.mod)) rfl ?_ ?_ ?_); rfl; rfl) | (refine l_move ?_; (refine SXl.v (OpW.move rfl) rfl ?_ ?_ ?_); rfl; rfl) | (refine l_assign ?_; (refine SXl.v (OpW.assign rfl) rfl ?_ ?_ ?_); rfl; rfl) | (refine l_len ?_; (refine SXl.v (OpW.len rfl) rfl ?_ ?_ ?_); rfl; rfl) | (refine l_lss ?_; (refine SXl.v (OpW.lssF rfl rfl (by omega)) rfl ?_ ?_ ?_); rfl; rfl) | (refine l_not ?_; (refine SXl.v (OpW.not rfl) rfl ?_ ?_ ?_); rfl; rfl) | (refine l_pick ?_; (refine SXl.v (OpW.pick rfl rfl rfl) rfl ?_ ?_ ?_); rfl; rfl))
    refine SX.loop3 (fun (k : Nat) (q : LinesQ) (_ : Unit) => k ≤ l.length ∧ q.ps.map (·.1) = linesTo l gap room false k) (fun k _ _ => l.length - k) (fun _ _ _ => []) (fun _ q _ => q.os) (fun _ _ _ => []) (fun k q _ => [(0, .slice a l.length c), (1, .int .i64 gap), (2, .int .i64 room), (9, q.v), (10, .bool false), (27, .int .i64 l.length), (28, .int .i64 k)]) 0 ⟨[], none, 0⟩ () ⟨Nat.zero_le _, rfl⟩ ?_ (fun w hl => hl) ?_
    · (repeat (first | exact subF_nil _ | (refine subF_cons rfl ?_) | (refine subF_consv rfl (by rfl) ?_)))
    rintro k ⟨ps, qa, qc⟩ _ ⟨hk, hps⟩
    simp only at hps
    simp only [LinesQ.v, LinesQ.os]
    have hpl : ps.length ≤ k := by
      have := congrArg List.length hps
      rw [List.length_map] at this
      rw [this]
      exact linesTo_len k
    by_cases hlt : k < l.length
    rotate_left
    · obtain rfl : k = l.length := by omega
      repeat (first | refine SX.seq ?_ | refine SXl.nil ?_ | refine SX.region ?_ | refine SQ.thenNormal ?_ | refine SX.condF rfl ?_ | (refine l_move ?_; (refine SXl.v (OpW.move rfl) rfl ?_ ?_ ?_); rfl; rfl) | (refine l_assign ?_; (refine SXl.v (OpW.assign rfl) rfl ?_ ?_ ?_); rfl; rfl) | (refine l_lss ?_; (refine SXl.v (OpW.lssF rfl rfl (by omega)) rfl ?_ ?_ ?_); rfl; rfl) | refine SX.ret ?_ | refine SX.exit ?_ | refine SQ.thenExit ?_ | refine SQ.blockExit ?_)
      refine SQ.body1 rfl rfl (fun w' hl => ⟨⟨ps, qa, qc⟩, rfl, hps, hl.owns, hl.mod⟩)
    rcases List.eq_nil_or_concat ps with h0 | ⟨ps', p, h0⟩
    · subst h0
      have hn := linesTo_first hps.symm
      repeat (first | refine SX.seq ?_ | refine SXl.nil ?_ | refine SX.region ?_ | refine SQ.thenNormal ?_ | refine SX.block ?_ | refine SX.skip ?_ | refine SX.condT rfl ?_ | refine SX.condF rfl ?_ | (refine l_move ?_; (refine SXl.v (OpW.move rfl) rfl ?_ ?_ ?_); rfl; rfl) | (refine l_assign ?_; (refine SXl.v (OpW.assign rfl) rfl ?_ ?_ ?_); rfl; rfl) | (refine l_len ?_; (refine SXl.v (OpW.len rfl) rfl ?_ ?_ ?_); rfl; rfl) | (refine l_add ?_; (refine SXl.v (OpW.succ rfl rfl (by omega)) rfl ?_ ?_ ?_); rfl; rfl) | (refine l_geq ?_; (refine SXl.v (OpW.geq rfl rfl) rfl ?_ ?_ ?_); rfl; rfl) | (refine l_lss ?_; (refine SXl.v (OpW.lssT rfl rfl (by omega)) rfl ?_ ?_ ?_); rfl; rfl) | (refine l_sub ?_; (refine SXl.v (OpW.subi rfl rfl (by omega) (by omega)) rfl ?_ ?_ ?_); rfl; rfl) | (refine l_buildSlice ?_; first | (refine SXl.lit1 ?_ ?_ rfl rfl rfl (fun g => ?_); rfl; rfl) | (refine SXl.lit0 ?_ ?_ (fun _ h => h) rfl (fun g => ?_); rfl; rfl)) | (refine l_append ?_; first | (refine SXl.append 0 0 rfl rfl rfl rfl rfl rfl rfl rfl (by omega) (by omega) (fun a c => ?_); simp only [List.set_cons_zero, List.set_cons_succ]) | (refine SXl.append 1 0 rfl rfl rfl rfl rfl rfl rfl rfl (by omega) (by omega) (fun a c => ?_); simp only [List.set_cons_zero, List.set_cons_succ])) | refine SQ.blockNormal ?_)
      rename_i g1
      refine SQ.round3 (k + 1) ⟨[([(k : Int)], (some ⟨g1, 0, none⟩, 1))], a, c⟩ () ⟨by omega, hn.symm⟩ (by omega) ?_ (fun w hl => Loc.linePush (ps := []) (p := ([(k : Int)], (some ⟨g1, 0, none⟩, 1))) (hl.drop1.toOwn (m := 1) (sz := 1) (fun h => h) rfl (by decide)))
      (repeat (first | exact subF_nil _ | (refine subF_cons rfl ?_) | (refine subF_consv rfl (by rfl) ?_)))
    · subst h0
      rw [List.concat_eq_append] at *
      have hlast : p.1.length ≤ k := linesTo_mem_len (n := k) (by rw [← hps, List.map_append]; exact List.mem_append_right _ (List.mem_singleton.2 rfl))
      rw [List.map_append] at hps
      simp only [List.map_cons, List.map_nil] at hps
      have hpl2 : (ps' ++ [p]).length = ps'.length + 1 := by simp
      have hon := linesTo_on hps.symm
      have hoff := linesTo_off hps.symm
      refine SX.knowI (fun w hl => rows_addr (hl.owns) (.head _) (by simp)) (fun ⟨gq, hgq⟩ => ?_)
      subst hgq
      have hv : ((ps' ++ [p]).map lineV)[0 + ps'.length]? = some (lineV p) := by
        rw [Nat.zero_add, List.map_append, List.getElem?_append_right (by simp)]; simp
      have hC := copyLine_any p.1 p.2.1 p.2.2
      repeat (first | refine SX.seq ?_ | refine SXl.nil ?_ | refine SX.region ?_ | refine SQ.thenNormal ?_ | refine SX.block ?_ | refine SX.skip ?_ | refine SX.condT rfl ?_ | (refine l_load ?_; (refine SXl.v (OpW.loadOwn (xs := (ps' ++ [p]).map lineV) 0 rfl rfl hv) rfl ?_ ?_ ?_); rfl; rfl) | (refine l_indexAddr ?_; (refine SXl.v ((OpW.indexAddr1 (i := ps'.length) (by omega) rfl (congrArg (fun i : Int => some (Value.int .i64 i)) (by omega : (((ps' ++ [p]).length : Nat) : Int) - 1 = ((ps'.length : Nat) : Int))))) rfl ?_ ?_ ?_); rfl; rfl) | (refine l_move ?_; (refine SXl.v (OpW.move rfl) rfl ?_ ?_ ?_); rfl; rfl) | (refine l_assign ?_; (refine SXl.v (OpW.assign rfl) rfl ?_ ?_ ?_); rfl; rfl) | (refine l_len ?_; (refine SXl.v (OpW.len rfl) rfl ?_ ?_ ?_); rfl; rfl) | (refine l_geq ?_; (refine SXl.v (OpW.geqT rfl rfl (by omega)) rfl ?_ ?_ ?_); rfl; rfl) | (refine l_lss ?_; (refine SXl.v (OpW.lssT rfl rfl (by omega)) rfl ?_ ?_ ?_); rfl; rfl) | (refine l_sub ?_; (refine SXl.v (OpW.subi rfl rfl (by omega) (by omega)) rfl ?_ ?_ ?_); rfl; rfl))
      refine l_call ?_
      refine SXl.callO rfl rfl rfl (fun w' hl => hC _ w' (by omega) (lineO_slice hl.owns (List.mem_cons_of_mem _ (List.mem_map.2 ⟨p, List.mem_append_right _ (List.mem_singleton.2 rfl), rfl⟩)))) (fun qn _ => ?_)
      simp only [List.cons_append, List.nil_append]
      repeat (first | (refine l_move ?_; (refine SXl.v (OpW.move rfl) rfl ?_ ?_ ?_); rfl; rfl) | (refine l_buildSlice ?_; first | (refine SXl.lit1 ?_ ?_ rfl rfl rfl (fun g => ?_); rfl; rfl) | (refine SXl.lit0 ?_ ?_ (fun _ h => h) rfl (fun g => ?_); rfl; rfl)))
      refine l_append ?_
      refine SXl.append (n0 := p.1.length) (xs := (p.1.map icell).flatten) 0 0 rfl rfl rfl rfl rfl rfl rfl rfl (by omega) (by omega) (fun a1 c1 => ?_)
      simp only [List.set_cons_zero]
      rw [line_grown]
      have hLI := hI (p.1 ++ [(k : Int)]) a1 c1
      rw [List.length_append, List.length_singleton] at hLI
      have hll := lineIt_len l (p.1 ++ [(k : Int)])
      rw [List.length_append, List.length_singleton] at hll
      have hlf := lineIt_fits (ln := p.1 ++ [(k : Int)]) hf
      repeat (first | refine SX.seq ?_ | refine SXl.nil ?_ | refine SX.region ?_ | refine SQ.thenNormal ?_ | (refine l_move ?_; (refine SXl.v (OpW.move rfl) rfl ?_ ?_ ?_); rfl; rfl) | (refine l_assign ?_; (refine SXl.v (OpW.assign rfl) rfl ?_ ?_ ?_); rfl; rfl))
      refine l_call ?_
      refine SXl.calln1 (v := fun q => .slice q.a (lineIt l (p.1 ++ [(k : Int)])).length q.c) (F1 := ownRes Item.cells 36 9 (lineIt l (p.1 ++ [(k : Int)]))) rfl rfl rfl (fun w' hl => (hLI _ w' hl.mod (by omega) (lineO_slice hl.owns (.head _))).mono fun _ _ h => new_own h) (fun q1 => ?_)
      have hout : outerL l gap (p.1 ++ [(k : Int)]) = outerOf (lineIt l (p.1 ++ [(k : Int)])) ((lineIt l (p.1 ++ [(k : Int)])).map hyp) gap := rfl
      generalize outerL l gap (p.1 ++ [(k : Int)]) = V at *
      generalize lineIt l (p.1 ++ [(k : Int)]) = li at *
      repeat (first | refine SX.seq ?_ | refine SXl.nil ?_ | refine SX.region ?_ | refine SQ.thenNormal ?_ | (refine l_move ?_; (refine SXl.v (OpW.move rfl) rfl ?_ ?_ ?_); rfl; rfl) | (refine l_assign ?_; (refine SXl.v (OpW.assign rfl) rfl ?_ ?_ ?_); rfl; rfl))
      refine l_call ?_
      refine SXl.calln1 (v := fun q => .slice q.a (li.map hyp).length q.c) (F1 := ownRes icell 3 1 (li.map hyp)) rfl rfl rfl (fun w hl => (hypsOf_any li q1.a q1.c _ w (by omega) (itemRes_in hl (.head _))).mono fun _ _ h => new_own h) (fun q2 => ?_)
      have hU := fun (w' : World) => outerOf_any li (li.map hyp) gap q1.a q2.a q1.c q2.c (fun k => q1.lo ≤ k) (fun k => q2.lo ≤ k) w' (by omega) (by rw [List.length_map]; omega) hlf ((hyp_near hlf).mono (by decide)) hg
      rw [← hout] at hU
      clear hout
      by_cases hfit : V ≤ room
      · repeat (first | refine SX.seq ?_ | refine SXl.nil ?_ | refine SX.region ?_ | refine SQ.thenNormal ?_ | refine SX.condT rfl ?_ | (refine l_call ?_; (refine SXl.v (OpW.call rfl (fun w hl => hU _ (itemRes_in hl (.tail _ (.head _))) (intRes_in hl (.head _)))) rfl ?_ ?_ ?_); rfl; rfl) | (refine l_indexAddr ?_; (refine SXl.v ((OpW.indexAddr1 (i := ps'.length) (by omega) rfl (congrArg (fun i : Int => some (Value.int .i64 i)) (by omega : (((ps' ++ [p]).length : Nat) : Int) - 1 = ((ps'.length : Nat) : Int))))) rfl ?_ ?_ ?_); rfl; rfl) | (refine l_move ?_; (refine SXl.v (OpW.move rfl) rfl ?_ ?_ ?_); rfl; rfl) | (refine l_leq ?_; (refine SXl.v (OpW.leqT rfl rfl (by omega)) rfl ?_ ?_ ?_); rfl; rfl) | (refine l_pick ?_; (refine SXl.v (OpW.pick rfl rfl rfl) rfl ?_ ?_ ?_); rfl; rfl))
        refine l_store ?_
        refine SXl.storeOwn (xs := (ps' ++ [p]).map lineV) 1 rfl rfl rfl rfl (by simp) rfl rfl ?_
        simp only [List.set_cons_zero, List.set_cons_succ]
        repeat (first | refine SXl.nil ?_ | refine SX.region ?_ | refine SQ.thenNormal ?_ | (refine l_move ?_; (refine SXl.v (OpW.move rfl) rfl ?_ ?_ ?_); rfl; rfl) | (refine l_add ?_; (refine SXl.v (OpW.succ rfl rfl (by omega)) rfl ?_ ?_ ?_); rfl; rfl) | refine SX.exit ?_ | refine SQ.thenExit ?_ | refine SQ.blockExit ?_)
        refine SQ.round3 (k + 1) ⟨ps' ++ [(p.1 ++ [(k : Int)], (a1, c1))], some ⟨gq, 0, none⟩, qc⟩ () ⟨by omega, by rw [List.map_append, hon (.inr hfit)]; rfl⟩ (by omega) ?_ (fun w hl => ?_)
        · (repeat (first | exact subF_nil _ | (refine subF_cons rfl ?_) | (refine subF_consv rfl (by simp [LinesQ.v]) ?_)))
        · have hl2 := hl.drop1.dropE.dropE
          rw [line_v p.1 (k : Int) a1 c1] at hl2
          exact hl2.lineAnew
      · repeat (first | refine SXl.nil ?_ | refine SX.region ?_ | refine SQ.thenNormal ?_ | refine SX.skip ?_ | refine SX.condF rfl ?_ | (refine l_call ?_; (refine SXl.v (OpW.call rfl (fun w hl => hU _ (itemRes_in hl (.tail _ (.head _))) (intRes_in hl (.head _)))) rfl ?_ ?_ ?_); rfl; rfl) | (refine l_move ?_; (refine SXl.v (OpW.move rfl) rfl ?_ ?_ ?_); rfl; rfl) | (refine l_assign ?_; (refine SXl.v (OpW.assign rfl) rfl ?_ ?_ ?_); rfl; rfl) | (refine l_add ?_; (refine SXl.v (OpW.succ rfl rfl (by omega)) rfl ?_ ?_ ?_); rfl; rfl) | (refine l_leq ?_; (refine SXl.v (OpW.leqF rfl rfl (by omega)) rfl ?_ ?_ ?_); rfl; rfl) | (refine l_pick ?_; (refine SXl.v (OpW.pick rfl rfl rfl) rfl ?_ ?_ ?_); rfl; rfl) | (refine l_buildSlice ?_; first | (refine SXl.lit1 ?_ ?_ rfl rfl rfl (fun g => ?_); rfl; rfl) | (refine SXl.lit0 ?_ ?_ (fun _ h => h) rfl (fun g => ?_); rfl; rfl)) | (refine l_append ?_; first | (refine SXl.append 0 0 rfl rfl rfl rfl rfl rfl rfl rfl (by omega) (by omega) (fun a c => ?_); simp only [List.set_cons_zero, List.set_cons_succ]) | (refine SXl.append 1 0 rfl rfl rfl rfl rfl rfl rfl rfl (by omega) (by omega) (fun a c => ?_); simp only [List.set_cons_zero, List.set_cons_succ])) | refine SQ.blockNormal ?_)
        rename_i g1
        refine SQ.round3 (k + 1) ⟨ps' ++ [p] ++ [([(k : Int)], (some ⟨g1, 0, none⟩, 1))], a, c⟩ () ⟨by omega, by rw [List.map_append, List.map_append, hoff (by rintro (hc | hc); cases hc; exact hfit hc)]; rfl⟩ (by omega) ?_ (fun w hl => ?_)
        · (repeat (first | exact subF_nil _ | (refine subF_cons rfl ?_) | (refine subF_consv rfl (by simp [LinesQ.v]) ?_)))
        · have hl2 := (hl.drop1.toOwn (m := 1) (sz := 1) (fun h => h) rfl (by decide)).drop1.dropE.dropE
          exact Loc.linePush (ps := ps' ++ [p]) (p := ([(k : Int)], (some ⟨g1, 0, none⟩, 1))) (hl2.ownSub (List.Sublist.cons_cons _ (List.sublist_cons_self _ _)))
  all_goals
    try rw [hi] at hO
    repeat (first | refine SX.seq ?_ | refine SXl.nil ?_ | refine SX.region ?_ | refine SQ.thenNormal ?_ | refine SX.block ?_ | (refine SXl.no rfl rfl rfl ?_) | (refine l_call ?_; (refine SXl.v (OpW.call rfl (fun w hl => hO _ hl.mod)) rfl ?_ ?_ ?_); rfl; rfl) | (refine l_move ?_; (refine SXl.v (OpW.move rfl) rfl ?_ ?_ ?_); rfl; rfl) | (refine l_assign ?_; (refine SXl.v (OpW.assign rfl) rfl ?_ ?_ ?_); rfl; rfl) | (refine l_len ?_; (refine SXl.v (OpW.len rfl) rfl ?_ ?_ ?_); rfl; rfl) | (refine l_lss ?_; (first | refine SXl.v (OpW.lssT rfl rfl (by omega)) rfl ?_ ?_ ?_ | refine SXl.v (OpW.lssF rfl rfl (by omega)) rfl ?_ ?_ ?_); rfl; rfl) | (refine l_not ?_; (refine SXl.v (OpW.not rfl) rfl ?_ ?_ ?_); rfl; rfl) | (refine l_pick ?_; (refine SXl.v (OpW.pick rfl rfl rfl) rfl ?_ ?_ ?_); rfl; rfl))
    refine SX.loop3 (fun (k : Nat) (q : LinesQ) (_ : Unit) => k ≤ l.length ∧ q.ps.map (·.1) = linesTo l gap room true k) (fun k _ _ => l.length - k) (fun _ _ _ => []) (fun _ q _ => q.os) (fun _ _ _ => []) (fun k q _ => [(0, .slice a l.length c), (1, .int .i64 gap), (2, .int .i64 room), (9, q.v), (10, .bool true), (27, .int .i64 l.length), (28, .int .i64 k)]) 0 ⟨[], none, 0⟩ () ⟨Nat.zero_le _, rfl⟩ ?_ (fun w hl => hl) ?_
    · (repeat (first | exact subF_nil _ | (refine subF_cons rfl ?_) | (refine subF_consv rfl (by rfl) ?_)))
    rintro k ⟨ps, qa, qc⟩ _ ⟨hk, hps⟩
    simp only at hps
    simp only [LinesQ.v, LinesQ.os]
    have hpl : ps.length ≤ k := by
      have := congrArg List.length hps
      rw [List.length_map] at this
      rw [this]
      exact linesTo_len k
    by_cases hlt : k < l.length
    rotate_left
    · obtain rfl : k = l.length := by omega
      repeat (first | refine SX.seq ?_ | refine SXl.nil ?_ | refine SX.region ?_ | refine SQ.thenNormal ?_ | refine SX.condF rfl ?_ | (refine l_move ?_; (refine SXl.v (OpW.move rfl) rfl ?_ ?_ ?_); rfl; rfl) | (refine l_assign ?_; (refine SXl.v (OpW.assign rfl) rfl ?_ ?_ ?_); rfl; rfl) | (refine l_lss ?_; (refine SXl.v (OpW.lssF rfl rfl (by omega)) rfl ?_ ?_ ?_); rfl; rfl) | refine SX.ret ?_ | refine SX.exit ?_ | refine SQ.thenExit ?_ | refine SQ.blockExit ?_)
      refine SQ.body1 rfl rfl (fun w' hl => ⟨⟨ps, qa, qc⟩, rfl, hps, hl.owns, hl.mod⟩)
    rcases List.eq_nil_or_concat ps with h0 | ⟨ps', p, h0⟩
    · subst h0
      have hn := linesTo_first hps.symm
      repeat (first | refine SX.seq ?_ | refine SXl.nil ?_ | refine SX.region ?_ | refine SQ.thenNormal ?_ | refine SX.block ?_ | refine SX.skip ?_ | refine SX.condT rfl ?_ | refine SX.condF rfl ?_ | (refine l_move ?_; (refine SXl.v (OpW.move rfl) rfl ?_ ?_ ?_); rfl; rfl) | (refine l_assign ?_; (refine SXl.v (OpW.assign rfl) rfl ?_ ?_ ?_); rfl; rfl) | (refine l_len ?_; (refine SXl.v (OpW.len rfl) rfl ?_ ?_ ?_); rfl; rfl) | (refine l_add ?_; (refine SXl.v (OpW.succ rfl rfl (by omega)) rfl ?_ ?_ ?_); rfl; rfl) | (refine l_geq ?_; (refine SXl.v (OpW.geq rfl rfl) rfl ?_ ?_ ?_); rfl; rfl) | (refine l_lss ?_; (refine SXl.v (OpW.lssT rfl rfl (by omega)) rfl ?_ ?_ ?_); rfl; rfl) | (refine l_sub ?_; (refine SXl.v (OpW.subi rfl rfl (by omega) (by omega)) rfl ?_ ?_ ?_); rfl; rfl) | (refine l_buildSlice ?_; first | (refine SXl.lit1 ?_ ?_ rfl rfl rfl (fun g => ?_); rfl; rfl) | (refine SXl.lit0 ?_ ?_ (fun _ h => h) rfl (fun g => ?_); rfl; rfl)) | (refine l_append ?_; first | (refine SXl.append 0 0 rfl rfl rfl rfl rfl rfl rfl rfl (by omega) (by omega) (fun a c => ?_); simp only [List.set_cons_zero, List.set_cons_succ]) | (refine SXl.append 1 0 rfl rfl rfl rfl rfl rfl rfl rfl (by omega) (by omega) (fun a c => ?_); simp only [List.set_cons_zero, List.set_cons_succ])) | refine SQ.blockNormal ?_)
      rename_i g1
      refine SQ.round3 (k + 1) ⟨[([(k : Int)], (some ⟨g1, 0, none⟩, 1))], a, c⟩ () ⟨by omega, hn.symm⟩ (by omega) ?_ (fun w hl => Loc.linePush (ps := []) (p := ([(k : Int)], (some ⟨g1, 0, none⟩, 1))) (hl.drop1.toOwn (m := 1) (sz := 1) (fun h => h) rfl (by decide)))
      (repeat (first | exact subF_nil _ | (refine subF_cons rfl ?_) | (refine subF_consv rfl (by rfl) ?_)))
    · subst h0
      rw [List.concat_eq_append] at *
      have hlast : p.1.length ≤ k := linesTo_mem_len (n := k) (by rw [← hps, List.map_append]; exact List.mem_append_right _ (List.mem_singleton.2 rfl))
      rw [List.map_append] at hps
      simp only [List.map_cons, List.map_nil] at hps
      have hpl2 : (ps' ++ [p]).length = ps'.length + 1 := by simp
      have hon := linesTo_on hps.symm
      have hoff := linesTo_off hps.symm
      refine SX.knowI (fun w hl => rows_addr (hl.owns) (.head _) (by simp)) (fun ⟨gq, hgq⟩ => ?_)
      subst hgq
      have hv : ((ps' ++ [p]).map lineV)[0 + ps'.length]? = some (lineV p) := by
        rw [Nat.zero_add, List.map_append, List.getElem?_append_right (by simp)]; simp
      have hC := copyLine_any p.1 p.2.1 p.2.2
      repeat (first | refine SX.seq ?_ | refine SXl.nil ?_ | refine SX.region ?_ | refine SQ.thenNormal ?_ | refine SX.block ?_ | refine SX.skip ?_ | refine SX.condT rfl ?_ | (refine l_load ?_; (refine SXl.v (OpW.loadOwn (xs := (ps' ++ [p]).map lineV) 0 rfl rfl hv) rfl ?_ ?_ ?_); rfl; rfl) | (refine l_indexAddr ?_; (refine SXl.v ((OpW.indexAddr1 (i := ps'.length) (by omega) rfl (congrArg (fun i : Int => some (Value.int .i64 i)) (by omega : (((ps' ++ [p]).length : Nat) : Int) - 1 = ((ps'.length : Nat) : Int))))) rfl ?_ ?_ ?_); rfl; rfl) | (refine l_move ?_; (refine SXl.v (OpW.move rfl) rfl ?_ ?_ ?_); rfl; rfl) | (refine l_assign ?_; (refine SXl.v (OpW.assign rfl) rfl ?_ ?_ ?_); rfl; rfl) | (refine l_len ?_; (refine SXl.v (OpW.len rfl) rfl ?_ ?_ ?_); rfl; rfl) | (refine l_geq ?_; (refine SXl.v (OpW.geqT rfl rfl (by omega)) rfl ?_ ?_ ?_); rfl; rfl) | (refine l_lss ?_; (refine SXl.v (OpW.lssT rfl rfl (by omega)) rfl ?_ ?_ ?_); rfl; rfl) | (refine l_sub ?_; (refine SXl.v (OpW.subi rfl rfl (by omega) (by omega)) rfl ?_ ?_ ?_); rfl; rfl))
      refine l_call ?_
      refine SXl.callO rfl rfl rfl (fun w' hl => hC _ w' (by omega) (lineO_slice hl.owns (List.mem_cons_of_mem _ (List.mem_map.2 ⟨p, List.mem_append_right _ (List.mem_singleton.2 rfl), rfl⟩)))) (fun qn _ => ?_)
      simp only [List.cons_append, List.nil_append]
      repeat (first | (refine l_move ?_; (refine SXl.v (OpW.move rfl) rfl ?_ ?_ ?_); rfl; rfl) | (refine l_buildSlice ?_; first | (refine SXl.lit1 ?_ ?_ rfl rfl rfl (fun g => ?_); rfl; rfl) | (refine SXl.lit0 ?_ ?_ (fun _ h => h) rfl (fun g => ?_); rfl; rfl)))
      refine l_append ?_
      refine SXl.append (n0 := p.1.length) (xs := (p.1.map icell).flatten) 0 0 rfl rfl rfl rfl rfl rfl rfl rfl (by omega) (by omega) (fun a1 c1 => ?_)
      simp only [List.set_cons_zero]
      rw [line_grown]
      have hLI := hI (p.1 ++ [(k : Int)]) a1 c1
      rw [List.length_append, List.length_singleton] at hLI
      have hll := lineIt_len l (p.1 ++ [(k : Int)])
      rw [List.length_append, List.length_singleton] at hll
      have hlf := lineIt_fits (ln := p.1 ++ [(k : Int)]) hf
      repeat (first | refine SX.seq ?_ | refine SXl.nil ?_ | refine SX.region ?_ | refine SQ.thenNormal ?_ | (refine l_move ?_; (refine SXl.v (OpW.move rfl) rfl ?_ ?_ ?_); rfl; rfl) | (refine l_assign ?_; (refine SXl.v (OpW.assign rfl) rfl ?_ ?_ ?_); rfl; rfl))
      refine l_call ?_
      refine SXl.calln1 (v := fun q => .slice q.a (lineIt l (p.1 ++ [(k : Int)])).length q.c) (F1 := ownRes Item.cells 36 9 (lineIt l (p.1 ++ [(k : Int)]))) rfl rfl rfl (fun w' hl => (hLI _ w' hl.mod (by omega) (lineO_slice hl.owns (.head _))).mono fun _ _ h => new_own h) (fun q1 => ?_)
      generalize lineIt l (p.1 ++ [(k : Int)]) = li at *
      repeat (first | refine SX.seq ?_ | refine SXl.nil ?_ | refine SX.region ?_ | refine SQ.thenNormal ?_ | refine SX.condT rfl ?_ | (refine SXl.no rfl rfl rfl ?_) | (refine l_indexAddr ?_; (refine SXl.v ((OpW.indexAddr1 (i := ps'.length) (by omega) rfl (congrArg (fun i : Int => some (Value.int .i64 i)) (by omega : (((ps' ++ [p]).length : Nat) : Int) - 1 = ((ps'.length : Nat) : Int))))) rfl ?_ ?_ ?_); rfl; rfl) | (refine l_move ?_; (refine SXl.v (OpW.move rfl) rfl ?_ ?_ ?_); rfl; rfl) | (refine l_assign ?_; (refine SXl.v (OpW.assign rfl) rfl ?_ ?_ ?_); rfl; rfl) | (refine l_pick ?_; (refine SXl.v (OpW.pick rfl rfl rfl) rfl ?_ ?_ ?_); rfl; rfl))
      refine l_store ?_
      refine SXl.storeOwn (xs := (ps' ++ [p]).map lineV) 1 rfl rfl rfl rfl (by simp) rfl rfl ?_
      simp only [List.set_cons_zero, List.set_cons_succ]
      repeat (first | refine SXl.nil ?_ | refine SX.region ?_ | refine SQ.thenNormal ?_ | (refine l_move ?_; (refine SXl.v (OpW.move rfl) rfl ?_ ?_ ?_); rfl; rfl) | (refine l_add ?_; (refine SXl.v (OpW.succ rfl rfl (by omega)) rfl ?_ ?_ ?_); rfl; rfl) | refine SX.exit ?_ | refine SQ.thenExit ?_ | refine SQ.blockExit ?_)
      refine SQ.round3 (k + 1) ⟨ps' ++ [(p.1 ++ [(k : Int)], (a1, c1))], some ⟨gq, 0, none⟩, qc⟩ () ⟨by omega, by rw [List.map_append, hon (.inl rfl)]; rfl⟩ (by omega) ?_ (fun w hl => ?_)
      · (repeat (first | exact subF_nil _ | (refine subF_cons rfl ?_) | (refine subF_consv rfl (by simp [LinesQ.v]) ?_)))
      · have hl2 := hl.drop1.dropE
        rw [line_v p.1 (k : Int) a1 c1] at hl2
        exact hl2.lineAnew
end Go.Proofs.Ytdohglcjjlmhhaa
namespace Go.Proofs.Ytdohglcjjlmhhaa
open Go.RowKit
set_option linter.unusedVariables false
set_option linter.unusedSimpArgs false

set_option maxRecDepth 100000 in
set_option maxHeartbeats 16000000 in
theorem slinesOf_any (l : List Item) (gap room : Int) (wraps : Bool) (a : Option Addr) (c : Nat) (R : Nat → Prop) (w : World) (hlen : l.length ≤ 1048570) (hf : ∀ x ∈ l, x.Fits) (hg : -2147483648 ≤ gap ∧ gap ≤ 2147483648) (h : ItemSlice R w a l) :
    Calls Try.prog 12 #[.slice a l.length c, .int .i64 gap, .int .i64 room, .bool wraps] w (NewLines (linesTo l gap room (oneLine l room wraps) l.length) w) := by
  refine calls_sx Try.func12 rfl rfl (fun a h1 h2 h3 => ((((Fr.nil h1 h2).arg (h3 3 _ rfl)).arg (h3 2 _ rfl)).arg (h3 1 _ rfl)).arg (h3 0 _ rfl)) ?_
  have hO := fun (w' : World) (hm : Mod (fun _ => False) w w') => sitemsOk_any l a c R w' (by omega) (h.flatKeep hm)
  have hI := fun (ln : List Int) (b : Option Addr) (d : Nat) (S : Nat → Prop) (w' : World) (hm : Mod (fun _ => False) w w') (hs : ln.length ≤ 1048576) (h' : IntSlice S w' b ln) => souter14_any l ln gap a b c d R S w' (by omega) hs hf hg (h.flatKeep hm) h'
  rcases oneLine_cases l room wraps with ⟨hw, he⟩ | ⟨hw, hr, he⟩ | ⟨hw, hr, hi, he⟩ | ⟨hw, hr, hi, he⟩
  all_goals rw [he]; subst hw
  rotate_left 3
  · rw [hi] at hO
    repeat (first | refine SX.seq ?_ | refine SXl.nil ?_ | refine SX.region ?_ | refine SQ.thenNormal ?_ | refine SX.block ?_ | (refine l_assign ?_; (refine SXl.v (OpW.assign rfl) rfl ?_ ?_ ?_); rfl; rfl) | (refine l_buildSlice ?_; first | (refine SXl.lit1 ?_ ?_ rfl rfl rfl (fun g => ?_); rfl; rfl) | (refine SXl.lit0 ?_ ?_ (fun _ h => h) rfl (fun g => ?_); rfl; rfl)))
    refine SX.loop3 (fun (k : Nat) (q : LinesQ) (_ : Unit) => k ≤ l.length ∧ q.ps.map (·.1) = linesTo l gap room false k) (fun k _ _ => l.length - k) (fun _ _ _ => []) (fun _ q _ => q.os) (fun _ _ _ => []) (fun k q _ => [(0, .slice a l.length c), (1, .int .i64 gap), (2, .int .i64 room), (3, .bool true), (9, q.v), (10, .int .i64 k)]) 0 ⟨[], _, _⟩ () ⟨Nat.zero_le _, rfl⟩ ?_ (fun w hl => hl) ?_
    · (repeat (first | exact subF_nil _ | (refine subF_cons rfl ?_) | (refine subF_consv rfl (by rfl) ?_)))
    rintro k ⟨ps, qa, qc⟩ _ ⟨hk, hps⟩
    simp only at hps
    simp only [LinesQ.v, LinesQ.os]
    have hpl : ps.length ≤ k := by
      have := congrArg List.length hps
      rw [List.length_map] at this
      rw [this]
      exact linesTo_len k
    by_cases hlt : k < l.length
    rotate_left
    · obtain rfl : k = l.length := by omega
      repeat (first | refine SX.seq ?_ | refine SXl.nil ?_ | refine SX.region ?_ | refine SQ.thenNormal ?_ | refine SX.condF rfl ?_ | (refine l_move ?_; (refine SXl.v (OpW.move rfl) rfl ?_ ?_ ?_); rfl; rfl) | (refine l_assign ?_; (refine SXl.v (OpW.assign rfl) rfl ?_ ?_ ?_); rfl; rfl) | (refine l_len ?_; (refine SXl.v (OpW.len rfl) rfl ?_ ?_ ?_); rfl; rfl) | (refine l_lss ?_; (refine SXl.v (OpW.lssF rfl rfl (by omega)) rfl ?_ ?_ ?_); rfl; rfl) | refine SX.ret ?_ | refine SX.exit ?_ | refine SQ.thenExit ?_ | refine SQ.blockExit ?_)
      refine SQ.body1 rfl rfl (fun w' hl => ⟨⟨ps, qa, qc⟩, rfl, hps, hl.owns, hl.mod⟩)
    rcases List.eq_nil_or_concat ps with h0 | ⟨ps', p, h0⟩
    · subst h0
      have hn := linesTo_first hps.symm
      repeat (first | refine SX.seq ?_ | refine SXl.nil ?_ | refine SX.region ?_ | refine SQ.thenNormal ?_ | refine SX.block ?_ | refine SX.skip ?_ | refine SX.condT rfl ?_ | refine SX.condF rfl ?_ | (refine l_move ?_; (refine SXl.v (OpW.move rfl) rfl ?_ ?_ ?_); rfl; rfl) | (refine l_assign ?_; (refine SXl.v (OpW.assign rfl) rfl ?_ ?_ ?_); rfl; rfl) | (refine l_len ?_; (refine SXl.v (OpW.len rfl) rfl ?_ ?_ ?_); rfl; rfl) | (refine l_add ?_; (refine SXl.v (OpW.succ rfl rfl (by omega)) rfl ?_ ?_ ?_); rfl; rfl) | (refine l_geq ?_; (refine SXl.v (OpW.geq rfl rfl) rfl ?_ ?_ ?_); rfl; rfl) | (refine l_lss ?_; (refine SXl.v (OpW.lssT rfl rfl (by omega)) rfl ?_ ?_ ?_); rfl; rfl) | (refine l_sub ?_; (refine SXl.v (OpW.subi rfl rfl (by omega) (by omega)) rfl ?_ ?_ ?_); rfl; rfl) | (refine l_buildSlice ?_; first | (refine SXl.lit1 ?_ ?_ rfl rfl rfl (fun g => ?_); rfl; rfl) | (refine SXl.lit0 ?_ ?_ (fun _ h => h) rfl (fun g => ?_); rfl; rfl)) | (refine l_append ?_; first | (refine SXl.append 0 0 rfl rfl rfl rfl rfl rfl rfl rfl (by omega) (by omega) (fun a c => ?_); simp only [List.set_cons_zero, List.set_cons_succ]) | (refine SXl.append 1 0 rfl rfl rfl rfl rfl rfl rfl rfl (by omega) (by omega) (fun a c => ?_); simp only [List.set_cons_zero, List.set_cons_succ])) | refine SQ.blockNormal ?_)
      rename_i g1
      refine SQ.round3 (k + 1) ⟨[([(k : Int)], (some ⟨g1, 0, none⟩, 1))], a, c⟩ () ⟨by omega, hn.symm⟩ (by omega) ?_ (fun w hl => Loc.linePush (ps := []) (p := ([(k : Int)], (some ⟨g1, 0, none⟩, 1))) (hl.drop1.toOwn (m := 1) (sz := 1) (fun h => h) rfl (by decide)))
      (repeat (first | exact subF_nil _ | (refine subF_cons rfl ?_) | (refine subF_consv rfl (by rfl) ?_)))
    · subst h0
      rw [List.concat_eq_append] at *
      have hlast : p.1.length ≤ k := linesTo_mem_len (n := k) (by rw [← hps, List.map_append]; exact List.mem_append_right _ (List.mem_singleton.2 rfl))
      rw [List.map_append] at hps
      simp only [List.map_cons, List.map_nil] at hps
      have hpl2 : (ps' ++ [p]).length = ps'.length + 1 := by simp
      have hon := linesTo_on hps.symm
      have hoff := linesTo_off hps.symm
      refine SX.knowI (fun w hl => rows_addr (hl.owns) (.head _) (by simp)) (fun ⟨gq, hgq⟩ => ?_)
      subst hgq
      have hv : ((ps' ++ [p]).map lineV)[0 + ps'.length]? = some (lineV p) := by
        rw [Nat.zero_add, List.map_append, List.getElem?_append_right (by simp)]; simp
      repeat (first | refine SX.seq ?_ | refine SXl.nil ?_ | refine SX.region ?_ | refine SQ.thenNormal ?_ | refine SX.block ?_ | refine SX.skip ?_ | refine SX.condT rfl ?_ | (refine l_load ?_; (refine SXl.v (OpW.loadOwn (xs := (ps' ++ [p]).map lineV) 1 rfl rfl hv) rfl ?_ ?_ ?_); rfl; rfl) | (refine l_indexAddr ?_; (refine SXl.v ((OpW.indexAddr1 (i := ps'.length) (by omega) rfl (congrArg (fun i : Int => some (Value.int .i64 i)) (by omega : (((ps' ++ [p]).length : Nat) : Int) - 1 = ((ps'.length : Nat) : Int))))) rfl ?_ ?_ ?_); rfl; rfl) | (refine l_move ?_; (refine SXl.v (OpW.move rfl) rfl ?_ ?_ ?_); rfl; rfl) | (refine l_assign ?_; (refine SXl.v (OpW.assign rfl) rfl ?_ ?_ ?_); rfl; rfl) | (refine l_len ?_; (refine SXl.v (OpW.len rfl) rfl ?_ ?_ ?_); rfl; rfl) | (refine l_geq ?_; (refine SXl.v (OpW.geqT rfl rfl (by omega)) rfl ?_ ?_ ?_); rfl; rfl) | (refine l_lss ?_; (refine SXl.v (OpW.lssT rfl rfl (by omega)) rfl ?_ ?_ ?_); rfl; rfl) | (refine l_sub ?_; (refine SXl.v (OpW.subi rfl rfl (by omega) (by omega)) rfl ?_ ?_ ?_); rfl; rfl) | (refine l_buildSlice ?_; first | (refine SXl.lit1 ?_ ?_ rfl rfl rfl (fun g => ?_); rfl; rfl) | (refine SXl.lit0 ?_ ?_ (fun _ h => h) rfl (fun g => ?_); rfl; rfl)))
      refine l_append ?_
      refine SXl.appendS (cs := icell) 0 p.1 rfl rfl rfl rfl rfl rfl (fun _ => rfl) icell_one0 (fun w' hl => ⟨_, lineO_slice hl.owns (List.mem_cons_of_mem _ (List.mem_cons_of_mem _ (List.mem_map.2 ⟨p, List.mem_append_right _ (List.mem_singleton.2 rfl), rfl⟩)))⟩) (by omega) (by omega) (fun a0 c0 => ?_)
      simp only [List.set_cons_zero, Nat.zero_add, List.nil_append]
      repeat (first | refine SX.seq ?_ | refine SXl.nil ?_ | refine SX.region ?_ | refine SQ.thenNormal ?_ | (refine l_move ?_; (refine SXl.v (OpW.move rfl) rfl ?_ ?_ ?_); rfl; rfl) | (refine l_assign ?_; (refine SXl.v (OpW.assign rfl) rfl ?_ ?_ ?_); rfl; rfl) | (refine l_lss ?_; (refine SXl.v (OpW.lssF rfl rfl (by omega)) rfl ?_ ?_ ?_); rfl; rfl) | (refine l_not ?_; (refine SXl.v (OpW.not rfl) rfl ?_ ?_ ?_); rfl; rfl) | (refine l_pick ?_; (refine SXl.v (OpW.pick rfl rfl rfl) rfl ?_ ?_ ?_); rfl; rfl) | (refine l_buildSlice ?_; first | (refine SXl.lit1 ?_ ?_ rfl rfl rfl (fun g => ?_); rfl; rfl) | (refine SXl.lit0 ?_ ?_ (fun _ h => h) rfl (fun g => ?_); rfl; rfl)) | (refine l_append ?_; first | (refine SXl.append 0 0 rfl rfl rfl rfl rfl rfl rfl rfl (by omega) (by omega) (fun a c => ?_); simp only [List.set_cons_zero, List.set_cons_succ]) | (refine SXl.append 1 0 rfl rfl rfl rfl rfl rfl rfl rfl (by omega) (by omega) (fun a c => ?_); simp only [List.set_cons_zero, List.set_cons_succ])))
      rw [line_grown]
      have hLI := hI (p.1 ++ [(k : Int)]) a c
      rw [List.length_append, List.length_singleton] at hLI
      generalize outerL l gap (p.1 ++ [(k : Int)]) = V at *
      by_cases hfit : V ≤ room
      · repeat (first | refine SX.seq ?_ | refine SXl.nil ?_ | refine SX.region ?_ | refine SQ.thenNormal ?_ | refine SX.condT rfl ?_ | (refine l_call ?_; (first | refine SXl.v (OpW.call rfl (fun w hl => hO _ hl.mod)) rfl ?_ ?_ ?_ | refine SXl.v (OpW.call rfl (fun w hl => hLI _ _ hl.mod (by omega) (lineO_slice hl.owns (.head _)))) rfl ?_ ?_ ?_); rfl; rfl) | (refine l_indexAddr ?_; (refine SXl.v ((OpW.indexAddr1 (i := ps'.length) (by omega) rfl (congrArg (fun i : Int => some (Value.int .i64 i)) (by omega : (((ps' ++ [p]).length : Nat) : Int) - 1 = ((ps'.length : Nat) : Int))))) rfl ?_ ?_ ?_); rfl; rfl) | (refine l_move ?_; (refine SXl.v (OpW.move rfl) rfl ?_ ?_ ?_); rfl; rfl) | (refine l_leq ?_; (refine SXl.v (OpW.leqT rfl rfl (by omega)) rfl ?_ ?_ ?_); rfl; rfl) | (refine l_not ?_; (refine SXl.v (OpW.not rfl) rfl ?_ ?_ ?_); rfl; rfl) | (refine l_pick ?_; (refine SXl.v (OpW.pick rfl rfl rfl) rfl ?_ ?_ ?_); rfl; rfl))
        refine l_store ?_
        refine SXl.storeOwn (xs := (ps' ++ [p]).map lineV) 1 rfl rfl rfl rfl (by simp) rfl rfl ?_
        simp only [List.set_cons_zero, List.set_cons_succ]
        repeat (first | refine SXl.nil ?_ | refine SX.region ?_ | refine SQ.thenNormal ?_ | (refine l_move ?_; (refine SXl.v (OpW.move rfl) rfl ?_ ?_ ?_); rfl; rfl) | (refine l_assign ?_; (refine SXl.v (OpW.assign rfl) rfl ?_ ?_ ?_); rfl; rfl) | (refine l_add ?_; (refine SXl.v (OpW.succ rfl rfl (by omega)) rfl ?_ ?_ ?_); rfl; rfl) | refine SX.exit ?_ | refine SQ.thenExit ?_ | refine SQ.blockExit ?_)
        refine SQ.round3 (k + 1) ⟨ps' ++ [(p.1 ++ [(k : Int)], (a, c))], some ⟨gq, 0, none⟩, qc⟩ () ⟨by omega, by rw [List.map_append, hon (.inr hfit)]; rfl⟩ (by omega) ?_ (fun w hl => ?_)
        · (repeat (first | exact subF_nil _ | (refine subF_cons rfl ?_) | (refine subF_consv rfl (by simp [LinesQ.v]) ?_)))
        · have hl2 := hl.drop1
          rw [line_v p.1 (k : Int) a c] at hl2
          exact hl2.lineAnew
      · repeat (first | refine SXl.nil ?_ | refine SX.region ?_ | refine SQ.thenNormal ?_ | refine SX.skip ?_ | refine SX.condF rfl ?_ | (refine l_call ?_; (first | refine SXl.v (OpW.call rfl (fun w hl => hO _ hl.mod)) rfl ?_ ?_ ?_ | refine SXl.v (OpW.call rfl (fun w hl => hLI _ _ hl.mod (by omega) (lineO_slice hl.owns (.head _)))) rfl ?_ ?_ ?_); rfl; rfl) | (refine l_move ?_; (refine SXl.v (OpW.move rfl) rfl ?_ ?_ ?_); rfl; rfl) | (refine l_assign ?_; (refine SXl.v (OpW.assign rfl) rfl ?_ ?_ ?_); rfl; rfl) | (refine l_add ?_; (refine SXl.v (OpW.succ rfl rfl (by omega)) rfl ?_ ?_ ?_); rfl; rfl) | (refine l_leq ?_; (refine SXl.v (OpW.leqF rfl rfl (by omega)) rfl ?_ ?_ ?_); rfl; rfl) | (refine l_not ?_; (refine SXl.v (OpW.not rfl) rfl ?_ ?_ ?_); rfl; rfl) | (refine l_pick ?_; (refine SXl.v (OpW.pick rfl rfl rfl) rfl ?_ ?_ ?_); rfl; rfl) | (refine l_buildSlice ?_; first | (refine SXl.lit1 ?_ ?_ rfl rfl rfl (fun g => ?_); rfl; rfl) | (refine SXl.lit0 ?_ ?_ (fun _ h => h) rfl (fun g => ?_); rfl; rfl)) | (refine l_append ?_; first | (refine SXl.append 0 0 rfl rfl rfl rfl rfl rfl rfl rfl (by omega) (by omega) (fun a c => ?_); simp only [List.set_cons_zero, List.set_cons_succ]) | (refine SXl.append 1 0 rfl rfl rfl rfl rfl rfl rfl rfl (by omega) (by omega) (fun a c => ?_); simp only [List.set_cons_zero, List.set_cons_succ])) | refine SQ.blockNormal ?_)
        rename_i g1
        refine SQ.round3 (k + 1) ⟨ps' ++ [p] ++ [([(k : Int)], (some ⟨g1, 0, none⟩, 1))], a, c⟩ () ⟨by omega, by rw [List.map_append, List.map_append, hoff (by rintro (hc | hc); cases hc; exact hfit hc)]; rfl⟩ (by omega) ?_ (fun w hl => ?_)
        · (repeat (first | exact subF_nil _ | (refine subF_cons rfl ?_) | (refine subF_consv rfl (by simp [LinesQ.v]) ?_)))
        · have hl2 := (hl.drop1.toOwn (m := 1) (sz := 1) (fun h => h) rfl (by decide)).drop1
          exact Loc.linePush (ps := ps' ++ [p]) (p := ([(k : Int)], (some ⟨g1, 0, none⟩, 1))) (hl2.ownSub (List.Sublist.cons_cons _ (List.sublist_cons_self _ _)))
  · try rw [hi] at hO
    repeat (first | refine SX.seq ?_ | refine SXl.nil ?_ | refine SX.region ?_ | refine SQ.thenNormal ?_ | refine SX.block ?_ | (refine l_assign ?_; (refine SXl.v (OpW.assign rfl) rfl ?_ ?_ ?_); rfl; rfl) | (refine l_buildSlice ?_; first | (refine SXl.lit1 ?_ ?_ rfl rfl rfl (fun g => ?_); rfl; rfl) | (refine SXl.lit0 ?_ ?_ (fun _ h => h) rfl (fun g => ?_); rfl; rfl)))
    refine SX.loop3 (fun (k : Nat) (q : LinesQ) (_ : Unit) => k ≤ l.length ∧ q.ps.map (·.1) = linesTo l gap room true k) (fun k _ _ => l.length - k) (fun _ _ _ => []) (fun _ q _ => q.os) (fun _ _ _ => []) (fun k q _ => [(0, .slice a l.length c), (1, .int .i64 gap), (2, .int .i64 room), (3, .bool false), (9, q.v), (10, .int .i64 k)]) 0 ⟨[], _, _⟩ () ⟨Nat.zero_le _, rfl⟩ ?_ (fun w hl => hl) ?_
    · (repeat (first | exact subF_nil _ | (refine subF_cons rfl ?_) | (refine subF_consv rfl (by rfl) ?_)))
    rintro k ⟨ps, qa, qc⟩ _ ⟨hk, hps⟩
    simp only at hps
    simp only [LinesQ.v, LinesQ.os]
    have hpl : ps.length ≤ k := by
      have := congrArg List.length hps
      rw [List.length_map] at this
      rw [this]
      exact linesTo_len k
    by_cases hlt : k < l.length
    rotate_left
    · obtain rfl : k = l.length := by omega
      repeat (first | refine SX.seq ?_ | refine SXl.nil ?_ | refine SX.region ?_ | refine SQ.thenNormal ?_ | refine SX.condF rfl ?_ | (refine l_move ?_; (refine SXl.v (OpW.move rfl) rfl ?_ ?_ ?_); rfl; rfl) | (refine l_assign ?_; (refine SXl.v (OpW.assign rfl) rfl ?_ ?_ ?_); rfl; rfl) | (refine l_len ?_; (refine SXl.v (OpW.len rfl) rfl ?_ ?_ ?_); rfl; rfl) | (refine l_lss ?_; (refine SXl.v (OpW.lssF rfl rfl (by omega)) rfl ?_ ?_ ?_); rfl; rfl) | refine SX.ret ?_ | refine SX.exit ?_ | refine SQ.thenExit ?_ | refine SQ.blockExit ?_)
      refine SQ.body1 rfl rfl (fun w' hl => ⟨⟨ps, qa, qc⟩, rfl, hps, hl.owns, hl.mod⟩)
    rcases List.eq_nil_or_concat ps with h0 | ⟨ps', p, h0⟩
    · subst h0
      have hn := linesTo_first hps.symm
      repeat (first | refine SX.seq ?_ | refine SXl.nil ?_ | refine SX.region ?_ | refine SQ.thenNormal ?_ | refine SX.block ?_ | refine SX.skip ?_ | refine SX.condT rfl ?_ | refine SX.condF rfl ?_ | (refine l_move ?_; (refine SXl.v (OpW.move rfl) rfl ?_ ?_ ?_); rfl; rfl) | (refine l_assign ?_; (refine SXl.v (OpW.assign rfl) rfl ?_ ?_ ?_); rfl; rfl) | (refine l_len ?_; (refine SXl.v (OpW.len rfl) rfl ?_ ?_ ?_); rfl; rfl) | (refine l_add ?_; (refine SXl.v (OpW.succ rfl rfl (by omega)) rfl ?_ ?_ ?_); rfl; rfl) | (refine l_geq ?_; (refine SXl.v (OpW.geq rfl rfl) rfl ?_ ?_ ?_); rfl; rfl) | (refine l_lss ?_; (refine SXl.v (OpW.lssT rfl rfl (by omega)) rfl ?_ ?_ ?_); rfl; rfl) | (refine l_sub ?_; (refine SXl.v (OpW.subi rfl rfl (by omega) (by omega)) rfl ?_ ?_ ?_); rfl; rfl) | (refine l_buildSlice ?_; first | (refine SXl.lit1 ?_ ?_ rfl rfl rfl (fun g => ?_); rfl; rfl) | (refine SXl.lit0 ?_ ?_ (fun _ h => h) rfl (fun g => ?_); rfl; rfl)) | (refine l_append ?_; first | (refine SXl.append 0 0 rfl rfl rfl rfl rfl rfl rfl rfl (by omega) (by omega) (fun a c => ?_); simp only [List.set_cons_zero, List.set_cons_succ]) | (refine SXl.append 1 0 rfl rfl rfl rfl rfl rfl rfl rfl (by omega) (by omega) (fun a c => ?_); simp only [List.set_cons_zero, List.set_cons_succ])) | refine SQ.blockNormal ?_)
      rename_i g1
      refine SQ.round3 (k + 1) ⟨[([(k : Int)], (some ⟨g1, 0, none⟩, 1))], a, c⟩ () ⟨by omega, hn.symm⟩ (by omega) ?_ (fun w hl => Loc.linePush (ps := []) (p := ([(k : Int)], (some ⟨g1, 0, none⟩, 1))) (hl.drop1.toOwn (m := 1) (sz := 1) (fun h => h) rfl (by decide)))
      (repeat (first | exact subF_nil _ | (refine subF_cons rfl ?_) | (refine subF_consv rfl (by rfl) ?_)))
    · subst h0
      rw [List.concat_eq_append] at *
      have hlast : p.1.length ≤ k := linesTo_mem_len (n := k) (by rw [← hps, List.map_append]; exact List.mem_append_right _ (List.mem_singleton.2 rfl))
      rw [List.map_append] at hps
      simp only [List.map_cons, List.map_nil] at hps
      have hpl2 : (ps' ++ [p]).length = ps'.length + 1 := by simp
      have hon := linesTo_on hps.symm
      have hoff := linesTo_off hps.symm
      refine SX.knowI (fun w hl => rows_addr (hl.owns) (.head _) (by simp)) (fun ⟨gq, hgq⟩ => ?_)
      subst hgq
      have hv : ((ps' ++ [p]).map lineV)[0 + ps'.length]? = some (lineV p) := by
        rw [Nat.zero_add, List.map_append, List.getElem?_append_right (by simp)]; simp
      repeat (first | refine SX.seq ?_ | refine SXl.nil ?_ | refine SX.region ?_ | refine SQ.thenNormal ?_ | refine SX.block ?_ | refine SX.skip ?_ | refine SX.condT rfl ?_ | (refine l_load ?_; (refine SXl.v (OpW.loadOwn (xs := (ps' ++ [p]).map lineV) 1 rfl rfl hv) rfl ?_ ?_ ?_); rfl; rfl) | (refine l_indexAddr ?_; (refine SXl.v ((OpW.indexAddr1 (i := ps'.length) (by omega) rfl (congrArg (fun i : Int => some (Value.int .i64 i)) (by omega : (((ps' ++ [p]).length : Nat) : Int) - 1 = ((ps'.length : Nat) : Int))))) rfl ?_ ?_ ?_); rfl; rfl) | (refine l_move ?_; (refine SXl.v (OpW.move rfl) rfl ?_ ?_ ?_); rfl; rfl) | (refine l_assign ?_; (refine SXl.v (OpW.assign rfl) rfl ?_ ?_ ?_); rfl; rfl) | (refine l_len ?_; (refine SXl.v (OpW.len rfl) rfl ?_ ?_ ?_); rfl; rfl) | (refine l_geq ?_; (refine SXl.v (OpW.geqT rfl rfl (by omega)) rfl ?_ ?_ ?_); rfl; rfl) | (refine l_lss ?_; (refine SXl.v (OpW.lssT rfl rfl (by omega)) rfl ?_ ?_ ?_); rfl; rfl) | (refine l_sub ?_; (refine SXl.v (OpW.subi rfl rfl (by omega) (by omega)) rfl ?_ ?_ ?_); rfl; rfl) | (refine l_buildSlice ?_; first | (refine SXl.lit1 ?_ ?_ rfl rfl rfl (fun g => ?_); rfl; rfl) | (refine SXl.lit0 ?_ ?_ (fun _ h => h) rfl (fun g => ?_); rfl; rfl)))
      refine l_append ?_
      refine SXl.appendS (cs := icell) 0 p.1 rfl rfl rfl rfl rfl rfl (fun _ => rfl) icell_one0 (fun w' hl => ⟨_, lineO_slice hl.owns (List.mem_cons_of_mem _ (List.mem_cons_of_mem _ (List.mem_map.2 ⟨p, List.mem_append_right _ (List.mem_singleton.2 rfl), rfl⟩)))⟩) (by omega) (by omega) (fun a0 c0 => ?_)
      simp only [List.set_cons_zero, Nat.zero_add, List.nil_append]
      repeat (first | refine SX.seq ?_ | refine SXl.nil ?_ | refine SX.region ?_ | refine SQ.thenNormal ?_ | refine SX.condT rfl ?_ | (refine SXl.no rfl rfl rfl ?_) | (refine l_move ?_; (refine SXl.v (OpW.move rfl) rfl ?_ ?_ ?_); rfl; rfl) | (refine l_assign ?_; (refine SXl.v (OpW.assign rfl) rfl ?_ ?_ ?_); rfl; rfl) | (refine l_not ?_; (refine SXl.v (OpW.not rfl) rfl ?_ ?_ ?_); rfl; rfl) | (refine l_pick ?_; (refine SXl.v (OpW.pick rfl rfl rfl) rfl ?_ ?_ ?_); rfl; rfl) | (refine l_buildSlice ?_; first | (refine SXl.lit1 ?_ ?_ rfl rfl rfl (fun g => ?_); rfl; rfl) | (refine SXl.lit0 ?_ ?_ (fun _ h => h) rfl (fun g => ?_); rfl; rfl)) | (refine l_append ?_; first | (refine SXl.append 0 0 rfl rfl rfl rfl rfl rfl rfl rfl (by omega) (by omega) (fun a c => ?_); simp only [List.set_cons_zero, List.set_cons_succ]) | (refine SXl.append 1 0 rfl rfl rfl rfl rfl rfl rfl rfl (by omega) (by omega) (fun a c => ?_); simp only [List.set_cons_zero, List.set_cons_succ])))
      rw [line_grown]
      have hLI := hI (p.1 ++ [(k : Int)]) a c
      rw [List.length_append, List.length_singleton] at hLI
      repeat ((refine l_indexAddr ?_; (refine SXl.v ((OpW.indexAddr1 (i := ps'.length) (by omega) rfl (congrArg (fun i : Int => some (Value.int .i64 i)) (by omega : (((ps' ++ [p]).length : Nat) : Int) - 1 = ((ps'.length : Nat) : Int))))) rfl ?_ ?_ ?_); rfl; rfl))
      refine l_store ?_
      refine SXl.storeOwn (xs := (ps' ++ [p]).map lineV) 1 rfl rfl rfl rfl (by simp) rfl rfl ?_
      simp only [List.set_cons_zero, List.set_cons_succ]
      repeat (first | refine SXl.nil ?_ | refine SX.region ?_ | refine SQ.thenNormal ?_ | (refine l_move ?_; (refine SXl.v (OpW.move rfl) rfl ?_ ?_ ?_); rfl; rfl) | (refine l_assign ?_; (refine SXl.v (OpW.assign rfl) rfl ?_ ?_ ?_); rfl; rfl) | (refine l_add ?_; (refine SXl.v (OpW.succ rfl rfl (by omega)) rfl ?_ ?_ ?_); rfl; rfl) | refine SX.exit ?_ | refine SQ.thenExit ?_ | refine SQ.blockExit ?_)
      refine SQ.round3 (k + 1) ⟨ps' ++ [(p.1 ++ [(k : Int)], (a, c))], some ⟨gq, 0, none⟩, qc⟩ () ⟨by omega, by rw [List.map_append, hon (.inl rfl)]; rfl⟩ (by omega) ?_ (fun w hl => ?_)
      · (repeat (first | exact subF_nil _ | (refine subF_cons rfl ?_) | (refine subF_consv rfl (by simp [LinesQ.v]) ?_)))
      · have hl2 := hl.drop1
        rw [line_v p.1 (k : Int) a c] at hl2
        exact hl2.lineAnew
  · try rw [hi] at hO
    repeat (first | refine SX.seq ?_ | refine SXl.nil ?_ | refine SX.region ?_ | refine SQ.thenNormal ?_ | refine SX.block ?_ | (refine l_assign ?_; (refine SXl.v (OpW.assign rfl) rfl ?_ ?_ ?_); rfl; rfl) | (refine l_buildSlice ?_; first | (refine SXl.lit1 ?_ ?_ rfl rfl rfl (fun g => ?_); rfl; rfl) | (refine SXl.lit0 ?_ ?_ (fun _ h => h) rfl (fun g => ?_); rfl; rfl)))
    refine SX.loop3 (fun (k : Nat) (q : LinesQ) (_ : Unit) => k ≤ l.length ∧ q.ps.map (·.1) = linesTo l gap room true k) (fun k _ _ => l.length - k) (fun _ _ _ => []) (fun _ q _ => q.os) (fun _ _ _ => []) (fun k q _ => [(0, .slice a l.length c), (1, .int .i64 gap), (2, .int .i64 room), (3, .bool true), (9, q.v), (10, .int .i64 k)]) 0 ⟨[], _, _⟩ () ⟨Nat.zero_le _, rfl⟩ ?_ (fun w hl => hl) ?_
    · (repeat (first | exact subF_nil _ | (refine subF_cons rfl ?_) | (refine subF_consv rfl (by rfl) ?_)))
    rintro k ⟨ps, qa, qc⟩ _ ⟨hk, hps⟩
    simp only at hps
    simp only [LinesQ.v, LinesQ.os]
    have hpl : ps.length ≤ k := by
      have := congrArg List.length hps
      rw [List.length_map] at this
      rw [this]
      exact linesTo_len k
    by_cases hlt : k < l.length
    rotate_left
    · obtain rfl : k = l.length := by omega
      repeat (first | refine SX.seq ?_ | refine SXl.nil ?_ | refine SX.region ?_ | refine SQ.thenNormal ?_ | refine SX.condF rfl ?_ | (refine l_move ?_; (refine SXl.v (OpW.move rfl) rfl ?_ ?_ ?_); rfl; rfl) | (refine l_assign ?_; (refine SXl.v (OpW.assign rfl) rfl ?_ ?_ ?_); rfl; rfl) | (refine l_len ?_; (refine SXl.v (OpW.len rfl) rfl ?_ ?_ ?_); rfl; rfl) | (refine l_lss ?_; (refine SXl.v (OpW.lssF rfl rfl (by omega)) rfl ?_ ?_ ?_); rfl; rfl) | refine SX.ret ?_ | refine SX.exit ?_ | refine SQ.thenExit ?_ | refine SQ.blockExit ?_)
      refine SQ.body1 rfl rfl (fun w' hl => ⟨⟨ps, qa, qc⟩, rfl, hps, hl.owns, hl.mod⟩)
    rcases List.eq_nil_or_concat ps with h0 | ⟨ps', p, h0⟩
    · subst h0
      have hn := linesTo_first hps.symm
      repeat (first | refine SX.seq ?_ | refine SXl.nil ?_ | refine SX.region ?_ | refine SQ.thenNormal ?_ | refine SX.block ?_ | refine SX.skip ?_ | refine SX.condT rfl ?_ | refine SX.condF rfl ?_ | (refine l_move ?_; (refine SXl.v (OpW.move rfl) rfl ?_ ?_ ?_); rfl; rfl) | (refine l_assign ?_; (refine SXl.v (OpW.assign rfl) rfl ?_ ?_ ?_); rfl; rfl) | (refine l_len ?_; (refine SXl.v (OpW.len rfl) rfl ?_ ?_ ?_); rfl; rfl) | (refine l_add ?_; (refine SXl.v (OpW.succ rfl rfl (by omega)) rfl ?_ ?_ ?_); rfl; rfl) | (refine l_geq ?_; (refine SXl.v (OpW.geq rfl rfl) rfl ?_ ?_ ?_); rfl; rfl) | (refine l_lss ?_; (refine SXl.v (OpW.lssT rfl rfl (by omega)) rfl ?_ ?_ ?_); rfl; rfl) | (refine l_sub ?_; (refine SXl.v (OpW.subi rfl rfl (by omega) (by omega)) rfl ?_ ?_ ?_); rfl; rfl) | (refine l_buildSlice ?_; first | (refine SXl.lit1 ?_ ?_ rfl rfl rfl (fun g => ?_); rfl; rfl) | (refine SXl.lit0 ?_ ?_ (fun _ h => h) rfl (fun g => ?_); rfl; rfl)) | (refine l_append ?_; first | (refine SXl.append 0 0 rfl rfl rfl rfl rfl rfl rfl rfl (by omega) (by omega) (fun a c => ?_); simp only [List.set_cons_zero, List.set_cons_succ]) | (refine SXl.append 1 0 rfl rfl rfl rfl rfl rfl rfl rfl (by omega) (by omega) (fun a c => ?_); simp only [List.set_cons_zero, List.set_cons_succ])) | refine SQ.blockNormal ?_)
      rename_i g1
      refine SQ.round3 (k + 1) ⟨[([(k : Int)], (some ⟨g1, 0, none⟩, 1))], a, c⟩ () ⟨by omega, hn.symm⟩ (by omega) ?_ (fun w hl => Loc.linePush (ps := []) (p := ([(k : Int)], (some ⟨g1, 0, none⟩, 1))) (hl.drop1.toOwn (m := 1) (sz := 1) (fun h => h) rfl (by decide)))
      (repeat (first | exact subF_nil _ | (refine subF_cons rfl ?_) | (refine subF_consv rfl (by rfl) ?_)))
    · subst h0
      rw [List.concat_eq_append] at *
      have hlast : p.1.length ≤ k := linesTo_mem_len (n := k) (by rw [← hps, List.map_append]; exact List.mem_append_right _ (List.mem_singleton.2 rfl))
      rw [List.map_append] at hps
      simp only [List.map_cons, List.map_nil] at hps
      have hpl2 : (ps' ++ [p]).length = ps'.length + 1 := by simp
      have hon := linesTo_on hps.symm
      have hoff := linesTo_off hps.symm
      refine SX.knowI (fun w hl => rows_addr (hl.owns) (.head _) (by simp)) (fun ⟨gq, hgq⟩ => ?_)
      subst hgq
      have hv : ((ps' ++ [p]).map lineV)[0 + ps'.length]? = some (lineV p) := by
        rw [Nat.zero_add, List.map_append, List.getElem?_append_right (by simp)]; simp
      repeat (first | refine SX.seq ?_ | refine SXl.nil ?_ | refine SX.region ?_ | refine SQ.thenNormal ?_ | refine SX.block ?_ | refine SX.skip ?_ | refine SX.condT rfl ?_ | (refine l_load ?_; (refine SXl.v (OpW.loadOwn (xs := (ps' ++ [p]).map lineV) 1 rfl rfl hv) rfl ?_ ?_ ?_); rfl; rfl) | (refine l_indexAddr ?_; (refine SXl.v ((OpW.indexAddr1 (i := ps'.length) (by omega) rfl (congrArg (fun i : Int => some (Value.int .i64 i)) (by omega : (((ps' ++ [p]).length : Nat) : Int) - 1 = ((ps'.length : Nat) : Int))))) rfl ?_ ?_ ?_); rfl; rfl) | (refine l_move ?_; (refine SXl.v (OpW.move rfl) rfl ?_ ?_ ?_); rfl; rfl) | (refine l_assign ?_; (refine SXl.v (OpW.assign rfl) rfl ?_ ?_ ?_); rfl; rfl) | (refine l_len ?_; (refine SXl.v (OpW.len rfl) rfl ?_ ?_ ?_); rfl; rfl) | (refine l_geq ?_; (refine SXl.v (OpW.geqT rfl rfl (by omega)) rfl ?_ ?_ ?_); rfl; rfl) | (refine l_lss ?_; (refine SXl.v (OpW.lssT rfl rfl (by omega)) rfl ?_ ?_ ?_); rfl; rfl) | (refine l_sub ?_; (refine SXl.v (OpW.subi rfl rfl (by omega) (by omega)) rfl ?_ ?_ ?_); rfl; rfl) | (refine l_buildSlice ?_; first | (refine SXl.lit1 ?_ ?_ rfl rfl rfl (fun g => ?_); rfl; rfl) | (refine SXl.lit0 ?_ ?_ (fun _ h => h) rfl (fun g => ?_); rfl; rfl)))
      refine l_append ?_
      refine SXl.appendS (cs := icell) 0 p.1 rfl rfl rfl rfl rfl rfl (fun _ => rfl) icell_one0 (fun w' hl => ⟨_, lineO_slice hl.owns (List.mem_cons_of_mem _ (List.mem_cons_of_mem _ (List.mem_map.2 ⟨p, List.mem_append_right _ (List.mem_singleton.2 rfl), rfl⟩)))⟩) (by omega) (by omega) (fun a0 c0 => ?_)
      simp only [List.set_cons_zero, Nat.zero_add, List.nil_append]
      repeat (first | refine SX.seq ?_ | refine SXl.nil ?_ | refine SX.region ?_ | refine SQ.thenNormal ?_ | refine SX.condT rfl ?_ | (refine SXl.no rfl rfl rfl ?_) | (refine l_move ?_; (refine SXl.v (OpW.move rfl) rfl ?_ ?_ ?_); rfl; rfl) | (refine l_assign ?_; (refine SXl.v (OpW.assign rfl) rfl ?_ ?_ ?_); rfl; rfl) | (refine l_lss ?_; (refine SXl.v (OpW.lssT rfl rfl (by omega)) rfl ?_ ?_ ?_); rfl; rfl) | (refine l_not ?_; (refine SXl.v (OpW.not rfl) rfl ?_ ?_ ?_); rfl; rfl) | (refine l_pick ?_; (refine SXl.v (OpW.pick rfl rfl rfl) rfl ?_ ?_ ?_); rfl; rfl) | (refine l_buildSlice ?_; first | (refine SXl.lit1 ?_ ?_ rfl rfl rfl (fun g => ?_); rfl; rfl) | (refine SXl.lit0 ?_ ?_ (fun _ h => h) rfl (fun g => ?_); rfl; rfl)) | (refine l_append ?_; first | (refine SXl.append 0 0 rfl rfl rfl rfl rfl rfl rfl rfl (by omega) (by omega) (fun a c => ?_); simp only [List.set_cons_zero, List.set_cons_succ]) | (refine SXl.append 1 0 rfl rfl rfl rfl rfl rfl rfl rfl (by omega) (by omega) (fun a c => ?_); simp only [List.set_cons_zero, List.set_cons_succ])))
      rw [line_grown]
      have hLI := hI (p.1 ++ [(k : Int)]) a c
      rw [List.length_append, List.length_singleton] at hLI
      repeat ((refine l_indexAddr ?_; (refine SXl.v ((OpW.indexAddr1 (i := ps'.length) (by omega) rfl (congrArg (fun i : Int => some (Value.int .i64 i)) (by omega : (((ps' ++ [p]).length : Nat) : Int) - 1 = ((ps'.length : Nat) : Int))))) rfl ?_ ?_ ?_); rfl; rfl))
      refine l_store ?_
      refine SXl.storeOwn (xs := (ps' ++ [p]).map lineV) 1 rfl rfl rfl rfl (by simp) rfl rfl ?_
      simp only [List.set_cons_zero, List.set_cons_succ]
      repeat (first | refine SXl.nil ?_ | refine SX.region ?_ | refine SQ.thenNormal ?_ | (refine l_move ?_; (refine SXl.v (OpW.move rfl) rfl ?_ ?_ ?_); rfl; rfl) | (refine l_assign ?_; (refine SXl.v (OpW.assign rfl) rfl ?_ ?_ ?_); rfl; rfl) | (refine l_add ?_; (refine SXl.v (OpW.succ rfl rfl (by omega)) rfl ?_ ?_ ?_); rfl; rfl) | refine SX.exit ?_ | refine SQ.thenExit ?_ | refine SQ.blockExit ?_)
      refine SQ.round3 (k + 1) ⟨ps' ++ [(p.1 ++ [(k : Int)], (a, c))], some ⟨gq, 0, none⟩, qc⟩ () ⟨by omega, by rw [List.map_append, hon (.inl rfl)]; rfl⟩ (by omega) ?_ (fun w hl => ?_)
      · (repeat (first | exact subF_nil _ | (refine subF_cons rfl ?_) | (refine subF_consv rfl (by simp [LinesQ.v]) ?_)))
      · have hl2 := hl.drop1
        rw [line_v p.1 (k : Int) a c] at hl2
        exact hl2.lineAnew
  · try rw [hi] at hO
    repeat (first | refine SX.seq ?_ | refine SXl.nil ?_ | refine SX.region ?_ | refine SQ.thenNormal ?_ | refine SX.block ?_ | (refine l_assign ?_; (refine SXl.v (OpW.assign rfl) rfl ?_ ?_ ?_); rfl; rfl) | (refine l_buildSlice ?_; first | (refine SXl.lit1 ?_ ?_ rfl rfl rfl (fun g => ?_); rfl; rfl) | (refine SXl.lit0 ?_ ?_ (fun _ h => h) rfl (fun g => ?_); rfl; rfl)))
    refine SX.loop3 (fun (k : Nat) (q : LinesQ) (_ : Unit) => k ≤ l.length ∧ q.ps.map (·.1) = linesTo l gap room true k) (fun k _ _ => l.length - k) (fun _ _ _ => []) (fun _ q _ => q.os) (fun _ _ _ => []) (fun k q _ => [(0, .slice a l.length c), (1, .int .i64 gap), (2, .int .i64 room), (3, .bool true), (9, q.v), (10, .int .i64 k)]) 0 ⟨[], _, _⟩ () ⟨Nat.zero_le _, rfl⟩ ?_ (fun w hl => hl) ?_
    · (repeat (first | exact subF_nil _ | (refine subF_cons rfl ?_) | (refine subF_consv rfl (by rfl) ?_)))
    rintro k ⟨ps, qa, qc⟩ _ ⟨hk, hps⟩
    simp only at hps
    simp only [LinesQ.v, LinesQ.os]
    have hpl : ps.length ≤ k := by
      have := congrArg List.length hps
      rw [List.length_map] at this
      rw [this]
      exact linesTo_len k
    by_cases hlt : k < l.length
    rotate_left
    · obtain rfl : k = l.length := by omega
      repeat (first | refine SX.seq ?_ | refine SXl.nil ?_ | refine SX.region ?_ | refine SQ.thenNormal ?_ | refine SX.condF rfl ?_ | (refine l_move ?_; (refine SXl.v (OpW.move rfl) rfl ?_ ?_ ?_); rfl; rfl) | (refine l_assign ?_; (refine SXl.v (OpW.assign rfl) rfl ?_ ?_ ?_); rfl; rfl) | (refine l_len ?_; (refine SXl.v (OpW.len rfl) rfl ?_ ?_ ?_); rfl; rfl) | (refine l_lss ?_; (refine SXl.v (OpW.lssF rfl rfl (by omega)) rfl ?_ ?_ ?_); rfl; rfl) | refine SX.ret ?_ | refine SX.exit ?_ | refine SQ.thenExit ?_ | refine SQ.blockExit ?_)
      refine SQ.body1 rfl rfl (fun w' hl => ⟨⟨ps, qa, qc⟩, rfl, hps, hl.owns, hl.mod⟩)
    rcases List.eq_nil_or_concat ps with h0 | ⟨ps', p, h0⟩
    · subst h0
      have hn := linesTo_first hps.symm
      repeat (first | refine SX.seq ?_ | refine SXl.nil ?_ | refine SX.region ?_ | refine SQ.thenNormal ?_ | refine SX.block ?_ | refine SX.skip ?_ | refine SX.condT rfl ?_ | refine SX.condF rfl ?_ | (refine l_move ?_; (refine SXl.v (OpW.move rfl) rfl ?_ ?_ ?_); rfl; rfl) | (refine l_assign ?_; (refine SXl.v (OpW.assign rfl) rfl ?_ ?_ ?_); rfl; rfl) | (refine l_len ?_; (refine SXl.v (OpW.len rfl) rfl ?_ ?_ ?_); rfl; rfl) | (refine l_add ?_; (refine SXl.v (OpW.succ rfl rfl (by omega)) rfl ?_ ?_ ?_); rfl; rfl) | (refine l_geq ?_; (refine SXl.v (OpW.geq rfl rfl) rfl ?_ ?_ ?_); rfl; rfl) | (refine l_lss ?_; (refine SXl.v (OpW.lssT rfl rfl (by omega)) rfl ?_ ?_ ?_); rfl; rfl) | (refine l_sub ?_; (refine SXl.v (OpW.subi rfl rfl (by omega) (by omega)) rfl ?_ ?_ ?_); rfl; rfl) | (refine l_buildSlice ?_; first | (refine SXl.lit1 ?_ ?_ rfl rfl rfl (fun g => ?_); rfl; rfl) | (refine SXl.lit0 ?_ ?_ (fun _ h => h) rfl (fun g => ?_); rfl; rfl)) | (refine l_append ?_; first | (refine SXl.append 0 0 rfl rfl rfl rfl rfl rfl rfl rfl (by omega) (by omega) (fun a c => ?_); simp only [List.set_cons_zero, List.set_cons_succ]) | (refine SXl.append 1 0 rfl rfl rfl rfl rfl rfl rfl rfl (by omega) (by omega) (fun a c => ?_); simp only [List.set_cons_zero, List.set_cons_succ])) | refine SQ.blockNormal ?_)
      rename_i g1
      refine SQ.round3 (k + 1) ⟨[([(k : Int)], (some ⟨g1, 0, none⟩, 1))], a, c⟩ () ⟨by omega, hn.symm⟩ (by omega) ?_ (fun w hl => Loc.linePush (ps := []) (p := ([(k : Int)], (some ⟨g1, 0, none⟩, 1))) (hl.drop1.toOwn (m := 1) (sz := 1) (fun h => h) rfl (by decide)))
      (repeat (first | exact subF_nil _ | (refine subF_cons rfl ?_) | (refine subF_consv rfl (by rfl) ?_)))
    · subst h0
      rw [List.concat_eq_append] at *
      have hlast : p.1.length ≤ k := linesTo_mem_len (n := k) (by rw [← hps, List.map_append]; exact List.mem_append_right _ (List.mem_singleton.2 rfl))
      rw [List.map_append] at hps
      simp only [List.map_cons, List.map_nil] at hps
      have hpl2 : (ps' ++ [p]).length = ps'.length + 1 := by simp
      have hon := linesTo_on hps.symm
      have hoff := linesTo_off hps.symm
      refine SX.knowI (fun w hl => rows_addr (hl.owns) (.head _) (by simp)) (fun ⟨gq, hgq⟩ => ?_)
      subst hgq
      have hv : ((ps' ++ [p]).map lineV)[0 + ps'.length]? = some (lineV p) := by
        rw [Nat.zero_add, List.map_append, List.getElem?_append_right (by simp)]; simp
      repeat (first | refine SX.seq ?_ | refine SXl.nil ?_ | refine SX.region ?_ | refine SQ.thenNormal ?_ | refine SX.block ?_ | refine SX.skip ?_ | refine SX.condT rfl ?_ | (refine l_load ?_; (refine SXl.v (OpW.loadOwn (xs := (ps' ++ [p]).map lineV) 1 rfl rfl hv) rfl ?_ ?_ ?_); rfl; rfl) | (refine l_indexAddr ?_; (refine SXl.v ((OpW.indexAddr1 (i := ps'.length) (by omega) rfl (congrArg (fun i : Int => some (Value.int .i64 i)) (by omega : (((ps' ++ [p]).length : Nat) : Int) - 1 = ((ps'.length : Nat) : Int))))) rfl ?_ ?_ ?_); rfl; rfl) | (refine l_move ?_; (refine SXl.v (OpW.move rfl) rfl ?_ ?_ ?_); rfl; rfl) | (refine l_assign ?_; (refine SXl.v (OpW.assign rfl) rfl ?_ ?_ ?_); rfl; rfl) | (refine l_len ?_; (refine SXl.v (OpW.len rfl) rfl ?_ ?_ ?_); rfl; rfl) | (refine l_geq ?_; (refine SXl.v (OpW.geqT rfl rfl (by omega)) rfl ?_ ?_ ?_); rfl; rfl) | (refine l_lss ?_; (refine SXl.v (OpW.lssT rfl rfl (by omega)) rfl ?_ ?_ ?_); rfl; rfl) | (refine l_sub ?_; (refine SXl.v (OpW.subi rfl rfl (by omega) (by omega)) rfl ?_ ?_ ?_); rfl; rfl) | (refine l_buildSlice ?_; first | (refine SXl.lit1 ?_ ?_ rfl rfl rfl (fun g => ?_); rfl; rfl) | (refine SXl.lit0 ?_ ?_ (fun _ h => h) rfl (fun g => ?_); rfl; rfl)))
      refine l_append ?_
      refine SXl.appendS (cs := icell) 0 p.1 rfl rfl rfl rfl rfl rfl (fun _ => rfl) icell_one0 (fun w' hl => ⟨_, lineO_slice hl.owns (List.mem_cons_of_mem _ (List.mem_cons_of_mem _ (List.mem_map.2 ⟨p, List.mem_append_right _ (List.mem_singleton.2 rfl), rfl⟩)))⟩) (by omega) (by omega) (fun a0 c0 => ?_)
      simp only [List.set_cons_zero, Nat.zero_add, List.nil_append]
      repeat (first | refine SX.seq ?_ | refine SXl.nil ?_ | refine SX.region ?_ | refine SQ.thenNormal ?_ | (refine l_move ?_; (refine SXl.v (OpW.move rfl) rfl ?_ ?_ ?_); rfl; rfl) | (refine l_assign ?_; (refine SXl.v (OpW.assign rfl) rfl ?_ ?_ ?_); rfl; rfl) | (refine l_lss ?_; (refine SXl.v (OpW.lssF rfl rfl (by omega)) rfl ?_ ?_ ?_); rfl; rfl) | (refine l_not ?_; (refine SXl.v (OpW.not rfl) rfl ?_ ?_ ?_); rfl; rfl) | (refine l_pick ?_; (refine SXl.v (OpW.pick rfl rfl rfl) rfl ?_ ?_ ?_); rfl; rfl) | (refine l_buildSlice ?_; first | (refine SXl.lit1 ?_ ?_ rfl rfl rfl (fun g => ?_); rfl; rfl) | (refine SXl.lit0 ?_ ?_ (fun _ h => h) rfl (fun g => ?_); rfl; rfl)) | (refine l_append ?_; first | (refine SXl.append 0 0 rfl rfl rfl rfl rfl rfl rfl rfl (by omega) (by omega) (fun a c => ?_); simp only [List.set_cons_zero, List.set_cons_succ]) | (refine SXl.append 1 0 rfl rfl rfl rfl rfl rfl rfl rfl (by omega) (by omega) (fun a c => ?_); simp only [List.set_cons_zero, List.set_cons_succ])))
      rw [line_grown]
      have hLI := hI (p.1 ++ [(k : Int)]) a c
      rw [List.length_append, List.length_singleton] at hLI
      repeat (first | refine SX.seq ?_ | refine SXl.nil ?_ | refine SX.region ?_ | refine SQ.thenNormal ?_ | refine SX.condT rfl ?_ | (refine SXl.no rfl rfl rfl ?_) | (refine l_call ?_; (refine SXl.v (OpW.call rfl (fun w hl => hO _ hl.mod)) rfl ?_ ?_ ?_); rfl; rfl) | (refine l_indexAddr ?_; (refine SXl.v ((OpW.indexAddr1 (i := ps'.length) (by omega) rfl (congrArg (fun i : Int => some (Value.int .i64 i)) (by omega : (((ps' ++ [p]).length : Nat) : Int) - 1 = ((ps'.length : Nat) : Int))))) rfl ?_ ?_ ?_); rfl; rfl) | (refine l_move ?_; (refine SXl.v (OpW.move rfl) rfl ?_ ?_ ?_); rfl; rfl) | (refine l_not ?_; (refine SXl.v (OpW.not rfl) rfl ?_ ?_ ?_); rfl; rfl) | (refine l_pick ?_; (refine SXl.v (OpW.pick rfl rfl rfl) rfl ?_ ?_ ?_); rfl; rfl))
      refine l_store ?_
      refine SXl.storeOwn (xs := (ps' ++ [p]).map lineV) 1 rfl rfl rfl rfl (by simp) rfl rfl ?_
      simp only [List.set_cons_zero, List.set_cons_succ]
      repeat (first | refine SXl.nil ?_ | refine SX.region ?_ | refine SQ.thenNormal ?_ | (refine l_move ?_; (refine SXl.v (OpW.move rfl) rfl ?_ ?_ ?_); rfl; rfl) | (refine l_assign ?_; (refine SXl.v (OpW.assign rfl) rfl ?_ ?_ ?_); rfl; rfl) | (refine l_add ?_; (refine SXl.v (OpW.succ rfl rfl (by omega)) rfl ?_ ?_ ?_); rfl; rfl) | refine SX.exit ?_ | refine SQ.thenExit ?_ | refine SQ.blockExit ?_)
      refine SQ.round3 (k + 1) ⟨ps' ++ [(p.1 ++ [(k : Int)], (a, c))], some ⟨gq, 0, none⟩, qc⟩ () ⟨by omega, by rw [List.map_append, hon (.inl rfl)]; rfl⟩ (by omega) ?_ (fun w hl => ?_)
      · (repeat (first | exact subF_nil _ | (refine subF_cons rfl ?_) | (refine subF_consv rfl (by simp [LinesQ.v]) ?_)))
      · have hl2 := hl.drop1
        rw [line_v p.1 (k : Int) a c] at hl2
        exact hl2.lineAnew
end Go.Proofs.Ytdohglcjjlmhhaa
namespace Go.Proofs.Ytdohglcjjlmhhaa
open Go.RowKit
set_option linter.unusedVariables false
set_option linter.unusedSimpArgs false

/-- The longest line, or 0. -/
def longTo (l : List Item) (gap : Int) (ls : List (List Int)) (k : Nat) : Int := (ls.take k).foldl (fun m ln => max m (outerL l gap ln)) 0
theorem longTo_next {l : List Item} {gap : Int} {ls : List (List Int)} {k : Nat} {ln : List Int} (h : ls[k]? = some ln) : longTo l gap ls (k + 1) = max (longTo l gap ls k) (outerL l gap ln) := by
  unfold longTo
  rw [List.take_add_one, h, List.foldl_append]
  rfl
theorem lineOf_yes {ls : List (List Int)} {k : Nat} {ln : List Int} {i : Int} (hk : ls[k]? = some ln) (hi : i ∈ ln) (hno : ∀ m ∈ ls.take k, i ∉ m) : lineOf ls i = k := by
  have hlt := (List.getElem?_eq_some_iff.1 hk).1
  have : ls.findIdx? (fun l => decide (i ∈ l)) = some k := by
    rw [List.findIdx?_eq_some_iff_getElem]
    refine ⟨hlt, ?_, fun m hm => ?_⟩
    · rw [(List.getElem?_eq_some_iff.1 hk).2]
      exact decide_eq_true hi
    · intro hc
      refine hno ls[m] ?_ (of_decide_eq_true hc)
      rw [List.mem_take_iff_getElem]
      exact ⟨m, by omega, rfl⟩
  unfold lineOf
  rw [this]
theorem lineOf_no {ls : List (List Int)} {i : Int} (hno : ∀ m ∈ ls, i ∉ m) : lineOf ls i = -1 := by
  have : ls.findIdx? (fun l => decide (i ∈ l)) = none := by
    rw [List.findIdx?_eq_none_iff]
    exact fun m hm => by simpa using hno m hm
  unfold lineOf
  rw [this]
theorem no_next {ls : List (List Int)} {k : Nat} {ln : List Int} {i : Int} (hk : ls[k]? = some ln) (hi : i ∉ ln) (hno : ∀ m ∈ ls.take k, i ∉ m) : ∀ m ∈ ls.take (k + 1), i ∉ m := fun m hm => by
  rw [List.take_add_one, hk] at hm
  rcases List.mem_append.1 hm with hm | hm
  · exact hno m hm
  · have : m = ln := by simpa using hm
    rw [this]; exact hi
set_option maxRecDepth 100000 in
set_option maxHeartbeats 4000000 in
theorem lineOf_any (ps : List PLine) (i : Int) (a : Option Addr) (c : Nat) (R : Nat → Prop) (w : World) (hlen : ps.length ≤ 1048576) (hll : ∀ p ∈ ps, p.1.length ≤ 1048576) (h : LinesAt R w a ps) :
    Calls Try.prog 11 #[.slice a ps.length c, .int .i64 i] w fun e w' => e = .returned (.int .i64 (lineOf (ps.map (·.1)) i)) ∧ Mod (fun _ => False) w w' := by
  refine calls_sx Try.func11 rfl rfl (fun a h1 h2 h3 => ((Fr.nil h1 h2).arg (h3 1 _ rfl)).arg (h3 0 _ rfl)) ?_
  repeat (first | refine SX.seq ?_ | refine SXl.nil ?_ | refine SX.region ?_ | refine SQ.thenNormal ?_ | refine SX.block ?_ | (refine l_move ?_; (refine SXl.v (OpW.move rfl) rfl ?_ ?_ ?_); rfl; rfl) | (refine l_assign ?_; (refine SXl.v (OpW.assign rfl) rfl ?_ ?_ ?_); rfl; rfl) | (refine l_len ?_; (refine SXl.v (OpW.len rfl) rfl ?_ ?_ ?_); rfl; rfl))
  refine SX.loopi (fun k : Nat => k ≤ ps.length ∧ ∀ m ∈ (ps.map (·.1)).take k, i ∉ m) (fun k => ps.length - k) (fun _ => []) (fun _ => []) (fun _ => []) (fun k => [(1, .int .i64 i), (7, .slice a ps.length c), (8, .int .i64 ps.length), (9, .int .i64 k)]) 0 ⟨Nat.zero_le _, by simp⟩ ?_ (fun _ hl => hl) ?_
  · (repeat (first | exact subF_nil _ | (refine subF_cons rfl ?_) | (refine subF_consv rfl (by rfl) ?_)))
  rintro k ⟨hk, hno⟩
  by_cases hlt : k < ps.length
  · obtain ⟨p, hp⟩ : ∃ p, ps[k]? = some p := ⟨_, List.getElem?_eq_getElem hlt⟩
    obtain ⟨b1, o1, e1, hb1, hc1⟩ := h.get hp
    subst e1
    have hpm := List.mem_of_getElem? hp
    have hp1 : (ps.map (·.1))[k]? = some p.1 := by rw [List.getElem?_map, hp]; rfl
    have hH := fun (w' : World) (hm : Mod (fun _ => False) w w') => hasInt_any p.1 i p.2.1 p.2.2 R w' (by have := hll p hpm; omega) (SliceAt.flatKeep (h.2 p hpm) hm)
    by_cases hi : i ∈ p.1
    · rw [decide_eq_true hi] at hH
      rw [lineOf_yes hp1 hi hno]
      repeat (first | refine SX.seq ?_ | refine SXl.nil ?_ | refine SX.region ?_ | refine SQ.thenNormal ?_ | refine SX.block ?_ | refine SX.skip ?_ | refine SX.condT rfl ?_ | (refine l_call ?_; (refine SXl.v (OpW.call rfl (fun w hl => hH _ hl.mod)) rfl ?_ ?_ ?_); rfl; rfl) | (refine l_load ?_; (refine SXl.v (OpW.loadOld rfl (by assumption) (fun h => h)) rfl ?_ ?_ ?_); rfl; rfl) | (refine l_move ?_; (refine SXl.v (OpW.move rfl) rfl ?_ ?_ ?_); rfl; rfl) | (refine l_assign ?_; (refine SXl.v (OpW.assign rfl) rfl ?_ ?_ ?_); rfl; rfl) | (refine l_lss ?_; (refine SXl.v (OpW.lssT rfl rfl (by omega)) rfl ?_ ?_ ?_); rfl; rfl) | (refine l_indexAddr ?_; (refine SXl.v (OpW.indexAddr1 (by omega) rfl rfl) rfl ?_ ?_ ?_); rfl; rfl) | refine SX.ret ?_ | refine SQ.thenRet ?_ | refine SQ.blockRet ?_)
      refine SQ.body1 rfl rfl (fun w' hl => ⟨rfl, hl.mod⟩)
    · rw [decide_eq_false hi] at hH
      repeat (first | refine SX.seq ?_ | refine SXl.nil ?_ | refine SX.region ?_ | refine SQ.thenNormal ?_ | refine SX.block ?_ | refine SX.skip ?_ | refine SX.condT rfl ?_ | refine SX.condF rfl ?_ | (refine l_call ?_; (refine SXl.v (OpW.call rfl (fun w hl => hH _ hl.mod)) rfl ?_ ?_ ?_); rfl; rfl) | (refine l_load ?_; (refine SXl.v (OpW.loadOld rfl (by assumption) (fun h => h)) rfl ?_ ?_ ?_); rfl; rfl) | (refine l_move ?_; (refine SXl.v (OpW.move rfl) rfl ?_ ?_ ?_); rfl; rfl) | (refine l_assign ?_; (refine SXl.v (OpW.assign rfl) rfl ?_ ?_ ?_); rfl; rfl) | (refine l_add ?_; (refine SXl.v (OpW.succ rfl rfl (by omega)) rfl ?_ ?_ ?_); rfl; rfl) | (refine l_lss ?_; (refine SXl.v (OpW.lssT rfl rfl (by omega)) rfl ?_ ?_ ?_); rfl; rfl) | (refine l_indexAddr ?_; (refine SXl.v (OpW.indexAddr1 (by omega) rfl rfl) rfl ?_ ?_ ?_); rfl; rfl) | refine SQ.blockNormal ?_)
      refine SQ.roundi (k + 1) ⟨by omega, no_next hp1 hi hno⟩ (by omega) ?_ (fun _ hl => hl)
      (repeat (first | exact subF_nil _ | (refine subF_cons rfl ?_) | (refine subF_consv rfl (by rfl) ?_)))
  · obtain rfl : k = ps.length := by omega
    rw [List.take_of_length_le (by rw [List.length_map]; exact Nat.le_refl _)] at hno
    rw [lineOf_no hno]
    repeat (first | refine SX.seq ?_ | refine SXl.nil ?_ | refine SX.region ?_ | refine SQ.thenNormal ?_ | refine SX.condF rfl ?_ | (refine l_assign ?_; (refine SXl.v (OpW.assign rfl) rfl ?_ ?_ ?_); rfl; rfl) | (refine l_lss ?_; (refine SXl.v (OpW.lssF rfl rfl (by omega)) rfl ?_ ?_ ?_); rfl; rfl) | refine SX.ret ?_ | refine SX.exit ?_ | refine SQ.thenExit ?_ | refine SQ.blockExit ?_)
    refine SQ.body1 rfl rfl (fun w' hl => ⟨rfl, hl.mod⟩)
theorem long_bd {l : List Item} {gap : Int} (hf : ∀ x ∈ l, x.Fits) (hg : -2147483648 ≤ gap ∧ gap ≤ 2147483648) {ln : List Int} (hl : ln.length ≤ 1048576) : -9007199254740992 ≤ outerL l gap ln ∧ outerL l gap ln ≤ 9007199254740992 := by
  have h1 := lineIt_len l ln
  have h2 := lineIt_fits (ln := ln) hf
  unfold outerL
  exact outer_bd h2 ((hyp_near h2).mono (by decide)) (by omega) (by rw [List.length_map]; omega) hg
theorem map_at {ps : List PLine} {ls : List (List Int)} (h : ps.map (·.1) = ls) {k : Nat} {p : PLine} (hp : ps[k]? = some p) : ls[k]? = some p.1 := by
  rw [← h, List.getElem?_map, hp]; rfl
theorem OpW.maxi {P : Program} {n : Nat} {W : World} {R : Rg W} {L : List Blk} {O : List Own} {E : List Res} {f : List (Nat × Value)} {d : Option Tmp} {ty : TypeId} {pos : String} {af : Array Edge} {gd : Option (Nat × Bool)} {x y : Operand} {T T' : TypeId} {p q : Int} (hx : evO f x = some (.int .i64 p)) (hy : evO f y = some (.int .i64 q)) : OpW P n W R L O E f ⟨d, .call ⟨.builtin .max, #[x, y], #[T, T']⟩, ty, pos, af, gd⟩ (.int .i64 (max p q)) :=
  OpW.of (fun a w hf _ => by
    have e : (if q > p then q else p) = max p q := by split <;> omega
    simp [execOp, resolve, invoke, builtin, hf.eval hx, hf.eval hy, run_max_int2, e])
set_option maxRecDepth 100000 in
set_option maxHeartbeats 4000000 in
theorem slongest_any (l : List Item) (gap room : Int) (wraps : Bool) (a : Option Addr) (c : Nat) (R : Nat → Prop) (w : World) (hlen : l.length ≤ 1048570) (hf : ∀ x ∈ l, x.Fits) (hg : -2147483648 ≤ gap ∧ gap ≤ 2147483648) (h : ItemSlice R w a l) :
    Calls Try.prog 20 #[.slice a l.length c, .int .i64 gap, .int .i64 room, .bool wraps] w fun e w' => e = .returned (.int .i64 (longTo l gap (linesTo l gap room (oneLine l room wraps) l.length) (linesTo l gap room (oneLine l room wraps) l.length).length)) ∧ Mod (fun _ => False) w w' := by
  refine calls_sx Try.func20 rfl rfl (fun a h1 h2 h3 => ((((Fr.nil h1 h2).arg (h3 3 _ rfl)).arg (h3 2 _ rfl)).arg (h3 1 _ rfl)).arg (h3 0 _ rfl)) ?_
  have hL := fun (w' : World) (hm : Mod (fun _ => False) w w') => slinesOf_any l gap room wraps a c R w' hlen hf hg (h.flatKeep hm)
  have hm := fun (ln : List Int) (hx : ln ∈ linesTo l gap room (oneLine l room wraps) l.length) => linesTo_mem_len hx
  have hn := linesTo_len (list := l) (gap := gap) (room := room) (one := oneLine l room wraps) l.length
  generalize linesTo l gap room (oneLine l room wraps) l.length = ls at *
  repeat (first | refine SX.seq ?_ | refine SXl.nil ?_ | refine SX.region ?_ | refine SQ.thenNormal ?_ | (refine l_move ?_; (refine SXl.v (OpW.move rfl) rfl ?_ ?_ ?_); rfl; rfl) | (refine l_assign ?_; (refine SXl.v (OpW.assign rfl) rfl ?_ ?_ ?_); rfl; rfl))
  refine l_call ?_
  refine SXl.callO rfl rfl rfl (fun w' hl => hL w' hl.mod) (fun q hq => ?_)
  obtain ⟨ps, qa, qc⟩ := q
  simp only at hq
  simp only [LinesQ.v, LinesQ.os, List.append_nil]
  have hpl : ps.length = ls.length := by rw [← hq, List.length_map]
  repeat (first | refine SX.seq ?_ | refine SXl.nil ?_ | refine SX.region ?_ | refine SQ.thenNormal ?_ | refine SX.block ?_ | (refine l_assign ?_; (refine SXl.v (OpW.assign rfl) rfl ?_ ?_ ?_); rfl; rfl))
  refine SX.loopi (fun k : Nat => k ≤ ps.length ∧ 0 ≤ longTo l gap ls k ∧ longTo l gap ls k ≤ 9007199254740992) (fun k => ps.length - k) (fun _ => []) (fun _ => rowsO ps qa qc :: ps.map lineO) (fun _ => []) (fun k => [(0, .slice a l.length c), (1, .int .i64 gap), (9, .int .i64 (longTo l gap ls k)), (10, .slice qa ps.length qc), (11, .int .i64 k)]) 0 ⟨Nat.zero_le _, Int.le_refl _, (by decide : (0 : Int) ≤ 9007199254740992)⟩ ?_ (fun _ hl => hl) ?_
  · (repeat (first | exact subF_nil _ | (refine subF_cons rfl ?_) | (refine subF_consv rfl (by rfl) ?_)))
  rintro k ⟨hk, hT0, hT⟩
  by_cases hlt : k < ps.length
  rotate_left
  · obtain rfl : k = ps.length := by omega
    rw [hpl] at *
    repeat (first | refine SX.seq ?_ | refine SXl.nil ?_ | refine SX.region ?_ | refine SQ.thenNormal ?_ | refine SX.condF rfl ?_ | (refine l_move ?_; (refine SXl.v (OpW.move rfl) rfl ?_ ?_ ?_); rfl; rfl) | (refine l_assign ?_; (refine SXl.v (OpW.assign rfl) rfl ?_ ?_ ?_); rfl; rfl) | (refine l_len ?_; (refine SXl.v (OpW.len rfl) rfl ?_ ?_ ?_); rfl; rfl) | (refine l_lss ?_; (refine SXl.v (OpW.lssF rfl rfl (by omega)) rfl ?_ ?_ ?_); rfl; rfl) | refine SX.ret ?_ | refine SX.exit ?_ | refine SQ.thenExit ?_ | refine SQ.blockExit ?_)
    refine SQ.body1 rfl rfl (fun w' hl => ⟨rfl, hl.mod⟩)
  obtain ⟨p, hp⟩ : ∃ p, ps[k]? = some p := ⟨_, List.getElem?_eq_getElem hlt⟩
  have hpm := List.mem_of_getElem? hp
  have hp1 := map_at hq hp
  have hpn := hm p.1 (List.mem_of_getElem? hp1)
  have hS := longTo_next (l := l) (gap := gap) hp1
  have hB := long_bd hf hg (show p.1.length ≤ 1048576 by omega)
  refine SX.knowI (fun w hl => rows_addr (hl.owns) (.head _) (by omega)) (fun ⟨gq, hgq⟩ => ?_)
  subst hgq
  have hv : (ps.map lineV)[0 + k]? = some (lineV p) := by rw [Nat.zero_add, List.getElem?_map, hp]; rfl
  have hU := fun (S : Nat → Prop) (w' : World) (hm : Mod (fun _ => False) w w') => souter14_any l p.1 gap a p.2.1 c p.2.2 R S w' (by omega) (by omega) hf hg (h.flatKeep hm)
  generalize outerL l gap p.1 = V at *
  generalize longTo l gap ls k = T at *
  by_cases hc : T < V
  · repeat (first | refine SX.seq ?_ | refine SXl.nil ?_ | refine SX.region ?_ | refine SQ.thenNormal ?_ | refine SX.block ?_ | refine SX.skip ?_ | refine SX.condT rfl ?_ | (refine l_load ?_; (refine SXl.v (OpW.loadOwn (xs := ps.map lineV) 0 rfl rfl hv) rfl ?_ ?_ ?_); rfl; rfl) | (refine l_call ?_; (refine SXl.v (OpW.call rfl (fun w hl => hU _ _ hl.mod (lineO_slice hl.owns (List.mem_cons_of_mem _ (List.mem_map.2 ⟨p, hpm, rfl⟩))))) rfl ?_ ?_ ?_); rfl; rfl) | (refine l_move ?_; (refine SXl.v (OpW.move rfl) rfl ?_ ?_ ?_); rfl; rfl) | (refine l_assign ?_; (refine SXl.v (OpW.assign rfl) rfl ?_ ?_ ?_); rfl; rfl) | (refine l_len ?_; (refine SXl.v (OpW.len rfl) rfl ?_ ?_ ?_); rfl; rfl) | (refine l_add ?_; (refine SXl.v (OpW.succ rfl rfl (by omega)) rfl ?_ ?_ ?_); rfl; rfl) | (refine l_gtr ?_; (refine SXl.v (OpW.gtrT rfl rfl (by omega)) rfl ?_ ?_ ?_); rfl; rfl) | (refine l_lss ?_; (refine SXl.v (OpW.lssT rfl rfl (by omega)) rfl ?_ ?_ ?_); rfl; rfl) | (refine l_indexAddr ?_; (refine SXl.v (OpW.indexAddr1 (by omega) rfl rfl) rfl ?_ ?_ ?_); rfl; rfl) | refine SQ.blockNormal ?_)
    refine SQ.roundi (k + 1) ⟨by omega, by omega, by omega⟩ (by omega) ?_ (fun _ hl => hl)
    (repeat (first | exact subF_nil _ | (refine subF_cons rfl ?_) | (refine subF_consv rfl (by rw [hS]; congr 1; omega) ?_)))
  · repeat (first | refine SX.seq ?_ | refine SXl.nil ?_ | refine SX.region ?_ | refine SQ.thenNormal ?_ | refine SX.block ?_ | refine SX.skip ?_ | refine SX.condT rfl ?_ | refine SX.condF rfl ?_ | (refine l_load ?_; (refine SXl.v (OpW.loadOwn (xs := ps.map lineV) 0 rfl rfl hv) rfl ?_ ?_ ?_); rfl; rfl) | (refine l_call ?_; (refine SXl.v (OpW.call rfl (fun w hl => hU _ _ hl.mod (lineO_slice hl.owns (List.mem_cons_of_mem _ (List.mem_map.2 ⟨p, hpm, rfl⟩))))) rfl ?_ ?_ ?_); rfl; rfl) | (refine l_move ?_; (refine SXl.v (OpW.move rfl) rfl ?_ ?_ ?_); rfl; rfl) | (refine l_assign ?_; (refine SXl.v (OpW.assign rfl) rfl ?_ ?_ ?_); rfl; rfl) | (refine l_len ?_; (refine SXl.v (OpW.len rfl) rfl ?_ ?_ ?_); rfl; rfl) | (refine l_add ?_; (refine SXl.v (OpW.succ rfl rfl (by omega)) rfl ?_ ?_ ?_); rfl; rfl) | (refine l_gtr ?_; (refine SXl.v (OpW.gtrF rfl rfl (by omega)) rfl ?_ ?_ ?_); rfl; rfl) | (refine l_lss ?_; (refine SXl.v (OpW.lssT rfl rfl (by omega)) rfl ?_ ?_ ?_); rfl; rfl) | (refine l_indexAddr ?_; (refine SXl.v (OpW.indexAddr1 (by omega) rfl rfl) rfl ?_ ?_ ?_); rfl; rfl) | refine SQ.blockNormal ?_)
    refine SQ.roundi (k + 1) ⟨by omega, by omega, by omega⟩ (by omega) ?_ (fun _ hl => hl)
    (repeat (first | exact subF_nil _ | (refine subF_cons rfl ?_) | (refine subF_consv rfl (by rw [hS]; congr 1; omega) ?_)))
set_option maxRecDepth 100000 in
set_option maxHeartbeats 4000000 in
theorem longest_any (l : List Item) (gap room : Int) (wraps : Bool) (a : Option Addr) (c : Nat) (R : Nat → Prop) (w : World) (hlen : l.length ≤ 1048570) (hf : ∀ x ∈ l, x.Fits) (hg : -2147483648 ≤ gap ∧ gap ≤ 2147483648) (h : ItemSlice R w a l) :
    Calls Try.prog 19 #[.slice a l.length c, .int .i64 gap, .int .i64 room, .bool wraps] w fun e w' => e = .returned (.int .i64 (longTo l gap (linesTo l gap room (oneLine l room wraps) l.length) (linesTo l gap room (oneLine l room wraps) l.length).length)) ∧ Mod (fun _ => False) w w' := by
  refine calls_sx Try.func19 rfl rfl (fun a h1 h2 h3 => ((((Fr.nil h1 h2).arg (h3 3 _ rfl)).arg (h3 2 _ rfl)).arg (h3 1 _ rfl)).arg (h3 0 _ rfl)) ?_
  have hL := fun (w' : World) (hm : Mod (fun _ => False) w w') => linesOf_any l gap room wraps a c R w' hlen hf hg (h.flatKeep hm)
  have hm := fun (ln : List Int) (hx : ln ∈ linesTo l gap room (oneLine l room wraps) l.length) => linesTo_mem_len hx
  have hn := linesTo_len (list := l) (gap := gap) (room := room) (one := oneLine l room wraps) l.length
  generalize linesTo l gap room (oneLine l room wraps) l.length = ls at *
  repeat (first | refine SX.seq ?_ | refine SXl.nil ?_ | refine SX.region ?_ | refine SQ.thenNormal ?_ | (refine l_move ?_; (refine SXl.v (OpW.move rfl) rfl ?_ ?_ ?_); rfl; rfl) | (refine l_assign ?_; (refine SXl.v (OpW.assign rfl) rfl ?_ ?_ ?_); rfl; rfl))
  refine l_call ?_
  refine SXl.callO rfl rfl rfl (fun w' hl => hL w' hl.mod) (fun q hq => ?_)
  obtain ⟨ps, qa, qc⟩ := q
  simp only at hq
  simp only [LinesQ.v, LinesQ.os, List.append_nil]
  have hpl : ps.length = ls.length := by rw [← hq, List.length_map]
  repeat (first | refine SXl.nil ?_ | refine SQ.thenNormal ?_ | refine SX.block ?_ | (refine l_move ?_; (refine SXl.v (OpW.move rfl) rfl ?_ ?_ ?_); rfl; rfl) | (refine l_len ?_; (refine SXl.v (OpW.len rfl) rfl ?_ ?_ ?_); rfl; rfl))
  refine SX.loopi (fun k : Nat => k ≤ ps.length ∧ 0 ≤ longTo l gap ls k ∧ longTo l gap ls k ≤ 9007199254740992) (fun k => ps.length - k) (fun _ => []) (fun _ => rowsO ps qa qc :: ps.map lineO) (fun _ => []) (fun k => [(0, .slice a l.length c), (1, .int .i64 gap), (9, .int .i64 (longTo l gap ls k)), (17, .slice qa ps.length qc), (18, .int .i64 ps.length), (19, .int .i64 k)]) 0 ⟨Nat.zero_le _, Int.le_refl _, (by decide : (0 : Int) ≤ 9007199254740992)⟩ ?_ (fun _ hl => hl) ?_
  · (repeat (first | exact subF_nil _ | (refine subF_cons rfl ?_) | (refine subF_consv rfl (by rfl) ?_)))
  rintro k ⟨hk, hT0, hT⟩
  by_cases hlt : k < ps.length
  rotate_left
  · obtain rfl : k = ps.length := by omega
    rw [hpl] at *
    repeat (first | refine SX.seq ?_ | refine SXl.nil ?_ | refine SX.region ?_ | refine SQ.thenNormal ?_ | refine SX.condF rfl ?_ | (refine l_move ?_; (refine SXl.v (OpW.move rfl) rfl ?_ ?_ ?_); rfl; rfl) | (refine l_assign ?_; (refine SXl.v (OpW.assign rfl) rfl ?_ ?_ ?_); rfl; rfl) | (refine l_lss ?_; (refine SXl.v (OpW.lssF rfl rfl (by omega)) rfl ?_ ?_ ?_); rfl; rfl) | refine SX.ret ?_ | refine SX.exit ?_ | refine SQ.thenExit ?_ | refine SQ.blockExit ?_)
    refine SQ.body1 rfl rfl (fun w' hl => ⟨rfl, hl.mod⟩)
  obtain ⟨p, hp⟩ : ∃ p, ps[k]? = some p := ⟨_, List.getElem?_eq_getElem hlt⟩
  have hpm := List.mem_of_getElem? hp
  have hp1 := map_at hq hp
  have hpn := hm p.1 (List.mem_of_getElem? hp1)
  have hS := longTo_next (l := l) (gap := gap) hp1
  have hB := long_bd hf hg (show p.1.length ≤ 1048576 by omega)
  refine SX.knowI (fun w hl => rows_addr (hl.owns) (.head _) (by omega)) (fun ⟨gq, hgq⟩ => ?_)
  subst hgq
  have hv : (ps.map lineV)[0 + k]? = some (lineV p) := by rw [Nat.zero_add, List.getElem?_map, hp]; rfl
  have hll := lineIt_len l p.1
  have hlf := lineIt_fits (ln := p.1) hf
  have hI := fun (S : Nat → Prop) (w' : World) (hm : Mod (fun _ => False) w w') => lineItems_any l p.1 a p.2.1 c p.2.2 R S w' (by omega) (by omega) (h.flatKeep hm)
  have hout : outerL l gap p.1 = outerOf (lineIt l p.1) ((lineIt l p.1).map hyp) gap := rfl
  generalize outerL l gap p.1 = V at *
  generalize longTo l gap ls k = T at *
  generalize lineIt l p.1 = li at *
  repeat (first | refine SX.seq ?_ | refine SXl.nil ?_ | refine SX.region ?_ | refine SQ.thenNormal ?_ | refine SX.block ?_ | refine SX.skip ?_ | refine SX.condT rfl ?_ | (refine l_load ?_; (refine SXl.v (OpW.loadOwn (xs := ps.map lineV) 0 rfl rfl hv) rfl ?_ ?_ ?_); rfl; rfl) | (refine l_move ?_; (refine SXl.v (OpW.move rfl) rfl ?_ ?_ ?_); rfl; rfl) | (refine l_assign ?_; (refine SXl.v (OpW.assign rfl) rfl ?_ ?_ ?_); rfl; rfl) | (refine l_lss ?_; (refine SXl.v (OpW.lssT rfl rfl (by omega)) rfl ?_ ?_ ?_); rfl; rfl) | (refine l_indexAddr ?_; (refine SXl.v (OpW.indexAddr1 (by omega) rfl rfl) rfl ?_ ?_ ?_); rfl; rfl))
  refine l_call ?_
  refine SXl.calln1 (v := fun q => .slice q.a li.length q.c) (F1 := ownRes Item.cells 36 9 li) rfl rfl rfl (fun w' hl => (hI _ w' hl.mod (lineO_slice hl.owns (List.mem_cons_of_mem _ (List.mem_map.2 ⟨p, hpm, rfl⟩)))).mono fun _ _ h => new_own h) (fun q1 => ?_)
  repeat (first | refine SXl.nil ?_ | refine SX.region ?_ | refine SQ.thenNormal ?_ | (refine l_move ?_; (refine SXl.v (OpW.move rfl) rfl ?_ ?_ ?_); rfl; rfl) | (refine l_assign ?_; (refine SXl.v (OpW.assign rfl) rfl ?_ ?_ ?_); rfl; rfl))
  refine l_call ?_
  refine SXl.calln1 (v := fun q => .slice q.a (li.map hyp).length q.c) (F1 := ownRes icell 3 1 (li.map hyp)) rfl rfl rfl (fun w hl => (hypsOf_any li q1.a q1.c _ w (by omega) (itemRes_in hl (.head _))).mono fun _ _ h => new_own h) (fun q2 => ?_)
  have hU := fun (w' : World) => outerOf_any li (li.map hyp) gap q1.a q2.a q1.c q2.c (fun k => q1.lo ≤ k) (fun k => q2.lo ≤ k) w' (by omega) (by rw [List.length_map]; omega) hlf ((hyp_near hlf).mono (by decide)) hg
  rw [← hout] at hU
  clear hout
  repeat (first | refine SXl.nil ?_ | refine SX.region ?_ | refine SQ.thenNormal ?_ | (refine l_call ?_; (refine SXl.v (OpW.call rfl (fun w hl => hU _ (itemRes_in hl (.tail _ (.head _))) (intRes_in hl (.head _)))) rfl ?_ ?_ ?_); rfl; rfl) | (refine l_move ?_; (refine SXl.v (OpW.move rfl) rfl ?_ ?_ ?_); rfl; rfl) | (refine l_assign ?_; (refine SXl.v (OpW.assign rfl) rfl ?_ ?_ ?_); rfl; rfl) | (refine l_add ?_; (refine SXl.v (OpW.succ rfl rfl (by omega)) rfl ?_ ?_ ?_); rfl; rfl) | (refine SXl.v (OpW.maxi rfl rfl) rfl ?_ ?_ ?_; rfl; rfl) | refine SQ.blockNormal ?_)
  refine SQ.roundi (k + 1) ⟨by omega, by omega, by omega⟩ (by omega) ?_ (fun _ hl => hl.dropE.dropE)
  (repeat (first | exact subF_nil _ | (refine subF_cons rfl ?_) | (refine subF_consv rfl (by rw [hS]) ?_)))
end Go.Proofs.Ytdohglcjjlmhhaa
namespace Go.Proofs.Ytdohglcjjlmhhaa
open Go.RowKit

end Go.Proofs.Ytdohglcjjlmhhaa
namespace Go.Proofs.Ytdohglcjjlmhhaa
open Go.RowKit

structure Sides where
  left : Val
  top : Val
  right : Val
  bottom : Val
  start : Val
  stop : Val
  deriving DecidableEq, Inhabited
def Sides.cells (x : Sides) : List Value := [.int .i64 x.left.kind, .int .i64 x.left.n, .int .i64 x.top.kind, .int .i64 x.top.n, .int .i64 x.right.kind, .int .i64 x.right.n, .int .i64 x.bottom.kind, .int .i64 x.bottom.n, .int .i64 x.start.kind, .int .i64 x.start.n, .int .i64 x.stop.kind, .int .i64 x.stop.n]

structure Edges where
  left : Int
  top : Int
  right : Int
  bottom : Int
  deriving DecidableEq, Inhabited
def Edges.cells (x : Edges) : List Value := [.int .i64 x.left, .int .i64 x.top, .int .i64 x.right, .int .i64 x.bottom]

structure Style where
  dir : Int
  wrap : Int
  justify : Int
  items : Int
  self : Int
  content : Int
  apart : Bool
  hidden : Bool
  order : Int
  grow : Int
  shrink : Int
  basis : Val
  width : Val
  height : Val
  minWidth : Val
  minHeight : Val
  maxWidth : Val
  maxHeight : Val
  ratio : Int
  margin : Sides
  inset : Sides
  pad : Edges
  border : Edges
  rowGap : Int
  colGap : Int
  deriving DecidableEq, Inhabited
def Style.cells (x : Style) : List Value := [.int .i64 x.dir, .int .i64 x.wrap, .int .i64 x.justify, .int .i64 x.items, .int .i64 x.self, .int .i64 x.content, .bool x.apart, .bool x.hidden, .int .i64 x.order, .int .i64 x.grow, .int .i64 x.shrink, .int .i64 x.basis.kind, .int .i64 x.basis.n, .int .i64 x.width.kind, .int .i64 x.width.n, .int .i64 x.height.kind, .int .i64 x.height.n, .int .i64 x.minWidth.kind, .int .i64 x.minWidth.n, .int .i64 x.minHeight.kind, .int .i64 x.minHeight.n, .int .i64 x.maxWidth.kind, .int .i64 x.maxWidth.n, .int .i64 x.maxHeight.kind, .int .i64 x.maxHeight.n, .int .i64 x.ratio, .int .i64 x.margin.left.kind, .int .i64 x.margin.left.n, .int .i64 x.margin.top.kind, .int .i64 x.margin.top.n, .int .i64 x.margin.right.kind, .int .i64 x.margin.right.n, .int .i64 x.margin.bottom.kind, .int .i64 x.margin.bottom.n, .int .i64 x.margin.start.kind, .int .i64 x.margin.start.n, .int .i64 x.margin.stop.kind, .int .i64 x.margin.stop.n, .int .i64 x.inset.left.kind, .int .i64 x.inset.left.n, .int .i64 x.inset.top.kind, .int .i64 x.inset.top.n, .int .i64 x.inset.right.kind, .int .i64 x.inset.right.n, .int .i64 x.inset.bottom.kind, .int .i64 x.inset.bottom.n, .int .i64 x.inset.start.kind, .int .i64 x.inset.start.n, .int .i64 x.inset.stop.kind, .int .i64 x.inset.stop.n, .int .i64 x.pad.left, .int .i64 x.pad.top, .int .i64 x.pad.right, .int .i64 x.pad.bottom, .int .i64 x.border.left, .int .i64 x.border.top, .int .i64 x.border.right, .int .i64 x.border.bottom, .int .i64 x.rowGap, .int .i64 x.colGap]

end Go.Proofs.Ytdohglcjjlmhhaa
namespace Go.Proofs.Ytdohglcjjlmhhaa
open Go.RowKit
set_option linter.unusedVariables false
set_option linter.unusedSimpArgs false

/-- A cell that holds an int holds one of 64 bits. -/
def CellOk (v : Value) : Prop := ∀ n : Int, v = .int .i64 n → I64 n
def AllOk (c : List Value) : Prop := ∀ v ∈ c, CellOk v
theorem AllOk.set {c : List Value} (h : AllOk c) {v : Value} (hv : CellOk v) (j : Nat) : AllOk (c.set j v) := fun u hu => by
  rcases List.mem_or_eq_of_mem_set hu with hu | rfl
  · exact h u hu
  · exact hv
theorem AllOk.over : ∀ {r c : List Value} {j : Nat}, AllOk c → AllOk r → AllOk (over c j r)
  | [], _, _, h, _ => h
  | v :: r, c, j, h, hr => AllOk.over (r := r) (h.set (hr v List.mem_cons_self) j) (fun u hu => hr u (List.mem_cons_of_mem _ hu))
theorem SXl.drop1 {P : Program} {n : Nat} {W : World} {R : Rg W} {L : List Blk} {O : List Own} {E : List Res} {f : List (Nat × Value)} {Q : Exit → Go.Act → World → Prop} {ops : Array Oper} {rest : List Oper} {b : Blk} (h : SXl P n W R ops L O E f rest Q) : SXl P n W R ops (b :: L) O E f rest Q := ⟨fun a w hf hl => h.run a w hf hl.drop1⟩

theorem below_d (B gc : Nat) (w : World) (hc : Cur B 116 w gc) (n : Int) (h0 : 0 < n) (h1 : n ≤ 1000000000) : Calls Try.prog 57 #[.pointer (some ⟨gc, 0, none⟩), .int .i64 n] w (DrewV 116 B gc w (fun x : Int => .int .i64 x) (fun x => 0 ≤ x ∧ x < n)) :=
  (l01Below_any B gc w hc n h1).mono fun e w' ⟨x, hx, he, hc, hm⟩ => ⟨x, he, by omega, hm, hc⟩
theorem once_d (B gc : Nat) (w : World) (hc : Cur B 116 w gc) (n : Int) (h1 : n ≤ 1000000000) : Calls Try.prog 89 #[.pointer (some ⟨gc, 0, none⟩), .int .i64 n] w (DrewV 116 B gc w (fun b : Bool => .bool b) (fun _ => True)) :=
  (l01Once_any B gc w hc n h1).mono fun e w' ⟨b, he, hc, hm⟩ => ⟨b, he, trivial, hm, hc⟩
theorem pick_d {W : World} {B gc b : Nat} {hg : gc < W.heap.size} {hB : B ≤ gc} {L : List Blk} {O : List Own} {E : List Res} {w : World} {l : List Int} (hl : Loc W (curRg 116 B gc W hg hB) (⟨b, l.map (.int .i64), 3⟩ :: L) O E w) (h0 : 0 < l.length) (h1 : l.length ≤ 1000) :
    Calls Try.prog 65 #[.pointer (some ⟨gc, 0, none⟩), .slice (some ⟨b, 0, none⟩) l.length l.length] w (DrewV 116 B gc w (fun x : Int => .int .i64 x) (fun x => x ∈ l)) := by
  obtain ⟨hb, hcell⟩ := hl.blk _ (.head _)
  have hne : b ≠ gc := by
    rcases hb with h | h
    · exact h.elim
    · simp only at h; omega
  refine (l01PickInt_any B gc w hl.inv b l.length l (fun i hi => ?_) h0 h1 hne).mono fun e w' h => Drew.v h
  have := blk_cell (j := i) (v := .int .i64 (l.getD i 0)) hcell (by simp [List.getElem?_eq_getElem hi, List.getD, hi])
  rw [Nat.zero_add]
  exact this



end Go.Proofs.Ytdohglcjjlmhhaa
namespace Go.Proofs.Ytdohglcjjlmhhaa
open Go.RowKit

/-- A new cursor over bytes that came in. -/
theorem l01New_loc {W : World} {L : List Blk} {O : List Own} {E : List Res} {w : World} {a : Option Addr} {len cap : Nat} (hlen : len ≤ 1048576) (hy : Bytes W.heap.size W a len) (hl : Loc W (Rg.none W) L O E w) : Calls Try.prog 48 #[.slice a len cap] w (NewCur W.heap.size 116 w) :=
  l01New_any W.heap.size w a len cap hl.mod.size hlen (hy.same fun k hk => hl.mod.block k hk (fun f => f))
end Go.Proofs.Ytdohglcjjlmhhaa
namespace Go.Proofs.Ytdohglcjjlmhhaa
open Go.RowKit
set_option linter.unusedVariables false
set_option linter.unusedSimpArgs false

section
variable {P : Program} {n : Nat} {W : World} {R : Rg W} {L : List Blk} {O : List Own} {E : List Res} {f : List (Nat × Value)} {fn : Func} {R' : Ending → World → Prop} {t1 t2 t3 t4 t5 : Tmp} {v1 v2 v3 v4 v5 : Value}
theorem SQ.bodyT4 (hr : fn.results = #[.tmp t1, .tmp t2, .tmp t3, .tmp t4]) (h1 : look f t1 = some v1) (h2 : look f t2 = some v2) (h3 : look f t3 = some v3) (h4 : look f t4 = some v4) (h : ∀ w, Loc W R L O E w → R' (.returned (.tuple #[v1, v2, v3, v4])) w) : SQ n W R L O E f .ret (bodyPost P fn R') :=
  ⟨fun a w hf hl => ⟨hf.defers, .tuple #[v1, v2, v3, v4], by simp [results, hr, Array.getD_eq_getD_getElem?, hf.at_ _ _ h1, hf.at_ _ _ h2, hf.at_ _ _ h3, hf.at_ _ _ h4], h w hl⟩⟩
end
theorem item_fits (y v : Int) (hy : -2097152 ≤ y ∧ y ≤ 2097152) (hv : -2097152 ≤ v ∧ v ≤ 2097152) : (⟨y, v, -1, 0, 0, 0, 0, false, false⟩ : Item).Fits :=
  have h0 : (-2097152 : Int) ≤ 0 ∧ (0 : Int) ≤ 2097152 := by decide
  have h1 : (-2097152 : Int) ≤ -1 ∧ (-1 : Int) ≤ 2097152 := by decide
  ⟨hy, hv, h1, h0, h0, h0, h0⟩
set_option maxRecDepth 100000 in
set_option maxHeartbeats 8000000 in
theorem l13Item_d (B gc : Nat) (w : World) (hc : Cur B 116 w gc) : Calls Try.prog 90 #[.pointer (some ⟨gc, 0, none⟩)] w (DrewV 116 B gc w (fun x : Item => .agg x.cells.toArray) Item.Fits) := by
  refine calls_draw (as_ := [.pointer (some ⟨gc, 0, none⟩)]) hc Try.func90 rfl rfl (fun a h1 h2 h3 => ((Fr.nil h1 h2).arg (h3 0 _ rfl))) ?_
  repeat (first | refine SX.seq ?_ | refine SXl.nil ?_ | refine SX.region ?_ | refine SQ.thenNormal ?_ | (refine l_move ?_; (refine SXl.v (OpW.move rfl) rfl ?_ ?_ ?_); rfl; rfl) | (refine l_alloc ?_; refine SXl.alloc ?_ ?_ (fun g => ?_); rfl; rfl))
  revert g; intro g2
  refine l_call ?_
  refine SXl.draw (ξ := Int) (v := fun x : Int => .int .i64 x) rfl rfl rfl (fun x => 0 ≤ x ∧ x < 3000) (fun w hl => below_d B gc w hl.inv 3000 (by decide) (by decide)) (fun z hz => ?_)
  skip
  refine l_buildSlice ?_
  refine SXl.lit (cells := ([0, 64, 100, 640, 33, 1000, z] : List Int).map (.int .i64)) (z := .int .i64 0) ?_ ?_ rfl (by decide) (by kernel_rfl) rfl (fun gl => ?_)
  rfl; rfl
  skip
  refine l_call ?_
  refine SXl.draw (ξ := Int) (v := fun x => .int .i64 x) rfl rfl rfl (fun x => x ∈ ([0, 64, 100, 640, 33, 1000, z] : List Int)) (fun w hl => pick_d (l := ([0, 64, 100, 640, 33, 1000, z] : List Int)) hl (by simp) (by simp)) (fun y hy => ?_)
  refine SXl.drop1 ?_
  have hy2 : 0 ≤ y ∧ y ≤ 3000 := by simp at hy; omega
  repeat (first | refine SX.seq ?_ | refine SXl.nil ?_ | refine SX.region ?_ | refine SQ.thenNormal ?_ | (refine l_build ?_; (refine SXl.v ((OpW.build (vals := [(0, .int .i64 y), (2, .int .i64 (-1))]) (cells := [.int .i64 y, .int .i64 0, .int .i64 (-1), .int .i64 0, .int .i64 0, .int .i64 0, .int .i64 0, .bool false, .bool false]) rfl (by kernel_rfl))) rfl ?_ ?_ ?_); rfl; rfl) | (refine l_move ?_; (refine SXl.v (OpW.move rfl) rfl ?_ ?_ ?_); rfl; rfl) | (refine l_alloc ?_; refine SXl.alloc ?_ ?_ (fun g => ?_); rfl; rfl) | (refine l_store ?_; first | (refine SXl.store 0 ?_ rfl rfl rfl rfl rfl rfl ?_; rfl; simp only [List.set_cons_zero, List.set_cons_succ]) | (refine SXl.store 1 ?_ rfl rfl rfl rfl rfl rfl ?_; rfl; simp only [List.set_cons_zero, List.set_cons_succ]) | (refine SXl.store 2 ?_ rfl rfl rfl rfl rfl rfl ?_; rfl; simp only [List.set_cons_zero, List.set_cons_succ]) | (refine SXl.storeAll 0 ?_ rfl rfl rfl rfl rfl rfl rfl ?_; rfl; simp only [List.set_cons_zero, List.set_cons_succ]) | (refine SXl.storeAll 1 ?_ rfl rfl rfl rfl rfl rfl rfl ?_; rfl; simp only [List.set_cons_zero, List.set_cons_succ]) | (refine SXl.storeAll 2 ?_ rfl rfl rfl rfl rfl rfl rfl ?_; rfl; simp only [List.set_cons_zero, List.set_cons_succ]) | (refine SXl.storeRow 0 ?_ rfl rfl rfl rfl rfl rfl rfl ?_; rfl; simp only [over, List.set_cons_zero, List.set_cons_succ]) | (refine SXl.storeRow 1 ?_ rfl rfl rfl rfl rfl rfl rfl ?_; rfl; simp only [over, List.set_cons_zero, List.set_cons_succ]) | (refine SXl.storeRow 2 ?_ rfl rfl rfl rfl rfl rfl rfl ?_; rfl; simp only [over, List.set_cons_zero, List.set_cons_succ])))
  revert g; intro g3
  refine l_call ?_
  refine SXl.draw (ξ := Bool) (v := fun b => .bool b) rfl rfl rfl (fun _ => True) (fun w hl => once_d B gc w hl.inv 3 (by decide)) (fun b1 _ => ?_)
  repeat (first | refine SXl.nil ?_ | refine SQ.thenNormal ?_)
  refine SX.join (ι := Item) Item.Fits (fun y => [⟨g3, y.cells, 36⟩, ⟨g2, [.int .i64 0, .int .i64 0, .int .i64 0, .int .i64 0, .int .i64 0, .int .i64 0, .int .i64 0, .bool false, .bool false], 36⟩]) (fun _ => []) (fun _ => []) (fun _ => [(0, .pointer (some ⟨gc, 0, none⟩)), (2, .pointer (some ⟨g2, 0, none⟩)), (3, .pointer (some ⟨g3, 0, none⟩))]) ?_ ?_
  · cases b1
    · repeat (first | refine SX.skip ?_ | refine SX.condF rfl ?_)
      refine SQ.join ⟨y, 0, -1, 0, 0, 0, 0, false, false⟩ (item_fits y 0 (by omega) (by omega)) ?_ (fun _ hl => hl)
      (repeat (first | exact subF_nil _ | (refine subF_cons rfl ?_) | (refine subF_consv rfl (by rfl) ?_)))
    · repeat (first | refine SX.region ?_ | refine SX.condT rfl ?_ | (refine l_move ?_; (refine SXl.v (OpW.move rfl) rfl ?_ ?_ ?_); rfl; rfl))
      refine l_buildSlice ?_
      refine SXl.lit (cells := ([0, 64, 200, 700] : List Int).map (.int .i64)) (z := .int .i64 0) ?_ ?_ rfl (by decide) (by kernel_rfl) rfl (fun gl => ?_)
      rfl; rfl
      skip
      refine l_call ?_
      refine SXl.draw (ξ := Int) (v := fun x => .int .i64 x) rfl rfl rfl (fun x => x ∈ ([0, 64, 200, 700] : List Int)) (fun w hl => pick_d (l := ([0, 64, 200, 700] : List Int)) hl (by simp) (by simp)) (fun v hv => ?_)
      refine SXl.drop1 ?_
      have hv2 : 0 ≤ v ∧ v ≤ 700 := by simp at hv; omega
      repeat (first | refine SXl.nil ?_ | (refine l_fieldAddr ?_; (refine SXl.v (OpW.fieldAddr rfl) rfl ?_ ?_ ?_); rfl; rfl) | (refine l_store ?_; first | (refine SXl.store 0 ?_ rfl rfl rfl rfl rfl rfl ?_; rfl; simp only [List.set_cons_zero, List.set_cons_succ]) | (refine SXl.store 1 ?_ rfl rfl rfl rfl rfl rfl ?_; rfl; simp only [List.set_cons_zero, List.set_cons_succ]) | (refine SXl.store 2 ?_ rfl rfl rfl rfl rfl rfl ?_; rfl; simp only [List.set_cons_zero, List.set_cons_succ]) | (refine SXl.storeAll 0 ?_ rfl rfl rfl rfl rfl rfl rfl ?_; rfl; simp only [List.set_cons_zero, List.set_cons_succ]) | (refine SXl.storeAll 1 ?_ rfl rfl rfl rfl rfl rfl rfl ?_; rfl; simp only [List.set_cons_zero, List.set_cons_succ]) | (refine SXl.storeAll 2 ?_ rfl rfl rfl rfl rfl rfl rfl ?_; rfl; simp only [List.set_cons_zero, List.set_cons_succ]) | (refine SXl.storeRow 0 ?_ rfl rfl rfl rfl rfl rfl rfl ?_; rfl; simp only [over, List.set_cons_zero, List.set_cons_succ]) | (refine SXl.storeRow 1 ?_ rfl rfl rfl rfl rfl rfl rfl ?_; rfl; simp only [over, List.set_cons_zero, List.set_cons_succ]) | (refine SXl.storeRow 2 ?_ rfl rfl rfl rfl rfl rfl rfl ?_; rfl; simp only [over, List.set_cons_zero, List.set_cons_succ])))
      refine SQ.join ⟨y, v, -1, 0, 0, 0, 0, false, false⟩ (item_fits y v (by omega) (by omega)) ?_ (fun _ hl => hl)
      (repeat (first | exact subF_nil _ | (refine subF_cons rfl ?_) | (refine subF_consv rfl (by rfl) ?_)))
  clear hy hy2
  intro s1 hs1
  repeat (first | refine SX.seq ?_ | refine SX.region ?_ | (refine l_move ?_; (refine SXl.v (OpW.move rfl) rfl ?_ ?_ ?_); rfl; rfl))
  refine l_call ?_
  refine SXl.draw (ξ := Bool) (v := fun b => .bool b) rfl rfl rfl (fun _ => True) (fun w hl => once_d B gc w hl.inv 3 (by decide)) (fun b2 _ => ?_)
  repeat (first | refine SXl.nil ?_ | refine SQ.thenNormal ?_)
  refine SX.join (ι := Item) Item.Fits (fun y => [⟨g3, y.cells, 36⟩, ⟨g2, [.int .i64 0, .int .i64 0, .int .i64 0, .int .i64 0, .int .i64 0, .int .i64 0, .int .i64 0, .bool false, .bool false], 36⟩]) (fun _ => []) (fun _ => []) (fun _ => [(0, .pointer (some ⟨gc, 0, none⟩)), (2, .pointer (some ⟨g2, 0, none⟩)), (3, .pointer (some ⟨g3, 0, none⟩))]) ?_ ?_
  · cases b2
    · repeat (first | refine SX.skip ?_ | refine SX.condF rfl ?_)
      refine SQ.join s1 hs1 ?_ (fun _ hl => hl)
      (repeat (first | exact subF_nil _ | (refine subF_cons rfl ?_) | (refine subF_consv rfl (by rfl) ?_)))
    · repeat (first | refine SX.region ?_ | refine SX.condT rfl ?_ | (refine l_move ?_; (refine SXl.v (OpW.move rfl) rfl ?_ ?_ ?_); rfl; rfl))
      refine l_buildSlice ?_
      refine SXl.lit (cells := ([0, 100, 300, 1000] : List Int).map (.int .i64)) (z := .int .i64 0) ?_ ?_ rfl (by decide) (by kernel_rfl) rfl (fun gl => ?_)
      rfl; rfl
      skip
      refine l_call ?_
      refine SXl.draw (ξ := Int) (v := fun x => .int .i64 x) rfl rfl rfl (fun x => x ∈ ([0, 100, 300, 1000] : List Int)) (fun w hl => pick_d (l := ([0, 100, 300, 1000] : List Int)) hl (by simp) (by simp)) (fun v hv => ?_)
      refine SXl.drop1 ?_
      have hv2 : 0 ≤ v ∧ v ≤ 1000 := by simp at hv; omega
      repeat (first | refine SXl.nil ?_ | (refine l_fieldAddr ?_; (refine SXl.v (OpW.fieldAddr rfl) rfl ?_ ?_ ?_); rfl; rfl) | (refine l_store ?_; first | (refine SXl.store 0 ?_ rfl rfl rfl rfl rfl rfl ?_; rfl; simp only [List.set_cons_zero, List.set_cons_succ]) | (refine SXl.store 1 ?_ rfl rfl rfl rfl rfl rfl ?_; rfl; simp only [List.set_cons_zero, List.set_cons_succ]) | (refine SXl.store 2 ?_ rfl rfl rfl rfl rfl rfl ?_; rfl; simp only [List.set_cons_zero, List.set_cons_succ]) | (refine SXl.storeAll 0 ?_ rfl rfl rfl rfl rfl rfl rfl ?_; rfl; simp only [List.set_cons_zero, List.set_cons_succ]) | (refine SXl.storeAll 1 ?_ rfl rfl rfl rfl rfl rfl rfl ?_; rfl; simp only [List.set_cons_zero, List.set_cons_succ]) | (refine SXl.storeAll 2 ?_ rfl rfl rfl rfl rfl rfl rfl ?_; rfl; simp only [List.set_cons_zero, List.set_cons_succ]) | (refine SXl.storeRow 0 ?_ rfl rfl rfl rfl rfl rfl rfl ?_; rfl; simp only [over, List.set_cons_zero, List.set_cons_succ]) | (refine SXl.storeRow 1 ?_ rfl rfl rfl rfl rfl rfl rfl ?_; rfl; simp only [over, List.set_cons_zero, List.set_cons_succ]) | (refine SXl.storeRow 2 ?_ rfl rfl rfl rfl rfl rfl rfl ?_; rfl; simp only [over, List.set_cons_zero, List.set_cons_succ])))
      refine SQ.join { s1 with most := v } (by obtain ⟨q1, q2, q3, q4, q5, q6, q7⟩ := hs1; exact ⟨q1, q2, ⟨by show (-2097152 : Int) ≤ v; omega, by show (v : Int) ≤ 2097152; omega⟩, q4, q5, q6, q7⟩) ?_ (fun _ hl => hl)
      (repeat (first | exact subF_nil _ | (refine subF_cons rfl ?_) | (refine subF_consv rfl (by rfl) ?_)))
  intro s2 hs2
  repeat (first | refine SX.seq ?_ | refine SX.region ?_ | (refine l_move ?_; (refine SXl.v (OpW.move rfl) rfl ?_ ?_ ?_); rfl; rfl))
  refine l_buildSlice ?_
  refine SXl.lit (cells := ([0, 1, 1, 2, 3, 1000] : List Int).map (.int .i64)) (z := .int .i64 0) ?_ ?_ rfl (by decide) (by kernel_rfl) rfl (fun gl => ?_)
  rfl; rfl
  skip
  refine l_call ?_
  refine SXl.draw (ξ := Int) (v := fun x => .int .i64 x) rfl rfl rfl (fun x => x ∈ ([0, 1, 1, 2, 3, 1000] : List Int)) (fun w hl => pick_d (l := ([0, 1, 1, 2, 3, 1000] : List Int)) hl (by simp) (by simp)) (fun v3 hv3 => ?_)
  refine SXl.drop1 ?_
  have hw3 : 0 ≤ v3 ∧ v3 ≤ 1000 := by simp at hv3; omega
  repeat (first | refine SX.seq ?_ | refine SXl.nil ?_ | refine SX.region ?_ | refine SQ.thenNormal ?_ | (refine l_fieldAddr ?_; (refine SXl.v (OpW.fieldAddr rfl) rfl ?_ ?_ ?_); rfl; rfl) | (refine l_move ?_; (refine SXl.v (OpW.move rfl) rfl ?_ ?_ ?_); rfl; rfl) | (refine l_store ?_; first | (refine SXl.store 0 ?_ rfl rfl rfl rfl rfl rfl ?_; rfl; simp only [List.set_cons_zero, List.set_cons_succ]) | (refine SXl.store 1 ?_ rfl rfl rfl rfl rfl rfl ?_; rfl; simp only [List.set_cons_zero, List.set_cons_succ]) | (refine SXl.store 2 ?_ rfl rfl rfl rfl rfl rfl ?_; rfl; simp only [List.set_cons_zero, List.set_cons_succ]) | (refine SXl.storeAll 0 ?_ rfl rfl rfl rfl rfl rfl rfl ?_; rfl; simp only [List.set_cons_zero, List.set_cons_succ]) | (refine SXl.storeAll 1 ?_ rfl rfl rfl rfl rfl rfl rfl ?_; rfl; simp only [List.set_cons_zero, List.set_cons_succ]) | (refine SXl.storeAll 2 ?_ rfl rfl rfl rfl rfl rfl rfl ?_; rfl; simp only [List.set_cons_zero, List.set_cons_succ]) | (refine SXl.storeRow 0 ?_ rfl rfl rfl rfl rfl rfl rfl ?_; rfl; simp only [over, List.set_cons_zero, List.set_cons_succ]) | (refine SXl.storeRow 1 ?_ rfl rfl rfl rfl rfl rfl rfl ?_; rfl; simp only [over, List.set_cons_zero, List.set_cons_succ]) | (refine SXl.storeRow 2 ?_ rfl rfl rfl rfl rfl rfl rfl ?_; rfl; simp only [over, List.set_cons_zero, List.set_cons_succ])))
  refine l_buildSlice ?_
  refine SXl.lit (cells := ([0, 1, 1, 2, 1000] : List Int).map (.int .i64)) (z := .int .i64 0) ?_ ?_ rfl (by decide) (by kernel_rfl) rfl (fun gl => ?_)
  rfl; rfl
  skip
  refine l_call ?_
  refine SXl.draw (ξ := Int) (v := fun x => .int .i64 x) rfl rfl rfl (fun x => x ∈ ([0, 1, 1, 2, 1000] : List Int)) (fun w hl => pick_d (l := ([0, 1, 1, 2, 1000] : List Int)) hl (by simp) (by simp)) (fun v4 hv4 => ?_)
  refine SXl.drop1 ?_
  have hw4 : 0 ≤ v4 ∧ v4 ≤ 1000 := by simp at hv4; omega
  repeat (first | refine SX.seq ?_ | refine SXl.nil ?_ | refine SX.region ?_ | refine SQ.thenNormal ?_ | (refine l_fieldAddr ?_; (refine SXl.v (OpW.fieldAddr rfl) rfl ?_ ?_ ?_); rfl; rfl) | (refine l_move ?_; (refine SXl.v (OpW.move rfl) rfl ?_ ?_ ?_); rfl; rfl) | (refine l_store ?_; first | (refine SXl.store 0 ?_ rfl rfl rfl rfl rfl rfl ?_; rfl; simp only [List.set_cons_zero, List.set_cons_succ]) | (refine SXl.store 1 ?_ rfl rfl rfl rfl rfl rfl ?_; rfl; simp only [List.set_cons_zero, List.set_cons_succ]) | (refine SXl.store 2 ?_ rfl rfl rfl rfl rfl rfl ?_; rfl; simp only [List.set_cons_zero, List.set_cons_succ]) | (refine SXl.storeAll 0 ?_ rfl rfl rfl rfl rfl rfl rfl ?_; rfl; simp only [List.set_cons_zero, List.set_cons_succ]) | (refine SXl.storeAll 1 ?_ rfl rfl rfl rfl rfl rfl rfl ?_; rfl; simp only [List.set_cons_zero, List.set_cons_succ]) | (refine SXl.storeAll 2 ?_ rfl rfl rfl rfl rfl rfl rfl ?_; rfl; simp only [List.set_cons_zero, List.set_cons_succ]) | (refine SXl.storeRow 0 ?_ rfl rfl rfl rfl rfl rfl rfl ?_; rfl; simp only [over, List.set_cons_zero, List.set_cons_succ]) | (refine SXl.storeRow 1 ?_ rfl rfl rfl rfl rfl rfl rfl ?_; rfl; simp only [over, List.set_cons_zero, List.set_cons_succ]) | (refine SXl.storeRow 2 ?_ rfl rfl rfl rfl rfl rfl rfl ?_; rfl; simp only [over, List.set_cons_zero, List.set_cons_succ])))
  refine l_call ?_
  refine SXl.draw (ξ := Bool) (v := fun b => .bool b) rfl rfl rfl (fun _ => True) (fun w hl => once_d B gc w hl.inv 3 (by decide)) (fun b5 _ => ?_)
  repeat (first | refine SXl.nil ?_ | refine SQ.thenNormal ?_)
  refine SX.join (ι := Item) Item.Fits (fun y => [⟨g3, y.cells, 36⟩, ⟨g2, [.int .i64 0, .int .i64 0, .int .i64 0, .int .i64 0, .int .i64 0, .int .i64 0, .int .i64 0, .bool false, .bool false], 36⟩]) (fun _ => []) (fun _ => []) (fun _ => [(0, .pointer (some ⟨gc, 0, none⟩)), (2, .pointer (some ⟨g2, 0, none⟩)), (3, .pointer (some ⟨g3, 0, none⟩))]) ?_ ?_
  · cases b5
    · repeat (first | refine SX.skip ?_ | refine SX.condF rfl ?_)
      refine SQ.join { s2 with grow := v3, shrink := v4 } (by obtain ⟨q1, q2, q3, q4, q5, q6, q7⟩ := hs2; exact ⟨q1, q2, q3, q4, q5, ⟨by show (-2097152 : Int) ≤ v3; omega, by show (v3 : Int) ≤ 2097152; omega⟩, ⟨by show (-2097152 : Int) ≤ v4; omega, by show (v4 : Int) ≤ 2097152; omega⟩⟩) ?_ (fun _ hl => hl)
      (repeat (first | exact subF_nil _ | (refine subF_cons rfl ?_) | (refine subF_consv rfl (by rfl) ?_)))
    · repeat (first | refine SX.seq ?_ | refine SX.region ?_ | refine SX.condT rfl ?_ | (refine l_move ?_; (refine SXl.v (OpW.move rfl) rfl ?_ ?_ ?_); rfl; rfl))
      refine l_buildSlice ?_
      refine SXl.lit (cells := ([10, 64, -10, 33] : List Int).map (.int .i64)) (z := .int .i64 0) ?_ ?_ rfl (by decide) (by kernel_rfl) rfl (fun gl => ?_)
      rfl; rfl
      skip
      refine l_call ?_
      refine SXl.draw (ξ := Int) (v := fun x => .int .i64 x) rfl rfl rfl (fun x => x ∈ ([10, 64, -10, 33] : List Int)) (fun w hl => pick_d (l := ([10, 64, -10, 33] : List Int)) hl (by simp) (by simp)) (fun v5 hv5 => ?_)
      refine SXl.drop1 ?_
      have hw5 : -10 ≤ v5 ∧ v5 ≤ 64 := by simp at hv5; omega
      repeat (first | refine SXl.nil ?_ | refine SX.region ?_ | refine SQ.thenNormal ?_ | (refine l_fieldAddr ?_; (refine SXl.v (OpW.fieldAddr rfl) rfl ?_ ?_ ?_); rfl; rfl) | (refine l_move ?_; (refine SXl.v (OpW.move rfl) rfl ?_ ?_ ?_); rfl; rfl) | (refine l_store ?_; first | (refine SXl.store 0 ?_ rfl rfl rfl rfl rfl rfl ?_; rfl; simp only [List.set_cons_zero, List.set_cons_succ]) | (refine SXl.store 1 ?_ rfl rfl rfl rfl rfl rfl ?_; rfl; simp only [List.set_cons_zero, List.set_cons_succ]) | (refine SXl.store 2 ?_ rfl rfl rfl rfl rfl rfl ?_; rfl; simp only [List.set_cons_zero, List.set_cons_succ]) | (refine SXl.storeAll 0 ?_ rfl rfl rfl rfl rfl rfl rfl ?_; rfl; simp only [List.set_cons_zero, List.set_cons_succ]) | (refine SXl.storeAll 1 ?_ rfl rfl rfl rfl rfl rfl rfl ?_; rfl; simp only [List.set_cons_zero, List.set_cons_succ]) | (refine SXl.storeAll 2 ?_ rfl rfl rfl rfl rfl rfl rfl ?_; rfl; simp only [List.set_cons_zero, List.set_cons_succ]) | (refine SXl.storeRow 0 ?_ rfl rfl rfl rfl rfl rfl rfl ?_; rfl; simp only [over, List.set_cons_zero, List.set_cons_succ]) | (refine SXl.storeRow 1 ?_ rfl rfl rfl rfl rfl rfl rfl ?_; rfl; simp only [over, List.set_cons_zero, List.set_cons_succ]) | (refine SXl.storeRow 2 ?_ rfl rfl rfl rfl rfl rfl rfl ?_; rfl; simp only [over, List.set_cons_zero, List.set_cons_succ])))
      refine l_buildSlice ?_
      refine SXl.lit (cells := ([10, 64, -10, 33] : List Int).map (.int .i64)) (z := .int .i64 0) ?_ ?_ rfl (by decide) (by kernel_rfl) rfl (fun gl => ?_)
      rfl; rfl
      skip
      refine l_call ?_
      refine SXl.draw (ξ := Int) (v := fun x => .int .i64 x) rfl rfl rfl (fun x => x ∈ ([10, 64, -10, 33] : List Int)) (fun w hl => pick_d (l := ([10, 64, -10, 33] : List Int)) hl (by simp) (by simp)) (fun v6 hv6 => ?_)
      refine SXl.drop1 ?_
      have hw6 : -10 ≤ v6 ∧ v6 ≤ 64 := by simp at hv6; omega
      repeat (first | refine SXl.nil ?_ | (refine l_fieldAddr ?_; (refine SXl.v (OpW.fieldAddr rfl) rfl ?_ ?_ ?_); rfl; rfl) | (refine l_store ?_; first | (refine SXl.store 0 ?_ rfl rfl rfl rfl rfl rfl ?_; rfl; simp only [List.set_cons_zero, List.set_cons_succ]) | (refine SXl.store 1 ?_ rfl rfl rfl rfl rfl rfl ?_; rfl; simp only [List.set_cons_zero, List.set_cons_succ]) | (refine SXl.store 2 ?_ rfl rfl rfl rfl rfl rfl ?_; rfl; simp only [List.set_cons_zero, List.set_cons_succ]) | (refine SXl.storeAll 0 ?_ rfl rfl rfl rfl rfl rfl rfl ?_; rfl; simp only [List.set_cons_zero, List.set_cons_succ]) | (refine SXl.storeAll 1 ?_ rfl rfl rfl rfl rfl rfl rfl ?_; rfl; simp only [List.set_cons_zero, List.set_cons_succ]) | (refine SXl.storeAll 2 ?_ rfl rfl rfl rfl rfl rfl rfl ?_; rfl; simp only [List.set_cons_zero, List.set_cons_succ]) | (refine SXl.storeRow 0 ?_ rfl rfl rfl rfl rfl rfl rfl ?_; rfl; simp only [over, List.set_cons_zero, List.set_cons_succ]) | (refine SXl.storeRow 1 ?_ rfl rfl rfl rfl rfl rfl rfl ?_; rfl; simp only [over, List.set_cons_zero, List.set_cons_succ]) | (refine SXl.storeRow 2 ?_ rfl rfl rfl rfl rfl rfl rfl ?_; rfl; simp only [over, List.set_cons_zero, List.set_cons_succ])))
      refine SQ.join { s2 with grow := v3, shrink := v4, before := v5, behind := v6 } (by obtain ⟨q1, q2, q3, q4, q5, q6, q7⟩ := hs2; exact ⟨q1, q2, q3, ⟨by show (-2097152 : Int) ≤ v5; omega, by show (v5 : Int) ≤ 2097152; omega⟩, ⟨by show (-2097152 : Int) ≤ v6; omega, by show (v6 : Int) ≤ 2097152; omega⟩, ⟨by show (-2097152 : Int) ≤ v3; omega, by show (v3 : Int) ≤ 2097152; omega⟩, ⟨by show (-2097152 : Int) ≤ v4; omega, by show (v4 : Int) ≤ 2097152; omega⟩⟩) ?_ (fun _ hl => hl)
      (repeat (first | exact subF_nil _ | (refine subF_cons rfl ?_) | (refine subF_consv rfl (by rfl) ?_)))
  intro s3 hs3
  repeat (first | refine SX.seq ?_ | refine SX.region ?_ | (refine l_move ?_; (refine SXl.v (OpW.move rfl) rfl ?_ ?_ ?_); rfl; rfl))
  refine l_call ?_
  refine SXl.draw (ξ := Bool) (v := fun b => .bool b) rfl rfl rfl (fun _ => True) (fun w hl => once_d B gc w hl.inv 10 (by decide)) (fun b6 _ => ?_)
  repeat (first | refine SX.seq ?_ | refine SXl.nil ?_ | refine SX.region ?_ | refine SQ.thenNormal ?_ | (refine l_fieldAddr ?_; (refine SXl.v (OpW.fieldAddr rfl) rfl ?_ ?_ ?_); rfl; rfl) | (refine l_move ?_; (refine SXl.v (OpW.move rfl) rfl ?_ ?_ ?_); rfl; rfl) | (refine l_store ?_; first | (refine SXl.store 0 ?_ rfl rfl rfl rfl rfl rfl ?_; rfl; simp only [List.set_cons_zero, List.set_cons_succ]) | (refine SXl.store 1 ?_ rfl rfl rfl rfl rfl rfl ?_; rfl; simp only [List.set_cons_zero, List.set_cons_succ]) | (refine SXl.store 2 ?_ rfl rfl rfl rfl rfl rfl ?_; rfl; simp only [List.set_cons_zero, List.set_cons_succ]) | (refine SXl.storeAll 0 ?_ rfl rfl rfl rfl rfl rfl rfl ?_; rfl; simp only [List.set_cons_zero, List.set_cons_succ]) | (refine SXl.storeAll 1 ?_ rfl rfl rfl rfl rfl rfl rfl ?_; rfl; simp only [List.set_cons_zero, List.set_cons_succ]) | (refine SXl.storeAll 2 ?_ rfl rfl rfl rfl rfl rfl rfl ?_; rfl; simp only [List.set_cons_zero, List.set_cons_succ]) | (refine SXl.storeRow 0 ?_ rfl rfl rfl rfl rfl rfl rfl ?_; rfl; simp only [over, List.set_cons_zero, List.set_cons_succ]) | (refine SXl.storeRow 1 ?_ rfl rfl rfl rfl rfl rfl rfl ?_; rfl; simp only [over, List.set_cons_zero, List.set_cons_succ]) | (refine SXl.storeRow 2 ?_ rfl rfl rfl rfl rfl rfl rfl ?_; rfl; simp only [over, List.set_cons_zero, List.set_cons_succ])))
  refine l_call ?_
  refine SXl.draw (ξ := Bool) (v := fun b => .bool b) rfl rfl rfl (fun _ => True) (fun w hl => once_d B gc w hl.inv 10 (by decide)) (fun b7 _ => ?_)
  repeat (first | refine SX.seq ?_ | refine SXl.nil ?_ | refine SX.region ?_ | refine SQ.thenNormal ?_ | (refine l_load ?_; (refine SXl.v (OpW.loadAll 0 rfl rfl rfl) rfl ?_ ?_ ?_); rfl; rfl) | (refine l_fieldAddr ?_; (refine SXl.v (OpW.fieldAddr rfl) rfl ?_ ?_ ?_); rfl; rfl) | (refine l_store ?_; first | (refine SXl.store 0 ?_ rfl rfl rfl rfl rfl rfl ?_; rfl; simp only [List.set_cons_zero, List.set_cons_succ]) | (refine SXl.store 1 ?_ rfl rfl rfl rfl rfl rfl ?_; rfl; simp only [List.set_cons_zero, List.set_cons_succ]) | (refine SXl.store 2 ?_ rfl rfl rfl rfl rfl rfl ?_; rfl; simp only [List.set_cons_zero, List.set_cons_succ]) | (refine SXl.storeAll 0 ?_ rfl rfl rfl rfl rfl rfl rfl ?_; rfl; simp only [List.set_cons_zero, List.set_cons_succ]) | (refine SXl.storeAll 1 ?_ rfl rfl rfl rfl rfl rfl rfl ?_; rfl; simp only [List.set_cons_zero, List.set_cons_succ]) | (refine SXl.storeAll 2 ?_ rfl rfl rfl rfl rfl rfl rfl ?_; rfl; simp only [List.set_cons_zero, List.set_cons_succ]) | (refine SXl.storeRow 0 ?_ rfl rfl rfl rfl rfl rfl rfl ?_; rfl; simp only [over, List.set_cons_zero, List.set_cons_succ]) | (refine SXl.storeRow 1 ?_ rfl rfl rfl rfl rfl rfl rfl ?_; rfl; simp only [over, List.set_cons_zero, List.set_cons_succ]) | (refine SXl.storeRow 2 ?_ rfl rfl rfl rfl rfl rfl rfl ?_; rfl; simp only [over, List.set_cons_zero, List.set_cons_succ])) | refine SX.ret ?_)
  refine SQ.bodyCell 1 rfl rfl rfl rfl (fun w' hl => ⟨{ s3 with autoBefore := b6, autoBehind := b7 }, rfl, hs3, hl.mod, hl.inv⟩)
/-- Items of the call's own. -/
structure ItemsQ where
  xs : List Item
  a : Option Addr
  c : Nat
def ItemsQ.v (q : ItemsQ) : Value := .slice q.a q.xs.length q.c
def ItemsQ.os (q : ItemsQ) : List Own := [⟨.slice q.a q.xs.length q.c, 36, 9, q.xs.length, (q.xs.map Item.cells).flatten⟩]
def FitItems (m : Nat) (l : List Item) : Prop := (∀ x ∈ l, x.Fits) ∧ l.length ≤ m
theorem FitItems.push {m : Nat} {l : List Item} {x : Item} (h : FitItems m l) (hx : x.Fits) : FitItems (m + 1) (l ++ [x]) := ⟨fun y hy => by
  rcases List.mem_append.1 hy with hy | hy
  · exact h.1 y hy
  · rw [List.mem_singleton.1 hy]; exact hx, by rw [List.length_append, List.length_singleton]; exact Nat.succ_le_succ h.2⟩
theorem items_push (l : List Item) (x : Item) (a : Option Addr) (c : Nat) : (⟨.slice a (l.length + 1) c, 36, 9, l.length + 1, (l.map Item.cells).flatten ++ x.cells⟩ : Own) = ⟨.slice a (l ++ [x]).length c, 36, 9, (l ++ [x]).length, ((l ++ [x]).map Item.cells).flatten⟩ := by simp
set_option maxRecDepth 100000 in
set_option maxHeartbeats 8000000 in
theorem l13Items_d (B gc : Nat) (w : World) (hc : Cur B 116 w gc) : Calls Try.prog 88 #[.pointer (some ⟨gc, 0, none⟩)] w (DrewO ItemsQ 116 B gc ItemsQ.v ItemsQ.os (fun q => FitItems 6 q.xs) w) := by
  refine calls_draw (as_ := [.pointer (some ⟨gc, 0, none⟩)]) hc Try.func88 rfl rfl (fun a h1 h2 h3 => ((Fr.nil h1 h2).arg (h3 0 _ rfl))) ?_
  repeat (first | refine SX.seq ?_ | refine SXl.nil ?_ | refine SX.region ?_ | refine SQ.thenNormal ?_ | refine SX.block ?_ | (refine l_assign ?_; (refine SXl.v (OpW.assign rfl) rfl ?_ ?_ ?_); rfl; rfl) | (refine l_buildSlice ?_; refine SXl.lit0R rfl rfl (fun _ h => h) (fun g => ?_)))
  refine SX.loop3 (fun (k : Nat) (q : ItemsQ) (_ : Unit) => k = q.xs.length ∧ FitItems 6 q.xs) (fun k _ _ => 6 - k) (fun _ _ _ => []) (fun _ q _ => q.os) (fun _ _ _ => []) (fun k q _ => [(0, .pointer (some ⟨gc, 0, none⟩)), (3, q.v), (4, .int .i64 k)]) 0 ⟨[], _, _⟩ () ⟨rfl, fun _ h => (nomatch h), Nat.zero_le _⟩ ?_ (fun _ hl => hl) ?_
  · (repeat (first | exact subF_nil _ | (refine subF_cons rfl ?_) | (refine subF_consv rfl (by rfl) ?_)))
  rintro k ⟨xs, qa, qc⟩ _ ⟨hk, hq⟩
  simp only at hk hq
  simp only [ItemsQ.v, ItemsQ.os]
  obtain ⟨hq1, hq2⟩ := hq
  repeat (first | refine SX.seq ?_ | refine SX.region ?_ | (refine l_move ?_; (refine SXl.v (OpW.move rfl) rfl ?_ ?_ ?_); rfl; rfl))
  refine l_call ?_
  refine SXl.drawE (ξ := Int) (v := fun x : Int => .int .i64 x) rfl rfl rfl (fun x => 0 ≤ x ∧ x < 6) (fun w hl => below_d B gc w hl.inv 6 (by decide) (by decide)) (fun y hy => ?_)
  by_cases hlt : (k : Int) < y
  · repeat (first | refine SX.seq ?_ | refine SXl.nil ?_ | refine SX.region ?_ | refine SQ.thenNormal ?_ | refine SX.block ?_ | refine SX.skip ?_ | refine SX.condT rfl ?_ | (refine l_move ?_; (refine SXl.v (OpW.move rfl) rfl ?_ ?_ ?_); rfl; rfl) | (refine l_lss ?_; (refine SXl.v (OpW.lssT rfl rfl (by omega)) rfl ?_ ?_ ?_); rfl; rfl))
    refine l_call ?_
    refine SXl.drawE (ξ := Item) (v := fun x => .agg x.cells.toArray) rfl rfl rfl Item.Fits (fun w hl => l13Item_d B gc w hl.inv) (fun z hz => ?_)
    repeat (first | refine SXl.nil ?_ | refine SX.region ?_ | refine SQ.thenNormal ?_ | (refine l_move ?_; (refine SXl.v (OpW.move rfl) rfl ?_ ?_ ?_); rfl; rfl) | (refine l_assign ?_; (refine SXl.v (OpW.assign rfl) rfl ?_ ?_ ?_); rfl; rfl) | (refine l_add ?_; (refine SXl.v (OpW.succ rfl rfl (by omega)) rfl ?_ ?_ ?_); rfl; rfl) | (refine l_append ?_; first | (refine SXl.append 0 0 rfl rfl rfl rfl rfl rfl rfl rfl (by omega) (by omega) (fun a c => ?_); simp only [List.set_cons_zero, List.set_cons_succ]) | (refine SXl.append 1 0 rfl rfl rfl rfl rfl rfl rfl rfl (by omega) (by omega) (fun a c => ?_); simp only [List.set_cons_zero, List.set_cons_succ])) | (refine l_buildSlice ?_; refine SXl.litRow1 rfl rfl rfl rfl (Item.cells_len _) (by decide) (by decide) (fun g => ?_)) | refine SQ.blockNormal ?_)
    rw [items_push]
    refine SQ.round3 (k + 1) ⟨xs ++ [z], a, c⟩ () ⟨by simp [hk], (FitItems.push (m := k) ⟨hq1, by omega⟩ hz).1, by rw [List.length_append, List.length_singleton]; omega⟩ (by omega) ?_ (fun w hl => hl.drop1)
    (repeat (first | exact subF_nil _ | (refine subF_cons rfl ?_) | (refine subF_consv rfl (by simp [ItemsQ.v]) ?_)))
  · repeat (first | refine SX.seq ?_ | refine SXl.nil ?_ | refine SX.region ?_ | refine SQ.thenNormal ?_ | refine SX.condF rfl ?_ | (refine l_move ?_; (refine SXl.v (OpW.move rfl) rfl ?_ ?_ ?_); rfl; rfl) | (refine l_assign ?_; (refine SXl.v (OpW.assign rfl) rfl ?_ ?_ ?_); rfl; rfl) | (refine l_lss ?_; (refine SXl.v (OpW.lssF rfl rfl (by omega)) rfl ?_ ?_ ?_); rfl; rfl) | refine SX.ret ?_ | refine SX.exit ?_ | refine SQ.thenExit ?_ | refine SQ.blockExit ?_)
    refine SQ.body1 rfl rfl (fun w' hl => ⟨⟨xs, qa, qc⟩, rfl, ⟨hq1, hq2⟩, hl.owns, hl.mod, hl.inv⟩)
end Go.Proofs.Ytdohglcjjlmhhaa
namespace Go.Proofs.Ytdohglcjjlmhhaa
open Go.RowKit
set_option linter.unusedVariables false
set_option linter.unusedSimpArgs false

theorem items_addr {base : Nat} {w : World} {l : List Item} {a : Option Addr} {c : Nat} {os : List Own} (h : Owns base w os) (hm : (⟨.slice a l.length c, 36, 9, l.length, (l.map Item.cells).flatten⟩ : Own) ∈ os) (h0 : 0 < l.length) : ∃ g, a = some ⟨g, 0, none⟩ := by
  rcases own_parts (h.row _ hm) with h1 | ⟨b, h1, _⟩
  · omega
  · exact ⟨b, h1⟩
theorem FitItems.head {m : Nat} {x y : Item} {l : List Item} (h : FitItems m (x :: l)) (hy : y.Fits) : FitItems m (y :: l) := ⟨fun z hz => by
  rcases List.mem_cons.1 hz with rfl | hz
  · exact hy
  · exact h.1 z (List.mem_cons_of_mem _ hz), h.2⟩
theorem FitItems.mono {m n : Nat} {l : List Item} (h : FitItems m l) (hn : m ≤ n) : FitItems n l := ⟨h.1, Nat.le_trans h.2 hn⟩
set_option maxRecDepth 100000 in
set_option maxHeartbeats 8000000 in
theorem l13Any_d (B gc : Nat) (w : World) (hc : Cur B 116 w gc) : Calls Try.prog 58 #[.pointer (some ⟨gc, 0, none⟩)] w (DrewO ItemsQ 116 B gc ItemsQ.v ItemsQ.os (fun q => FitItems 13 q.xs) w) := by
  refine calls_draw (as_ := [.pointer (some ⟨gc, 0, none⟩)]) hc Try.func58 rfl rfl (fun a h1 h2 h3 => ((Fr.nil h1 h2).arg (h3 0 _ rfl))) ?_
  repeat (first | refine SX.seq ?_ | refine SXl.nil ?_ | refine SX.region ?_ | refine SQ.thenNormal ?_ | (refine l_move ?_; (refine SXl.v (OpW.move rfl) rfl ?_ ?_ ?_); rfl; rfl) | (refine l_assign ?_; (refine SXl.v (OpW.assign rfl) rfl ?_ ?_ ?_); rfl; rfl))
  refine l_call ?_
  refine SXl.drawOJ rfl rfl rfl (fun w hl => l13Items_d B gc w hl.inv) (fun q hq => ?_)
  obtain ⟨xs, qa, qc⟩ := q
  simp only at hq
  simp only [ItemsQ.v, ItemsQ.os, List.append_nil]
  repeat (first | refine SX.seq ?_ | refine SXl.nil ?_ | refine SX.region ?_ | refine SQ.thenNormal ?_ | (refine l_move ?_; (refine SXl.v (OpW.move rfl) rfl ?_ ?_ ?_); rfl; rfl) | (refine l_assign ?_; (refine SXl.v (OpW.assign rfl) rfl ?_ ?_ ?_); rfl; rfl) | (refine l_len ?_; (refine SXl.v (OpW.len rfl) rfl ?_ ?_ ?_); rfl; rfl) | (refine l_gtr ?_; (refine SXl.v (OpW.gtr rfl rfl) rfl ?_ ?_ ?_); rfl; rfl))
  refine SX.join (ι := ItemsQ) (fun q => FitItems 6 q.xs) (fun _ => []) (fun q => q.os) (fun _ => []) (fun q => [(0, .pointer (some ⟨gc, 0, none⟩)), (3, q.v)]) ?_ ?_
  · have hstay : FitItems 6 xs := hq
    cases xs with
    | nil =>
      repeat (first | refine SX.skip ?_ | refine SX.condF rfl ?_)
      refine SQ.join ⟨[], qa, qc⟩ hq ?_ (fun _ hl => hl)
      (repeat (first | exact subF_nil _ | (refine subF_cons rfl ?_) | (refine subF_consv rfl (by rfl) ?_)))
    | cons x rest =>
      have hx := hq.1 x List.mem_cons_self
      refine SX.knowI (fun w hl => items_addr hl.owns (.head _) (by simp)) (fun ⟨gq, hgq⟩ => ?_)
      subst hgq
      have hpos : 0 < (x :: rest).length := by simp
      have hfl : 9 ≤ ((x :: rest).map Item.cells).flatten.length := by rw [flat_length Item.cells_len]; omega
      have hp2 : decide ((0 : Int) < ((x :: rest).length : Int)) = true := decide_eq_true (by omega)
      repeat (first | refine SX.seq ?_ | refine SX.region ?_ | refine SX.condT rfl ?_ | (refine l_move ?_; (refine SXl.v (OpW.move rfl) rfl ?_ ?_ ?_); rfl; rfl) | (rw [hp2]))
      refine l_call ?_
      refine SXl.draw (ξ := Int) (v := fun x : Int => .int .i64 x) rfl rfl rfl (fun x => 0 ≤ x ∧ x < 16) (fun w hl => below_d B gc w hl.inv 16 (by decide) (by decide)) (fun y hy => ?_)
      by_cases y0 : y = 0
      · repeat (first | refine SX.seq ?_ | refine SXl.nil ?_ | refine SX.region ?_ | refine SQ.thenNormal ?_ | refine SX.block ?_ | refine SX.condT rfl ?_ | (refine l_move ?_; (refine SXl.v (OpW.move rfl) rfl ?_ ?_ ?_); rfl; rfl) | (refine l_assign ?_; (refine SXl.v (OpW.assign rfl) rfl ?_ ?_ ?_); rfl; rfl) | (refine l_eql ?_; (refine SXl.v (OpW.eqlT rfl rfl (by omega)) rfl ?_ ?_ ?_); rfl; rfl))
        refine l_buildSlice ?_
        refine SXl.lit (cells := ([-1, 1048576, 1048577] : List Int).map (.int .i64)) (z := .int .i64 0) ?_ ?_ rfl (by decide) (by kernel_rfl) rfl (fun gl => ?_)
        rfl; rfl
        skip
        refine l_call ?_
        refine SXl.draw (ξ := Int) (v := fun x => .int .i64 x) rfl rfl rfl (fun x => x ∈ ([-1, 1048576, 1048577] : List Int)) (fun w hl => pick_d (l := ([-1, 1048576, 1048577] : List Int)) hl (by simp) (by simp)) (fun v hv => ?_)
        refine SXl.drop1 ?_
        have hv2 : -1 ≤ v ∧ v ≤ 1048577 := by simp at hv; omega
        repeat (first | (refine l_indexAddr ?_; (refine SXl.v ((OpW.indexAddr (i := 0) hpos rfl rfl)) rfl ?_ ?_ ?_); rfl; rfl) | (refine l_fieldAddr ?_; (refine SXl.v (OpW.fieldAddr rfl) rfl ?_ ?_ ?_); rfl; rfl))
        refine l_store ?_
        refine SXl.storeOwn (xs := ((x :: rest).map Item.cells).flatten) 0 rfl rfl rfl rfl (by omega) rfl rfl ?_
        repeat (first | refine SXl.nil ?_ | refine SQ.blockNormal ?_)
        refine SQ.join ⟨{ x with base := v } :: rest, some ⟨gq, 0, none⟩, qc⟩ (hq.head (by obtain ⟨q1, q2, q3, q4, q5, q6, q7⟩ := hx; exact ⟨⟨by show (-2097152 : Int) ≤ v; omega, by show (v : Int) ≤ 2097152; omega⟩, q2, q3, q4, q5, q6, q7⟩)) ?_ (fun _ hl => hl)
        (repeat (first | exact subF_nil _ | (refine subF_cons rfl ?_) | (refine subF_consv rfl (by rfl) ?_)))
      by_cases y1 : y = 1
      · repeat (first | refine SX.seq ?_ | refine SXl.nil ?_ | refine SX.region ?_ | refine SQ.thenNormal ?_ | refine SX.block ?_ | refine SX.condT rfl ?_ | refine SX.condF rfl ?_ | (refine l_move ?_; (refine SXl.v (OpW.move rfl) rfl ?_ ?_ ?_); rfl; rfl) | (refine l_assign ?_; (refine SXl.v (OpW.assign rfl) rfl ?_ ?_ ?_); rfl; rfl) | (refine l_eql ?_; (first | refine SXl.v (OpW.eqlT rfl rfl (by omega)) rfl ?_ ?_ ?_ | refine SXl.v (OpW.eqlF rfl rfl (by omega)) rfl ?_ ?_ ?_); rfl; rfl))
        refine l_buildSlice ?_
        refine SXl.lit (cells := ([-1, 1000, 1001] : List Int).map (.int .i64)) (z := .int .i64 0) ?_ ?_ rfl (by decide) (by kernel_rfl) rfl (fun gl => ?_)
        rfl; rfl
        skip
        refine l_call ?_
        refine SXl.draw (ξ := Int) (v := fun x => .int .i64 x) rfl rfl rfl (fun x => x ∈ ([-1, 1000, 1001] : List Int)) (fun w hl => pick_d (l := ([-1, 1000, 1001] : List Int)) hl (by simp) (by simp)) (fun v hv => ?_)
        refine SXl.drop1 ?_
        have hv2 : -1 ≤ v ∧ v ≤ 1001 := by simp at hv; omega
        repeat (first | (refine l_indexAddr ?_; (refine SXl.v ((OpW.indexAddr (i := 0) hpos rfl rfl)) rfl ?_ ?_ ?_); rfl; rfl) | (refine l_fieldAddr ?_; (refine SXl.v (OpW.fieldAddr rfl) rfl ?_ ?_ ?_); rfl; rfl))
        refine l_store ?_
        refine SXl.storeOwn (xs := ((x :: rest).map Item.cells).flatten) 0 rfl rfl rfl rfl (by omega) rfl rfl ?_
        repeat (first | refine SXl.nil ?_ | refine SQ.blockNormal ?_)
        refine SQ.join ⟨{ x with grow := v } :: rest, some ⟨gq, 0, none⟩, qc⟩ (hq.head (by obtain ⟨q1, q2, q3, q4, q5, q6, q7⟩ := hx; exact ⟨q1, q2, q3, q4, q5, ⟨by show (-2097152 : Int) ≤ v; omega, by show (v : Int) ≤ 2097152; omega⟩, q7⟩)) ?_ (fun _ hl => hl)
        (repeat (first | exact subF_nil _ | (refine subF_cons rfl ?_) | (refine subF_consv rfl (by rfl) ?_)))
      by_cases y2 : y = 2
      · repeat (first | refine SX.seq ?_ | refine SXl.nil ?_ | refine SX.region ?_ | refine SQ.thenNormal ?_ | refine SX.block ?_ | refine SX.condT rfl ?_ | refine SX.condF rfl ?_ | (refine l_move ?_; (refine SXl.v (OpW.move rfl) rfl ?_ ?_ ?_); rfl; rfl) | (refine l_assign ?_; (refine SXl.v (OpW.assign rfl) rfl ?_ ?_ ?_); rfl; rfl) | (refine l_eql ?_; (first | refine SXl.v (OpW.eqlT rfl rfl (by omega)) rfl ?_ ?_ ?_ | refine SXl.v (OpW.eqlF rfl rfl (by omega)) rfl ?_ ?_ ?_); rfl; rfl))
        refine l_buildSlice ?_
        refine SXl.lit (cells := ([-2, 1048577, 0] : List Int).map (.int .i64)) (z := .int .i64 0) ?_ ?_ rfl (by decide) (by kernel_rfl) rfl (fun gl => ?_)
        rfl; rfl
        skip
        refine l_call ?_
        refine SXl.draw (ξ := Int) (v := fun x => .int .i64 x) rfl rfl rfl (fun x => x ∈ ([-2, 1048577, 0] : List Int)) (fun w hl => pick_d (l := ([-2, 1048577, 0] : List Int)) hl (by simp) (by simp)) (fun v hv => ?_)
        refine SXl.drop1 ?_
        have hv2 : -2 ≤ v ∧ v ≤ 1048577 := by simp at hv; omega
        repeat (first | (refine l_indexAddr ?_; (refine SXl.v ((OpW.indexAddr (i := 0) hpos rfl rfl)) rfl ?_ ?_ ?_); rfl; rfl) | (refine l_fieldAddr ?_; (refine SXl.v (OpW.fieldAddr rfl) rfl ?_ ?_ ?_); rfl; rfl))
        refine l_store ?_
        refine SXl.storeOwn (xs := ((x :: rest).map Item.cells).flatten) 0 rfl rfl rfl rfl (by omega) rfl rfl ?_
        repeat (first | refine SXl.nil ?_ | refine SQ.blockNormal ?_)
        refine SQ.join ⟨{ x with most := v } :: rest, some ⟨gq, 0, none⟩, qc⟩ (hq.head (by obtain ⟨q1, q2, q3, q4, q5, q6, q7⟩ := hx; exact ⟨q1, q2, ⟨by show (-2097152 : Int) ≤ v; omega, by show (v : Int) ≤ 2097152; omega⟩, q4, q5, q6, q7⟩)) ?_ (fun _ hl => hl)
        (repeat (first | exact subF_nil _ | (refine subF_cons rfl ?_) | (refine subF_consv rfl (by rfl) ?_)))
      by_cases y3 : y = 3
      · repeat (first | refine SX.seq ?_ | refine SXl.nil ?_ | refine SX.region ?_ | refine SQ.thenNormal ?_ | refine SX.block ?_ | refine SX.condT rfl ?_ | refine SX.condF rfl ?_ | (refine l_move ?_; (refine SXl.v (OpW.move rfl) rfl ?_ ?_ ?_); rfl; rfl) | (refine l_assign ?_; (refine SXl.v (OpW.assign rfl) rfl ?_ ?_ ?_); rfl; rfl) | (refine l_eql ?_; (first | refine SXl.v (OpW.eqlT rfl rfl (by omega)) rfl ?_ ?_ ?_ | refine SXl.v (OpW.eqlF rfl rfl (by omega)) rfl ?_ ?_ ?_); rfl; rfl))
        refine l_buildSlice ?_
        refine SXl.lit (cells := ([1048577, -1048576, 1048576] : List Int).map (.int .i64)) (z := .int .i64 0) ?_ ?_ rfl (by decide) (by kernel_rfl) rfl (fun gl => ?_)
        rfl; rfl
        skip
        refine l_call ?_
        refine SXl.draw (ξ := Int) (v := fun x => .int .i64 x) rfl rfl rfl (fun x => x ∈ ([1048577, -1048576, 1048576] : List Int)) (fun w hl => pick_d (l := ([1048577, -1048576, 1048576] : List Int)) hl (by simp) (by simp)) (fun v hv => ?_)
        refine SXl.drop1 ?_
        have hv2 : -1048576 ≤ v ∧ v ≤ 1048577 := by simp at hv; omega
        repeat (first | (refine l_indexAddr ?_; (refine SXl.v ((OpW.indexAddr (i := 0) hpos rfl rfl)) rfl ?_ ?_ ?_); rfl; rfl) | (refine l_fieldAddr ?_; (refine SXl.v (OpW.fieldAddr rfl) rfl ?_ ?_ ?_); rfl; rfl))
        refine l_store ?_
        refine SXl.storeOwn (xs := ((x :: rest).map Item.cells).flatten) 0 rfl rfl rfl rfl (by omega) rfl rfl ?_
        repeat (first | refine SXl.nil ?_ | refine SQ.blockNormal ?_)
        refine SQ.join ⟨{ x with before := v } :: rest, some ⟨gq, 0, none⟩, qc⟩ (hq.head (by obtain ⟨q1, q2, q3, q4, q5, q6, q7⟩ := hx; exact ⟨q1, q2, q3, ⟨by show (-2097152 : Int) ≤ v; omega, by show (v : Int) ≤ 2097152; omega⟩, q5, q6, q7⟩)) ?_ (fun _ hl => hl)
        (repeat (first | exact subF_nil _ | (refine subF_cons rfl ?_) | (refine subF_consv rfl (by rfl) ?_)))
      repeat (first | refine SX.seq ?_ | refine SXl.nil ?_ | refine SX.region ?_ | refine SQ.thenNormal ?_ | refine SX.block ?_ | refine SX.skip ?_ | refine SX.condF rfl ?_ | (refine l_assign ?_; (refine SXl.v (OpW.assign rfl) rfl ?_ ?_ ?_); rfl; rfl) | (refine l_eql ?_; (refine SXl.v (OpW.eqlF rfl rfl (by omega)) rfl ?_ ?_ ?_); rfl; rfl) | refine SQ.blockNormal ?_)
      refine SQ.join ⟨x :: rest, some ⟨gq, 0, none⟩, qc⟩ hq ?_ (fun _ hl => hl)
      (repeat (first | exact subF_nil _ | (refine subF_cons rfl ?_) | (refine subF_consv rfl (by rfl) ?_)))
  rintro ⟨ys, qb, qd⟩ hys
  simp only at hys
  simp only [ItemsQ.v, ItemsQ.os]
  clear hq
  repeat (first | refine SX.seq ?_ | refine SX.region ?_ | (refine l_move ?_; (refine SXl.v (OpW.move rfl) rfl ?_ ?_ ?_); rfl; rfl))
  refine l_call ?_
  refine SXl.draw (ξ := Bool) (v := fun b => .bool b) rfl rfl rfl (fun _ => True) (fun w hl => once_d B gc w hl.inv 30 (by decide)) (fun b _ => ?_)
  cases b
  · repeat (first | refine SX.seq ?_ | refine SXl.nil ?_ | refine SX.region ?_ | refine SQ.thenNormal ?_ | refine SX.skip ?_ | refine SX.condF rfl ?_ | (refine l_move ?_; (refine SXl.v (OpW.move rfl) rfl ?_ ?_ ?_); rfl; rfl) | (refine l_assign ?_; (refine SXl.v (OpW.assign rfl) rfl ?_ ?_ ?_); rfl; rfl) | refine SX.ret ?_)
    refine SQ.body1 rfl rfl (fun w' hl => ⟨⟨ys, qb, qd⟩, rfl, hys.mono (by decide), hl.owns, hl.mod, hl.inv⟩)
  repeat (first | refine SXl.nil ?_ | refine SQ.thenNormal ?_ | refine SX.block ?_ | refine SX.condT rfl ?_)
  refine SX.loop3 (fun (_ : Unit) (q : ItemsQ) (_ : Unit) => FitItems 13 q.xs) (fun _ q _ => 14 - q.xs.length) (fun _ _ _ => []) (fun _ q _ => q.os) (fun _ _ _ => []) (fun _ q _ => [(0, .pointer (some ⟨gc, 0, none⟩)), (3, q.v)]) () ⟨ys, qb, qd⟩ () (hys.mono (by decide)) ?_ (fun _ hl => hl) ?_
  · (repeat (first | exact subF_nil _ | (refine subF_cons rfl ?_) | (refine subF_consv rfl (by rfl) ?_)))
  rintro _ ⟨xs, qa, qc⟩ _ ⟨hq1, hq2⟩
  simp only at hq1 hq2
  simp only [ItemsQ.v, ItemsQ.os]
  repeat (first | refine SX.seq ?_ | refine SX.region ?_ | (refine l_move ?_; (refine SXl.v (OpW.move rfl) rfl ?_ ?_ ?_); rfl; rfl) | (refine l_len ?_; (refine SXl.v (OpW.len rfl) rfl ?_ ?_ ?_); rfl; rfl))
  refine l_call ?_
  refine SXl.drawE (ξ := Int) (v := fun x : Int => .int .i64 x) rfl rfl rfl (fun x => 0 ≤ x ∧ x < 2) (fun w hl => below_d B gc w hl.inv 2 (by decide) (by decide)) (fun y hy => ?_)
  by_cases hlt : (xs.length : Int) < 12 + y
  · repeat (first | refine SXl.nil ?_ | refine SX.region ?_ | refine SQ.thenNormal ?_ | refine SX.block ?_ | refine SX.skip ?_ | refine SX.condT rfl ?_ | (refine l_move ?_; (refine SXl.v (OpW.move rfl) rfl ?_ ?_ ?_); rfl; rfl) | (refine l_add ?_; (refine SXl.v (OpW.addi rfl rfl (by omega) (by omega)) rfl ?_ ?_ ?_); rfl; rfl) | (refine l_lss ?_; (refine SXl.v (OpW.lssT rfl rfl (by omega)) rfl ?_ ?_ ?_); rfl; rfl))
    refine l_call ?_
    refine SXl.drawE (ξ := Item) (v := fun x => .agg x.cells.toArray) rfl rfl rfl Item.Fits (fun w hl => l13Item_d B gc w hl.inv) (fun z hz => ?_)
    repeat (first | refine SXl.nil ?_ | (refine l_assign ?_; (refine SXl.v (OpW.assign rfl) rfl ?_ ?_ ?_); rfl; rfl) | (refine l_append ?_; first | (refine SXl.append 0 0 rfl rfl rfl rfl rfl rfl rfl rfl (by omega) (by omega) (fun a c => ?_); simp only [List.set_cons_zero, List.set_cons_succ]) | (refine SXl.append 1 0 rfl rfl rfl rfl rfl rfl rfl rfl (by omega) (by omega) (fun a c => ?_); simp only [List.set_cons_zero, List.set_cons_succ])) | (refine l_buildSlice ?_; refine SXl.litRow1 rfl rfl rfl rfl (Item.cells_len _) (by decide) (by decide) (fun g => ?_)) | refine SQ.blockNormal ?_)
    rw [items_push]
    refine SQ.round3 () ⟨xs ++ [z], a, c⟩ () ((FitItems.push (m := 12) ⟨hq1, by omega⟩ hz)) (by simp only [List.length_append, List.length_singleton]; omega) ?_ (fun w hl => hl.drop1)
    (repeat (first | exact subF_nil _ | (refine subF_cons rfl ?_) | (refine subF_consv rfl (by simp [ItemsQ.v]) ?_)))
  · repeat (first | refine SX.seq ?_ | refine SXl.nil ?_ | refine SX.region ?_ | refine SQ.thenNormal ?_ | refine SX.condF rfl ?_ | (refine l_move ?_; (refine SXl.v (OpW.move rfl) rfl ?_ ?_ ?_); rfl; rfl) | (refine l_assign ?_; (refine SXl.v (OpW.assign rfl) rfl ?_ ?_ ?_); rfl; rfl) | (refine l_add ?_; (refine SXl.v (OpW.addi rfl rfl (by omega) (by omega)) rfl ?_ ?_ ?_); rfl; rfl) | (refine l_lss ?_; (refine SXl.v (OpW.lssF rfl rfl (by omega)) rfl ?_ ?_ ?_); rfl; rfl) | refine SX.ret ?_ | refine SX.exit ?_ | refine SQ.thenExit ?_ | refine SQ.blockExit ?_)
    refine SQ.body1 rfl rfl (fun w' hl => ⟨⟨xs, qa, qc⟩, rfl, ⟨hq1, hq2⟩, hl.owns, hl.mod, hl.inv⟩)
abbrev LineArgs := ItemsQ × Int × Int × Bool
def LineArgs.v (q : LineArgs) : Value := .tuple #[q.1.v, .int .i64 q.2.1, .int .i64 q.2.2.1, .bool q.2.2.2]
def LineArgs.ok (q : LineArgs) : Prop := FitItems 13 q.1.xs ∧ (0 ≤ q.2.1 ∧ q.2.1 ≤ 64) ∧ -1 ≤ q.2.2.1 ∧ q.2.2.1 ≤ 2000
set_option maxRecDepth 100000 in
set_option maxHeartbeats 8000000 in
theorem l14Case_d (B gc : Nat) (w : World) (hc : Cur B 116 w gc) : Calls Try.prog 47 #[.pointer (some ⟨gc, 0, none⟩)] w (DrewO LineArgs 116 B gc LineArgs.v (fun q => q.1.os) LineArgs.ok w) := by
  refine calls_draw (as_ := [.pointer (some ⟨gc, 0, none⟩)]) hc Try.func47 rfl rfl (fun a h1 h2 h3 => ((Fr.nil h1 h2).arg (h3 0 _ rfl))) ?_
  repeat (first | refine SX.seq ?_ | refine SXl.nil ?_ | refine SX.region ?_ | refine SQ.thenNormal ?_ | (refine l_move ?_; (refine SXl.v (OpW.move rfl) rfl ?_ ?_ ?_); rfl; rfl) | (refine l_assign ?_; (refine SXl.v (OpW.assign rfl) rfl ?_ ?_ ?_); rfl; rfl))
  refine l_call ?_
  refine SXl.drawOJ rfl rfl rfl (fun w hl => l13Any_d B gc w hl.inv) (fun q hq => ?_)
  rw [List.append_nil]
  repeat ((refine l_move ?_; (refine SXl.v (OpW.move rfl) rfl ?_ ?_ ?_); rfl; rfl))
  refine l_buildSlice ?_
  refine SXl.lit (cells := ([0, 0, 10, 64] : List Int).map (.int .i64)) (z := .int .i64 0) ?_ ?_ rfl (by decide) (by kernel_rfl) rfl (fun gl => ?_)
  rfl; rfl
  skip
  refine l_call ?_
  refine SXl.draw (ξ := Int) (v := fun x => .int .i64 x) rfl rfl rfl (fun x => x ∈ ([0, 0, 10, 64] : List Int)) (fun w hl => pick_d (l := ([0, 0, 10, 64] : List Int)) hl (by simp) (by simp)) (fun gap hg => ?_)
  refine SXl.drop1 ?_
  have hg2 : 0 ≤ gap ∧ gap ≤ 64 := by simp at hg; omega
  repeat ((refine l_move ?_; (refine SXl.v (OpW.move rfl) rfl ?_ ?_ ?_); rfl; rfl))
  refine l_buildSlice ?_
  refine SXl.lit (cells := ([640, 1000, 2000, 0, -1] : List Int).map (.int .i64)) (z := .int .i64 0) ?_ ?_ rfl (by decide) (by kernel_rfl) rfl (fun gl => ?_)
  rfl; rfl
  skip
  refine l_call ?_
  refine SXl.draw (ξ := Int) (v := fun x => .int .i64 x) rfl rfl rfl (fun x => x ∈ ([640, 1000, 2000, 0, -1] : List Int)) (fun w hl => pick_d (l := ([640, 1000, 2000, 0, -1] : List Int)) hl (by simp) (by simp)) (fun room hr => ?_)
  refine SXl.drop1 ?_
  have hr2 : -1 ≤ room ∧ room ≤ 2000 := by simp at hr; omega
  repeat ((refine l_move ?_; (refine SXl.v (OpW.move rfl) rfl ?_ ?_ ?_); rfl; rfl))
  refine l_call ?_
  refine SXl.draw (ξ := Int) (v := fun x : Int => .int .i64 x) rfl rfl rfl (fun x => 0 ≤ x ∧ x < 3) (fun w hl => below_d B gc w hl.inv 3 (by decide) (by decide)) (fun y hy => ?_)
  clear hy
  repeat (first | refine SXl.nil ?_ | refine SQ.thenNormal ?_ | (refine l_assign ?_; (refine SXl.v (OpW.assign rfl) rfl ?_ ?_ ?_); rfl; rfl) | (refine l_gtr ?_; (refine SXl.v (OpW.gtr rfl rfl) rfl ?_ ?_ ?_); rfl; rfl) | refine SX.ret ?_)
  refine SQ.bodyT4 rfl rfl rfl rfl rfl (fun w' hl => ⟨(q, gap, room, decide (0 < y)), rfl, ⟨hq, hg2, hr2⟩, hl.owns, hl.mod, hl.inv⟩)
set_option maxRecDepth 100000 in
set_option maxHeartbeats 8000000 in
theorem drawLinesOf_o (a : Option Addr) (len cap : Nat) (w : World) (hlen : len ≤ 1048576) (hy : Bytes w.heap.size w a len) :
    Calls Try.prog 9 #[.slice a len cap] w (NewO LineArgs LineArgs.v (fun q => q.1.os) LineArgs.ok w) := by
  refine calls_sx Try.func9 rfl rfl (fun a h1 h2 h3 => ((Fr.nil h1 h2).arg (h3 0 _ rfl))) ?_
  repeat (first | refine SX.seq ?_ | refine SXl.nil ?_ | refine SX.region ?_ | refine SQ.thenNormal ?_ | (refine l_move ?_; (refine SXl.v (OpW.move rfl) rfl ?_ ?_ ?_); rfl; rfl) | (refine l_assign ?_; (refine SXl.v (OpW.assign rfl) rfl ?_ ?_ ?_); rfl; rfl))
  refine l_call ?_
  refine SXl.newCur rfl rfl rfl (fun w hl => l01New_loc hlen hy hl) (fun gc => ?_)
  skip
  refine l_call ?_
  refine SXl.drawO 0 rfl rfl rfl rfl (fun w hl hc => l14Case_d _ _ w hc) (fun q hq => ?_)
  rw [List.append_nil]
  obtain ⟨q, gap, room, b⟩ := q
  simp only [LineArgs.v]
  repeat (first | refine SXl.nil ?_ | refine SQ.thenNormal ?_ | (refine l_assign ?_; (refine SXl.v (OpW.assign rfl) rfl ?_ ?_ ?_); rfl; rfl) | (refine l_extract ?_; (refine SXl.v (OpW.extract rfl rfl) rfl ?_ ?_ ?_); rfl; rfl) | refine SX.ret ?_)
  refine SQ.bodyT4 rfl rfl rfl rfl rfl (fun w' hl => ⟨(q, gap, room, b), rfl, hq, hl.owns, hl.mod⟩)
set_option maxRecDepth 100000 in
set_option maxHeartbeats 8000000 in
theorem drawLineItems_o (a : Option Addr) (len cap : Nat) (w : World) (hlen : len ≤ 1048576) (hy : Bytes w.heap.size w a len) :
    Calls Try.prog 18 #[.slice a len cap] w (NewO (ItemsQ × PLine) (fun q => .tuple #[q.1.v, lineV q.2]) (fun q => q.1.os ++ [lineO q.2]) (fun q => FitItems 13 q.1.xs ∧ q.2.1.length ≤ 5) w) := by
  refine calls_sx Try.func18 rfl rfl (fun a h1 h2 h3 => ((Fr.nil h1 h2).arg (h3 0 _ rfl))) ?_
  repeat (first | refine SX.seq ?_ | refine SXl.nil ?_ | refine SX.region ?_ | refine SQ.thenNormal ?_ | (refine l_move ?_; (refine SXl.v (OpW.move rfl) rfl ?_ ?_ ?_); rfl; rfl) | (refine l_assign ?_; (refine SXl.v (OpW.assign rfl) rfl ?_ ?_ ?_); rfl; rfl))
  refine l_call ?_
  refine SXl.newCur rfl rfl rfl (fun w hl => l01New_loc hlen hy hl) (fun gc => ?_)
  repeat (first | refine SX.seq ?_ | refine SXl.nil ?_ | refine SX.region ?_ | refine SQ.thenNormal ?_ | refine SX.block ?_ | (refine l_assign ?_; (refine SXl.v (OpW.assign rfl) rfl ?_ ?_ ?_); rfl; rfl) | (refine l_buildSlice ?_; first | (refine SXl.lit1 ?_ ?_ rfl rfl rfl (fun g => ?_); rfl; rfl) | (refine SXl.lit0 ?_ ?_ (fun _ h => h) rfl (fun g => ?_); rfl; rfl)))
  refine SX.loop3 (fun (k : Nat) (p : PLine) (_ : Unit) => k = p.1.length ∧ k ≤ 5) (fun k _ _ => 5 - k) (fun _ _ _ => []) (fun _ p _ => [lineO p]) (fun _ _ _ => [curRes 116 w gc]) (fun k p _ => [(4, .pointer (some ⟨gc, 0, none⟩)), (5, lineV p), (6, .int .i64 k)]) 0 ([], (_, _)) () ⟨rfl, Nat.zero_le _⟩ ?_ (fun _ hl => hl) ?_
  · (repeat (first | exact subF_nil _ | (refine subF_cons rfl ?_) | (refine subF_consv rfl (by rfl) ?_)))
  rintro k ⟨ln, pa, pc⟩ _ ⟨hk, hk5⟩
  simp only at hk
  simp only [lineV, lineO]
  repeat (first | refine SX.seq ?_ | refine SX.region ?_ | (refine l_move ?_; (refine SXl.v (OpW.move rfl) rfl ?_ ?_ ?_); rfl; rfl))
  refine l_call ?_
  refine SXl.drawC (ξ := Int) (v := fun x : Int => .int .i64 x) 0 rfl rfl rfl rfl (fun x => 0 ≤ x ∧ x < 5) (fun w hl hc => below_d _ _ w hc 5 (by decide) (by decide)) (fun y hy => ?_)
  by_cases hlt : (k : Int) < y
  · repeat (first | refine SX.seq ?_ | refine SXl.nil ?_ | refine SX.region ?_ | refine SQ.thenNormal ?_ | refine SX.block ?_ | refine SX.skip ?_ | refine SX.condT rfl ?_ | (refine l_move ?_; (refine SXl.v (OpW.move rfl) rfl ?_ ?_ ?_); rfl; rfl) | (refine l_lss ?_; (refine SXl.v (OpW.lssT rfl rfl (by omega)) rfl ?_ ?_ ?_); rfl; rfl))
    refine l_call ?_
    refine SXl.drawC (ξ := Int) (v := fun x : Int => .int .i64 x) 0 rfl rfl rfl rfl (fun x => 0 ≤ x ∧ x < 7) (fun w hl hc => below_d _ _ w hc 7 (by decide) (by decide)) (fun z hz => ?_)
    repeat (first | refine SXl.nil ?_ | refine SX.region ?_ | refine SQ.thenNormal ?_ | (refine l_move ?_; (refine SXl.v (OpW.move rfl) rfl ?_ ?_ ?_); rfl; rfl) | (refine l_assign ?_; (refine SXl.v (OpW.assign rfl) rfl ?_ ?_ ?_); rfl; rfl) | (refine l_add ?_; (refine SXl.v (OpW.succ rfl rfl (by omega)) rfl ?_ ?_ ?_); rfl; rfl) | (refine l_sub ?_; (refine SXl.v (OpW.subi rfl rfl (by omega) (by omega)) rfl ?_ ?_ ?_); rfl; rfl) | (refine l_buildSlice ?_; first | (refine SXl.lit1 ?_ ?_ rfl rfl rfl (fun g => ?_); rfl; rfl) | (refine SXl.lit0 ?_ ?_ (fun _ h => h) rfl (fun g => ?_); rfl; rfl)) | (refine l_append ?_; first | (refine SXl.append 0 0 rfl rfl rfl rfl rfl rfl rfl rfl (by omega) (by omega) (fun a c => ?_); simp only [List.set_cons_zero, List.set_cons_succ]) | (refine SXl.append 1 0 rfl rfl rfl rfl rfl rfl rfl rfl (by omega) (by omega) (fun a c => ?_); simp only [List.set_cons_zero, List.set_cons_succ])) | refine SQ.blockNormal ?_)
    rw [line_grown]
    refine SQ.round3 (k + 1) (ln ++ [z - 1], (a, c)) () ⟨by simp [hk], by omega⟩ (by omega) ?_ (fun w hl => hl.drop1)
    (repeat (first | exact subF_nil _ | (refine subF_cons rfl ?_) | (refine subF_consv rfl (by simp [lineV]) ?_)))
  · repeat (first | refine SX.seq ?_ | refine SXl.nil ?_ | refine SX.region ?_ | refine SQ.thenNormal ?_ | refine SX.condF rfl ?_ | (refine l_move ?_; (refine SXl.v (OpW.move rfl) rfl ?_ ?_ ?_); rfl; rfl) | (refine l_lss ?_; (refine SXl.v (OpW.lssF rfl rfl (by omega)) rfl ?_ ?_ ?_); rfl; rfl) | refine SX.exit ?_ | refine SQ.thenExit ?_ | refine SQ.blockExit ?_)
    refine l_call ?_
    refine SXl.drawO 0 rfl rfl rfl rfl (fun w hl hc => l13Any_d _ _ w hc) (fun q hq => ?_)
    repeat (first | refine SXl.nil ?_ | refine SQ.thenNormal ?_ | (refine l_move ?_; (refine SXl.v (OpW.move rfl) rfl ?_ ?_ ?_); rfl; rfl) | (refine l_assign ?_; (refine SXl.v (OpW.assign rfl) rfl ?_ ?_ ?_); rfl; rfl) | refine SX.ret ?_)
    refine SQ.body2 rfl rfl rfl (fun w' hl => ⟨(q, (ln, (pa, pc))), rfl, ⟨hq, by show ln.length ≤ 5; omega⟩, hl.owns, hl.mod⟩)
end Go.Proofs.Ytdohglcjjlmhhaa
namespace Go.Proofs.Ytdohglcjjlmhhaa
open Go.RowKit

theorem Style.len (s : Style) : s.cells.length = 60 := rfl
theorem Style.ones (s : Style) : s.cells.toArray.all (·.oneCell') = true := by simp [Style.cells, Value.oneCell']
@[go_sem] theorem Style.set54 (s : Style) (v : Int) : s.cells.set 54 (.int .i64 v) = Style.cells { s with border := { s.border with left := v } } := rfl
@[go_sem] theorem Style.set55 (s : Style) (v : Int) : s.cells.set 55 (.int .i64 v) = Style.cells { s with border := { s.border with top := v } } := rfl
@[go_sem] theorem Style.set56 (s : Style) (v : Int) : s.cells.set 56 (.int .i64 v) = Style.cells { s with border := { s.border with right := v } } := rfl
@[go_sem] theorem Style.set57 (s : Style) (v : Int) : s.cells.set 57 (.int .i64 v) = Style.cells { s with border := { s.border with bottom := v } } := rfl
@[go_sem] theorem Style.set58 (s : Style) (v : Int) : s.cells.set 58 (.int .i64 v) = Style.cells { s with rowGap := v } := rfl
@[go_sem] theorem Style.set59 (s : Style) (v : Int) : s.cells.set 59 (.int .i64 v) = Style.cells { s with colGap := v } := rfl
@[go_sem ↓] theorem exec_load_lStyle (ρ : Operand → Value) (d : Option Tmp) (x : Operand) (ty : TypeId) (pos : String) (af : Array Edge) (g : Option (Nat × Bool)) (w : World) :
    (execOp ρ { dst := d, op := .load 168 x, type := ty, pos, after := af, guard := g }).run Try.prog w = LoadS Try.prog 168 (ρ x) w := rfl
@[go_sem ↓] theorem exec_load_iStyle (ρ : Operand → Value) (d : Option Tmp) (x : Operand) (ty : TypeId) (pos : String) (af : Array Edge) (g : Option (Nat × Bool)) (w : World) :
    (execOp ρ { dst := d, op := .load 186 x, type := ty, pos, after := af, guard := g }).run Try.prog w = LoadS Try.prog 186 (ρ x) w := rfl
@[go_sem ↓] theorem exec_store_iStyle (ρ : Operand → Value) (d : Option Tmp) (x y : Operand) (ty : TypeId) (pos : String) (af : Array Edge) (g : Option (Nat × Bool)) (w : World) :
    (execOp ρ { dst := d, op := .store 186 x y, type := ty, pos, after := af, guard := g }).run Try.prog w = StoreS Try.prog 186 (ρ x) (ρ y) w := rfl
@[go_sem] theorem LoadS_lStyle {w : World} {b o : Nat} (h : hasRow w b o 60 = true) : LoadS Try.prog 168 (.pointer (some ⟨b, o, none⟩)) w = .ok (.value (.agg (rowOf w b o 60))) w := LoadS_row Try.underlying168 rfl (by kernel_rfl) h
@[go_sem] theorem LoadS_iStyle {w : World} {b o : Nat} (h : hasRow w b o 60 = true) : LoadS Try.prog 186 (.pointer (some ⟨b, o, none⟩)) w = .ok (.value (.agg (rowOf w b o 60))) w := LoadS_row Try.underlying186 rfl (by kernel_rfl) h
@[go_sem] theorem StoreS_iStyle {w : World} {b o : Nat} {s : Style} (h : hasRow w b o 60 = true) (hz : openRow w b = true) : StoreS Try.prog 186 (.pointer (some ⟨b, o, none⟩)) (.agg s.cells.toArray) w = .ok .skip (w.setCells b o s.cells) := StoreS_row (by kernel_rfl) h hz rfl (Style.ones s)

end Go.Proofs.Ytdohglcjjlmhhaa
namespace Go.Proofs.Ytdohglcjjlmhhaa
open Go.RowKit

end Go.Proofs.Ytdohglcjjlmhhaa
namespace Go.Proofs.Ytdohglcjjlmhhaa
open Go.RowKit

/-- The cells cs read as a datum of type t. -/
def Rd (P : Program) (w : World) (t : TypeId) (cs : List Value) : Prop :=
  ∃ (H : Type) (enc : TypeId × Value → H) (fuel : Nat) (x : DataW H × List MemPlace), DataW.trod enc P w 0 (fun _ => true) true fuel t cs = some x

section
variable {P : Program} {w : World} {t e : TypeId} {cs : List Value}
theorem Rd.int {k : IntKind} (h : Rd P w t cs) (hu : P.underlying t = some (.int k)) : ∃ n, cs = [.int k n] ∧ (Lit.int k n).wf = true := by
  obtain ⟨H, enc, fuel, x, h⟩ := h
  obtain ⟨n, h1, _, h2⟩ := DataW.trod_int hu h
  exact ⟨n, h1, h2⟩
theorem Rd.bool (h : Rd P w t cs) (hu : P.underlying t = some .bool) : ∃ b, cs = [.bool b] := by
  obtain ⟨H, enc, fuel, x, h⟩ := h
  obtain ⟨n, h1, _⟩ := DataW.trod_bool hu h
  exact ⟨n, h1⟩
theorem Rd.string (h : Rd P w t cs) (hu : P.underlying t = some .string) : ∃ s : ByteArray, cs = [.string s] ∧ s.size ≤ maxLen := by
  obtain ⟨H, enc, fuel, x, h⟩ := h
  obtain ⟨n, h1, _, h2⟩ := DataW.trod_string hu h
  exact ⟨n, h1, h2⟩
theorem Rd.struct {fs : Array Field} (h : Rd P w t cs) (hu : P.underlying t = some (.struct fs)) :
    cs.length = P.cellsOf t ∧ ∀ (i : Nat) (f : Field), fs[i]? = some f → Rd P w f.type ((cs.drop f.offset).take (P.cellsOf f.type)) := by
  obtain ⟨H, enc, fuel, x, h⟩ := h
  obtain ⟨xs, n, _, _, hl, hxl, hf⟩ := DataW.trod_struct hu h
  refine ⟨hl, fun i f hi => ?_⟩
  have h1 := hf i f hi
  have hil : i < xs.length := by rw [hxl]; exact (Array.getElem?_eq_some_iff.1 hi).1
  rw [List.getElem?_eq_getElem hil] at h1
  exact ⟨H, enc, n, _, h1⟩
theorem Rd.slice (h : Rd P w t cs) (hu : P.underlying t = some (.slice e)) (hc : 0 < P.cellsOf e) :
    ∃ (a : Option Addr) (len cap : Nat), cs = [.slice a len cap] ∧ len ≤ cap ∧ cap ≤ maxLen ∧
      (len = 0 ∨ ∃ b o, a = some ⟨b, o, none⟩ ∧ b < w.heap.size ∧ ∀ i, i < len → ∃ cs', (cs'.length = P.cellsOf e ∧ ∀ (j : Nat) (v : Value), cs'[j]? = some v → w.cell? ⟨b, o + i * P.cellsOf e + j, none⟩ = some v) ∧ Rd P w e cs') := by
  obtain ⟨H, enc, fuel, x, h⟩ := h
  rcases DataW.trod_slice hu h with ⟨h1, _⟩ | ⟨a, len, cap, elems, rest, n, _, h1, _, _, hl, hm, hlen, hel, _⟩
  · exact ⟨_, _, _, h1, Nat.le_refl _, Nat.zero_le _, .inl rfl⟩
  · refine ⟨some a, len, cap, h1, hl, hm, ?_⟩
    by_cases h0 : len = 0
    · exact .inl h0
    · have rows : ∀ i, i < len → ∃ cs', (cs'.length = P.cellsOf e ∧ ∀ (j : Nat), j < P.cellsOf e → w.cell? ((a.add (i * P.cellsOf e)).add j) = cs'[j]?) ∧ Rd P w e cs' := by
        intro i hi
        have h2 := hel i hi
        rw [List.getElem?_eq_getElem (by omega)] at h2
        obtain ⟨cs', h3, h4⟩ := Option.bind_eq_some_iff.1 h2
        obtain ⟨_, h5, h6⟩ := World.cells?_some h3
        exact ⟨cs', ⟨h5, h6⟩, H, enc, n, _, h4⟩
      obtain ⟨b, o, s⟩ := a
      have hs : s = none := by
        obtain ⟨cs', ⟨h5, h6⟩, _⟩ := rows 0 (by omega)
        have h7 := h6 0 hc
        rw [List.getElem?_eq_getElem (by omega)] at h7
        simpa [Addr.add] using World.cell?_spot h7
      subst hs
      have ea : ∀ p q r : Nat, ((⟨p, q, none⟩ : Addr).add r) = ⟨p, q + r, none⟩ := by intro p q r; unfold Addr.add; split <;> simp_all
      have hb : b < w.heap.size := by
        obtain ⟨cs', ⟨h5, h6⟩, _⟩ := rows 0 (by omega)
        have h7 := h6 0 hc
        rw [List.getElem?_eq_getElem (by omega), ea, ea] at h7
        exact World.block_lt_of_cell? w ⟨b, _, none⟩ h7
      refine .inr ⟨b, o, rfl, hb, fun i hi => ?_⟩
      obtain ⟨cs', ⟨h5, h6⟩, h7⟩ := rows i hi
      refine ⟨cs', ⟨h5, fun j v hj => ?_⟩, h7⟩
      have h8 := h6 j (by have := (List.getElem?_eq_some_iff.1 hj).1; omega)
      rw [ea, ea] at h8
      rw [h8, hj]
end

theorem rd_list {α : Type} {rep : List Value → α → Prop} {Q : Nat → List Value → Prop} (n : Nat) (h : ∀ i, i < n → ∃ cs, Q i cs ∧ ∃ x, rep cs x) :
    ∃ (rows : List (List Value)) (l : List α), rows.length = n ∧ l.length = n ∧ (∀ (i : Nat) (r : List Value), rows[i]? = some r → Q i r) ∧ ∀ (i : Nat) (r : List Value) (x : α), rows[i]? = some r → l[i]? = some x → rep r x := by
  induction n with
  | zero => exact ⟨[], [], rfl, rfl, fun i r h => by simp at h, fun i r x h => by simp at h⟩
  | succ n ih =>
    obtain ⟨rows, l, h1, h2, h3, h4⟩ := ih fun i hi => h i (by omega)
    obtain ⟨cs, hQ, x, hr⟩ := h n (by omega)
    refine ⟨rows ++ [cs], l ++ [x], by simp [h1], by simp [h2], fun i r hi => ?_, fun i r y hi hl => ?_⟩
    · by_cases e : i < rows.length
      · rw [List.getElem?_append_left e] at hi
        exact h3 i r hi
      · rw [List.getElem?_append_right (by omega)] at hi
        have : i = n := by
          have := (List.getElem?_eq_some_iff.1 hi).1
          simp at this
          omega
        subst this
        rw [h1, Nat.sub_self] at hi
        simp at hi
        subst hi
        exact hQ
    · by_cases e : i < rows.length
      · rw [List.getElem?_append_left e] at hi
        rw [List.getElem?_append_left (by omega)] at hl
        exact h4 i r y hi hl
      · rw [List.getElem?_append_right (by omega)] at hi
        rw [List.getElem?_append_right (by omega)] at hl
        have : i = n := by
          have := (List.getElem?_eq_some_iff.1 hi).1
          simp at this
          omega
        subst this
        rw [h1, Nat.sub_self] at hi
        rw [h2, Nat.sub_self] at hl
        simp at hi hl
        subst hi; subst hl
        exact hr

/-- A slice argument reads as a list. -/
theorem Rd.list {P : Program} {w : World} {t e : TypeId} {cs : List Value} {α : Type} {rep : World → List Value → α → Prop} {sz : Nat} (h : Rd P w t cs) (hu : P.underlying t = some (.slice e)) (hsz : P.cellsOf e = sz) (hp : 0 < sz)
    (hr : ∀ cs', Rd P w e cs' → ∃ x, rep w cs' x) :
    ∃ (a : Option Addr) (l : List α) (cap : Nat), cs = [.slice a l.length cap] ∧ l.length ≤ cap ∧ cap ≤ maxLen ∧ SliceAt rep sz (fun k => k < w.heap.size) w a l := by
  obtain ⟨a, len, cap, hcs, hl, hm, hrest⟩ := h.slice hu (by omega)
  rw [hsz] at hrest
  rcases hrest with h0 | ⟨b, o, rfl, hb, hrows⟩
  · subst h0
    exact ⟨a, [], cap, hcs, hl, hm, SliceAt.nil⟩
  · obtain ⟨rows, l, h1, h2, h3, h4⟩ := rd_list (rep := rep w) (Q := fun i cs' => cs'.length = sz ∧ ∀ (j : Nat) (v : Value), cs'[j]? = some v → w.cell? ⟨b, o + i * sz + j, none⟩ = some v) len
      fun i hi => by
        obtain ⟨cs', hQ, hrd⟩ := hrows i hi
        exact ⟨cs', hQ, hr cs' hrd⟩
    subst h2
    exact ⟨_, l, cap, hcs, hl, hm, rows, .inr ⟨b, o, rfl, hb, hb, h3⟩, h1, h4⟩

/-- A reading with a property of each element: the reading, and the property of all. -/
theorem SliceAt.split {α : Type} {cells : α → List Value} {p : α → Prop} {sz : Nat} {R : Nat → Prop} {w : World} {a : Option Addr} {l : List α} (h : SliceAt (fun _ r x => r = cells x ∧ p x) sz R w a l) :
    SliceAt (Flat cells) sz R w a l ∧ ∀ x ∈ l, p x := by
  obtain ⟨rows, h1, h2, h3⟩ := h
  refine ⟨⟨rows, h1, h2, fun i r x hr hx => (h3 i r x hr hx).1⟩, fun x hx => ?_⟩
  obtain ⟨i, hi, rfl⟩ := List.mem_iff_getElem.1 hx
  have hr : rows[i]? = some (rows[i]'(by omega)) := List.getElem?_eq_getElem (by omega)
  exact (h3 i _ _ hr (List.getElem?_eq_getElem hi)).2

end Go.Proofs.Ytdohglcjjlmhhaa
namespace Go.Proofs.Ytdohglcjjlmhhaa
open Go.RowKit

theorem tooBig_any (a : Option Addr) (len cap : Nat) (h : len ≤ 9223372036854775807) (w : World) : Calls Try.prog 8 #[.slice a len cap] w fun e w' => e = .returned (.bool (decide (1048576 < len))) ∧ w = w' := by
  by_cases hl : 1048576 < len
  · go_enter Try.func8, Try.ntmps8
    go_wp2
    go_ret
    exact ⟨ret_bool (by simp; omega), rfl⟩
  · go_enter Try.func8, Try.ntmps8
    go_wp2
    go_ret
    exact ⟨ret_bool (by simp; omega), rfl⟩

end Go.Proofs.Ytdohglcjjlmhhaa
namespace Go.Proofs.Ytdohglcjjlmhhaa
open Go.RowKit
set_option linter.unusedVariables false
set_option linter.unusedSimpArgs false

theorem bigT (a : Option Addr) {len : Nat} (cap : Nat) (hl : len ≤ maxLen) (h : 1048576 < len) (w : World) : Calls Try.prog 8 #[.slice a len cap] w fun e w' => e = .returned (.bool true) ∧ Mod (fun _ => False) w w' :=
  (tooBig_any a len cap (by unfold maxLen at hl; omega) w).mono fun e w' ⟨h1, h2⟩ => ⟨by rw [h1, decide_eq_true h], h2 ▸ Mod.refl _ _⟩
theorem bigF (a : Option Addr) {len : Nat} (cap : Nat) (hl : len ≤ maxLen) (h : ¬ 1048576 < len) (w : World) : Calls Try.prog 8 #[.slice a len cap] w fun e w' => e = .returned (.bool false) ∧ Mod (fun _ => False) w w' :=
  (tooBig_any a len cap (by unfold maxLen at hl; omega) w).mono fun e w' ⟨h1, h2⟩ => ⟨by rw [h1, decide_eq_false h], h2 ▸ Mod.refl _ _⟩
/-- A fact of no memory. -/
def factRes (K : Prop) : Res where
  foot := fun _ => False
  says := fun _ => K
  stable := fun _ _ _ h _ _ => h
theorem SXl.fact {P : Program} {n : Nat} {W : World} {R : Rg W} {L : List Blk} {O : List Own} {E : List Res} {f : List (Nat × Value)} {Q : Exit → Go.Act → World → Prop} {ops : Array Oper} {rest : List Oper} {K : Prop} (h : K → SXl P n W R ops L O E f rest Q) : SXl P n W R ops L O (factRes K :: E) f rest Q := ⟨fun a w hf hl => (h (hl.res _ (.head _)).1).run a w hf (hl.dropE)⟩

/-- The bytes of an argument, later. -/
theorem bytes_loc {W : World} {R : Rg W} {L : List Blk} {O : List Own} {E : List Res} {w : World} {a : Option Addr} {len : Nat} (hy : Bytes W.heap.size W a len) (hR : ∀ k, k < W.heap.size → ¬ R.p k) (hl : Loc W R L O E w) : Bytes w.heap.size w a len := by
  have := hy.same (w' := w) fun k hk => hl.mod.block k hk (hR k hk)
  rcases this with h | ⟨b, o, h1, h2, h3⟩
  · exact .inl h
  · exact .inr ⟨b, o, h1, Nat.lt_of_lt_of_le h2 hl.mod.size, h3⟩
end Go.Proofs.Ytdohglcjjlmhhaa
namespace Go.Proofs.Ytdohglcjjlmhhaa
open Go.RowKit

set_option maxRecDepth 100000 in
theorem lsameInts_any (x y : List Int) (a b : Option Addr) (c c' : Nat) (R S : Nat → Prop) (w : World) (hx : x.length ≤ 1048576) (hy : y.length ≤ 1048576) (h : IntSlice R w a x) (h' : IntSlice S w b y) :
    Calls Try.prog 13 #[.slice a x.length c, .slice b y.length c'] w fun e w' => e = .returned (.bool (decide (x = y))) ∧ Mod (fun _ => False) w w' := by
  refine calls_sx Try.func13 rfl rfl (fun a h1 h2 h3 => ((Fr.nil h1 h2).arg (h3 1 _ rfl)).arg (h3 0 _ rfl)) ?_
  repeat (first | refine SX.seq ?_ | refine SXl.nil ?_ | refine SX.region ?_ | refine SQ.thenNormal ?_ | (refine l_move ?_; (refine SXl.v (OpW.move rfl) rfl ?_ ?_ ?_); rfl; rfl) | (refine l_assign ?_; (refine SXl.v (OpW.assign rfl) rfl ?_ ?_ ?_); rfl; rfl) | (refine l_len ?_; (refine SXl.v (OpW.len rfl) rfl ?_ ?_ ?_); rfl; rfl) | (refine l_neq ?_; (refine SXl.v (OpW.neq rfl rfl) rfl ?_ ?_ ?_); rfl; rfl))
  refine SX.cond rfl (fun hc => ?_) (fun hc => ?_)
  · (try simp only [Bool.not_eq_true', Bool.not_eq_false', decide_eq_true_eq, decide_eq_false_iff_not, Bool.and_eq_true, Bool.or_eq_true, Bool.or_eq_false_iff, Bool.and_eq_false_iff, Int.ofNat_inj, Int.ofNat_lt, Int.ofNat_le] at hc)
    repeat (first | refine SX.seq ?_ | refine SXl.nil ?_ | refine SX.region ?_ | refine SQ.thenNormal ?_ | (refine l_assign ?_; (refine SXl.v (OpW.assign rfl) rfl ?_ ?_ ?_); rfl; rfl) | refine SX.ret ?_ | refine SQ.thenRet ?_)
    refine SQ.body1 rfl rfl (fun w' hl => ⟨ret_bool (by symm; simp; rintro rfl; exact hc rfl), hl.mod⟩)
  · (try simp only [Bool.not_eq_true', Bool.not_eq_false', decide_eq_true_eq, decide_eq_false_iff_not, Bool.and_eq_true, Bool.or_eq_true, Bool.or_eq_false_iff, Bool.and_eq_false_iff, Int.ofNat_inj, Int.ofNat_lt, Int.ofNat_le] at hc)
    repeat (first | refine SX.seq ?_ | refine SXl.nil ?_ | refine SX.region ?_ | refine SQ.thenNormal ?_ | refine SX.block ?_ | refine SX.skip ?_ | (refine l_assign ?_; (refine SXl.v (OpW.assign rfl) rfl ?_ ?_ ?_); rfl; rfl))
    refine SX.loopi (fun k : Nat => k ≤ x.length ∧ SameTo x y k) (fun k => x.length - k) (fun _ => []) (fun _ => []) (fun _ => []) (fun k => [(0, .slice a x.length c), (1, .slice b y.length c'), (5, .int .i64 k)]) 0 ⟨Nat.zero_le _, rfl⟩ ?_ (fun _ hl => hl) ?_
    · (repeat (first | exact subF_nil _ | (refine subF_cons rfl ?_) | (refine subF_consv rfl (by rfl) ?_)))
    · rintro k ⟨hk, hs⟩
      by_cases hlt : k < x.length
      · obtain ⟨b1, o1, u, rfl, _, _, hxk, hc1⟩ := IntSlice.get h hlt
        obtain ⟨b2, o2, v, rfl, _, _, hyk, hc2⟩ := IntSlice.get h' (hc ▸ hlt)
        repeat (first | refine SX.seq ?_ | refine SXl.nil ?_ | refine SX.region ?_ | refine SQ.thenNormal ?_ | refine SX.block ?_ | refine SX.skip ?_ | refine SX.condT rfl ?_ | (refine l_move ?_; (refine SXl.v (OpW.move rfl) rfl ?_ ?_ ?_); rfl; rfl) | (refine l_len ?_; (refine SXl.v (OpW.len rfl) rfl ?_ ?_ ?_); rfl; rfl) | (refine l_lss ?_; (refine SXl.v (OpW.lssT rfl rfl (by omega)) rfl ?_ ?_ ?_); rfl; rfl) | refine SX.drawn (by kernel_rfl) (by kernel_rfl) ?_ | refine SXr.nil ?_ | (refine r_load ?_; (refine SXr.v (OpW.loadOld rfl (by assumption) (fun h => h)) rfl ?_ ?_ ?_); rfl; rfl) | (refine r_move ?_; (refine SXr.v (OpW.move rfl) rfl ?_ ?_ ?_); rfl; rfl) | (refine r_neq ?_; (refine SXr.v (OpW.neq rfl rfl) rfl ?_ ?_ ?_); rfl; rfl) | (refine r_indexAddr ?_; (refine SXr.v (OpW.indexAddr1 (by omega) rfl rfl) rfl ?_ ?_ ?_); rfl; rfl))
        refine SX.cond rfl (fun hq => ?_) (fun hq => ?_)
        · (try simp only [Bool.not_eq_true', Bool.not_eq_false', decide_eq_true_eq, decide_eq_false_iff_not, Bool.and_eq_true, Bool.or_eq_true, Bool.or_eq_false_iff, Bool.and_eq_false_iff, Int.ofNat_inj, Int.ofNat_lt, Int.ofNat_le] at hq)
          repeat (first | refine SX.seq ?_ | refine SXl.nil ?_ | refine SX.region ?_ | refine SQ.thenNormal ?_ | (refine l_assign ?_; (refine SXl.v (OpW.assign rfl) rfl ?_ ?_ ?_); rfl; rfl) | refine SX.ret ?_ | refine SQ.thenRet ?_ | refine SQ.blockRet ?_)
          refine SQ.body1 rfl rfl (fun w' hl => ⟨ret_bool (by symm; simp; exact ne_at hxk hyk hq), hl.mod⟩)
        · (try simp only [Bool.not_eq_true', Bool.not_eq_false', decide_eq_true_eq, decide_eq_false_iff_not, Bool.and_eq_true, Bool.or_eq_true, Bool.or_eq_false_iff, Bool.and_eq_false_iff, Int.ofNat_inj, Int.ofNat_lt, Int.ofNat_le] at hq)
          repeat (first | refine SXl.nil ?_ | refine SX.region ?_ | refine SQ.thenNormal ?_ | refine SX.skip ?_ | (refine l_move ?_; (refine SXl.v (OpW.move rfl) rfl ?_ ?_ ?_); rfl; rfl) | (refine l_assign ?_; (refine SXl.v (OpW.assign rfl) rfl ?_ ?_ ?_); rfl; rfl) | (refine l_add ?_; (refine SXl.v (OpW.succ rfl rfl (by omega)) rfl ?_ ?_ ?_); rfl; rfl) | refine SQ.blockNormal ?_)
          refine SQ.roundi (k + 1) ⟨by omega, hs.succ hxk (hq ▸ hyk)⟩ (by omega) ?_ (fun _ hl => hl)
          (repeat (first | exact subF_nil _ | (refine subF_cons rfl ?_) | (refine subF_consv rfl (by rfl) ?_)))
      · repeat (first | refine SX.seq ?_ | refine SXl.nil ?_ | refine SX.region ?_ | refine SQ.thenNormal ?_ | refine SX.condF rfl ?_ | (refine l_move ?_; (refine SXl.v (OpW.move rfl) rfl ?_ ?_ ?_); rfl; rfl) | (refine l_assign ?_; (refine SXl.v (OpW.assign rfl) rfl ?_ ?_ ?_); rfl; rfl) | (refine l_len ?_; (refine SXl.v (OpW.len rfl) rfl ?_ ?_ ?_); rfl; rfl) | (refine l_lss ?_; (refine SXl.v (OpW.lssF rfl rfl (by omega)) rfl ?_ ?_ ?_); rfl; rfl) | refine SX.ret ?_ | refine SX.exit ?_ | refine SQ.thenExit ?_ | refine SQ.blockExit ?_)
        refine SQ.body1 rfl rfl (fun w' hl => ⟨ret_bool (by symm; simp; exact hs.all (by omega) (by omega)), hl.mod⟩)

end Go.Proofs.Ytdohglcjjlmhhaa
