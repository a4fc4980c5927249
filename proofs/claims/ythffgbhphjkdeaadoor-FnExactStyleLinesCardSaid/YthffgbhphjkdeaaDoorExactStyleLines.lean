/-
  PROVED: for every style the law FnExactStyleLines returns true. Condition: the library's tables, which the row lists, lie as the library's text lays them (tied).
-/
import Derived.Test.YthffgbhphjkdeaaDoorStyleLines
import Derived.Test.YthffgbhphjkdeaaDoorMarkT
import Derived.Test.YthffgbhphjkdeaaDoorStyle
import Derived.Test.YthffgbhphjkdeaaDoorDoorKit
namespace Go.Proofs.YthffgbhphjkdeaaDoor
open Go.RowKit
set_option linter.unusedVariables false
set_option linter.unusedSimpArgs false

theorem toStyleC (x : Style) (w : World) : Calls Tryd.prog 10 #[.agg x.cells.toArray] w fun e w' => e = .returned (.agg x.cells.toArray) ∧ Mod (fun _ => False) w w' := toStyle_any x w

set_option maxRecDepth 100000 in
set_option maxHeartbeats 8000000 in
theorem exactStyleLines_walk (w : World) (cs : Array Value) (rd : Rd Tryd.prog w 29 cs.toList) (ht : Tab w) (hsh : w.ShapedOpen Tryd.prog) :
    Calls Tryd.prog 3 #[.agg cs] w fun e w' => e = .returned (.bool true) ∧ Mod (fun _ => False) w w' := by
  have hz := num0 hsh
  clear hsh
  obtain ⟨s, e, hs⟩ := rdB_Style rd
  obtain rfl : cs = s.cells.toArray := by
    apply Array.toList_inj.1
    exact e
  clear rd e
  refine calls_sx Tryd.func3 rfl rfl (fun a h1 h2 h3 => ((Fr.nil h1 h2).arg (h3 0 _ rfl))) ?_
  have hrl := linesTo_len s 41
  have S1 : ∀ w, Num0 w → Tab w → Calls Tryd.prog 11 #[.agg s.cells.toArray] w (NewR SlP (fun q => .slice q.a (linesTo s 41).length q.c) (ownRes tcell 9 1 (linesTo s 41)) w) := fun w hz ht => (styleLines_any s hs w hz ht).mono fun _ _ h => new_own h
  have S2 : ∀ w, Calls Tryd.prog 9 #[.agg s.cells.toArray] w (NewR SlP (fun q => .slice q.a (linesTo s 41).length q.c) (ownRes tcell 9 1 (linesTo s 41)) w) := fun w => (sstyleLines_any s hs w).mono fun _ _ h => new_own h
  generalize linesTo s 41 = rs at hrl S1 S2
  have hll : rs.length ≤ 1048577 := by omega
  have hl63 : rs.length ≤ 9223372036854775807 := by omega
  have E1 : ∀ (a b : Option Addr) (c d : Nat) (R S : Nat → Prop) (w : World), TextSlice R w a rs → TextSlice S w b rs → Calls Tryd.prog 12 #[.slice a rs.length c, .slice b rs.length d] w fun e w' => e = .returned (.bool true) ∧ Mod (fun _ => False) w w' := fun a b c d R S w h h' => by
    have := eqStringS_any rs rs a b c d R S w hl63 hl63 h h'
    rwa [decide_eq_true rfl] at this
  repeat (first | refine SX.seq ?_ | refine SXl.nil ?_ | refine SX.region ?_ | refine SQ.thenNormal ?_ | refine SX.block ?_ | refine SX.skip ?_ | refine SX.condT rfl ?_ | refine SX.condF rfl ?_ | (refine l_call ?_; (first | refine SXl.v (OpW.call rfl (fun w hl => toStyleC _ _)) rfl ?_ ?_ ?_); rfl; rfl) | (refine l_load ?_; (first | refine SXl.v (OpW.loadAll 0 rfl rfl rfl) rfl ?_ ?_ ?_ | refine SXl.v (OpW.loadAll 1 rfl rfl rfl) rfl ?_ ?_ ?_ | refine SXl.v (OpW.loadAll 2 rfl rfl rfl) rfl ?_ ?_ ?_ | refine SXl.v (OpW.loadAll 3 rfl rfl rfl) rfl ?_ ?_ ?_ | refine SXl.v (OpW.loadRow 0 rfl rfl rfl rfl) rfl ?_ ?_ ?_ | refine SXl.v (OpW.loadRow 1 rfl rfl rfl rfl) rfl ?_ ?_ ?_ | refine SXl.v (OpW.loadRow 2 rfl rfl rfl rfl) rfl ?_ ?_ ?_ | refine SXl.v (OpW.loadRow 3 rfl rfl rfl rfl) rfl ?_ ?_ ?_); rfl; rfl) | (refine l_move ?_; (first | refine SXl.v (OpW.move rfl) rfl ?_ ?_ ?_); rfl; rfl) | (refine l_assign ?_; (first | refine SXl.v (OpW.assign rfl) rfl ?_ ?_ ?_); rfl; rfl) | (refine l_lss ?_; (first | refine SXl.v (OpW.lssT rfl rfl (by omega)) rfl ?_ ?_ ?_ | refine SXl.v (OpW.lssF rfl rfl (by omega)) rfl ?_ ?_ ?_ | refine SXl.v (OpW.lss rfl rfl) rfl ?_ ?_ ?_); rfl; rfl) | (refine l_neq ?_; (first | refine SXl.v (OpW.neqT rfl rfl (by omega)) rfl ?_ ?_ ?_ | refine SXl.v (OpW.neqF rfl rfl (by omega)) rfl ?_ ?_ ?_ | refine SXl.v (OpW.neq rfl rfl) rfl ?_ ?_ ?_); rfl; rfl) | (refine l_not ?_; (first | refine SXl.v (OpW.not rfl) rfl ?_ ?_ ?_); rfl; rfl) | (refine l_box ?_; refine SXl.box ?_ ?_ rfl rfl (fun g => ?_); rfl; rfl) | refine SX.ret ?_ | refine SX.exit ?_ | refine SQ.thenRet ?_ | refine SQ.thenExit ?_ | refine SQ.blockNormal ?_ | refine SQ.blockRet ?_ | refine SQ.blockExit ?_ | refine SQ.blockOther rfl ?_)
  refine l_call ?_
  refine SXl.calln1 (v := fun q => .slice q.a rs.length q.c) (F1 := ownRes tcell 9 1 rs) rfl rfl rfl (fun w hl => S2 _) (fun r0 => ?_)
  repeat (first | refine SX.seq ?_ | refine SXl.nil ?_ | refine SX.region ?_ | refine SQ.thenNormal ?_ | refine SX.block ?_ | refine SX.skip ?_ | refine SX.condT rfl ?_ | refine SX.condF rfl ?_ | (refine l_call ?_; (first | refine SXl.v (OpW.call rfl (fun w hl => toStyleC _ _)) rfl ?_ ?_ ?_); rfl; rfl) | (refine l_load ?_; (first | refine SXl.v (OpW.loadAll 0 rfl rfl rfl) rfl ?_ ?_ ?_ | refine SXl.v (OpW.loadAll 1 rfl rfl rfl) rfl ?_ ?_ ?_ | refine SXl.v (OpW.loadAll 2 rfl rfl rfl) rfl ?_ ?_ ?_ | refine SXl.v (OpW.loadAll 3 rfl rfl rfl) rfl ?_ ?_ ?_ | refine SXl.v (OpW.loadRow 0 rfl rfl rfl rfl) rfl ?_ ?_ ?_ | refine SXl.v (OpW.loadRow 1 rfl rfl rfl rfl) rfl ?_ ?_ ?_ | refine SXl.v (OpW.loadRow 2 rfl rfl rfl rfl) rfl ?_ ?_ ?_ | refine SXl.v (OpW.loadRow 3 rfl rfl rfl rfl) rfl ?_ ?_ ?_); rfl; rfl) | (refine l_move ?_; (first | refine SXl.v (OpW.move rfl) rfl ?_ ?_ ?_); rfl; rfl) | (refine l_assign ?_; (first | refine SXl.v (OpW.assign rfl) rfl ?_ ?_ ?_); rfl; rfl) | (refine l_lss ?_; (first | refine SXl.v (OpW.lssT rfl rfl (by omega)) rfl ?_ ?_ ?_ | refine SXl.v (OpW.lssF rfl rfl (by omega)) rfl ?_ ?_ ?_ | refine SXl.v (OpW.lss rfl rfl) rfl ?_ ?_ ?_); rfl; rfl) | (refine l_neq ?_; (first | refine SXl.v (OpW.neqT rfl rfl (by omega)) rfl ?_ ?_ ?_ | refine SXl.v (OpW.neqF rfl rfl (by omega)) rfl ?_ ?_ ?_ | refine SXl.v (OpW.neq rfl rfl) rfl ?_ ?_ ?_); rfl; rfl) | (refine l_not ?_; (first | refine SXl.v (OpW.not rfl) rfl ?_ ?_ ?_); rfl; rfl) | (refine l_box ?_; refine SXl.box ?_ ?_ rfl rfl (fun g => ?_); rfl; rfl) | refine SX.ret ?_ | refine SX.exit ?_ | refine SQ.thenRet ?_ | refine SQ.thenExit ?_ | refine SQ.blockNormal ?_ | refine SQ.blockRet ?_ | refine SQ.blockExit ?_ | refine SQ.blockOther rfl ?_)
  refine l_call ?_
  refine SXl.calln1 (v := fun q => .slice q.a rs.length q.c) (F1 := ownRes tcell 9 1 rs) rfl rfl rfl (fun w hl => S1 _ (hz.keep hl.mod) (ht.keep hl.mod)) (fun r1 => ?_)
  repeat (first | refine SX.seq ?_ | refine SXl.nil ?_ | refine SX.region ?_ | refine SQ.thenNormal ?_ | refine SX.block ?_ | refine SX.skip ?_ | refine SX.condT rfl ?_ | refine SX.condF rfl ?_ | (refine l_call ?_; (first | refine SXl.v (OpW.call rfl (fun w hl => E1 _ _ _ _ _ _ _ (own_in hl (.head _) (fun _ => rfl) (by decide)) (own_in hl (.tail _ (.head _)) (fun _ => rfl) (by decide)))) rfl ?_ ?_ ?_ | refine SXl.v (OpW.call rfl (fun w hl => toStyleC _ _)) rfl ?_ ?_ ?_); rfl; rfl) | (refine l_load ?_; (first | refine SXl.v (OpW.loadAll 0 rfl rfl rfl) rfl ?_ ?_ ?_ | refine SXl.v (OpW.loadAll 1 rfl rfl rfl) rfl ?_ ?_ ?_ | refine SXl.v (OpW.loadAll 2 rfl rfl rfl) rfl ?_ ?_ ?_ | refine SXl.v (OpW.loadAll 3 rfl rfl rfl) rfl ?_ ?_ ?_ | refine SXl.v (OpW.loadRow 0 rfl rfl rfl rfl) rfl ?_ ?_ ?_ | refine SXl.v (OpW.loadRow 1 rfl rfl rfl rfl) rfl ?_ ?_ ?_ | refine SXl.v (OpW.loadRow 2 rfl rfl rfl rfl) rfl ?_ ?_ ?_ | refine SXl.v (OpW.loadRow 3 rfl rfl rfl rfl) rfl ?_ ?_ ?_); rfl; rfl) | (refine l_move ?_; (first | refine SXl.v (OpW.move rfl) rfl ?_ ?_ ?_); rfl; rfl) | (refine l_assign ?_; (first | refine SXl.v (OpW.assign rfl) rfl ?_ ?_ ?_); rfl; rfl) | (refine l_lss ?_; (first | refine SXl.v (OpW.lssT rfl rfl (by omega)) rfl ?_ ?_ ?_ | refine SXl.v (OpW.lssF rfl rfl (by omega)) rfl ?_ ?_ ?_ | refine SXl.v (OpW.lss rfl rfl) rfl ?_ ?_ ?_); rfl; rfl) | (refine l_neq ?_; (first | refine SXl.v (OpW.neqT rfl rfl (by omega)) rfl ?_ ?_ ?_ | refine SXl.v (OpW.neqF rfl rfl (by omega)) rfl ?_ ?_ ?_ | refine SXl.v (OpW.neq rfl rfl) rfl ?_ ?_ ?_); rfl; rfl) | (refine l_not ?_; (first | refine SXl.v (OpW.not rfl) rfl ?_ ?_ ?_); rfl; rfl) | (refine l_box ?_; refine SXl.box ?_ ?_ rfl rfl (fun g => ?_); rfl; rfl) | refine SX.ret ?_ | refine SX.exit ?_ | refine SQ.thenRet ?_ | refine SQ.thenExit ?_ | refine SQ.blockNormal ?_ | refine SQ.blockRet ?_ | refine SQ.blockExit ?_ | refine SQ.blockOther rfl ?_)
  refine l_call ?_
  refine SXl.callM (ξ := Unit) (v := fun _ => .int .i64 (1 + rs.length)) (F' := fun _ => markedT rs r1) 0 rfl rfl rfl rfl (fun _ _ h => h) (fun _ => True) (fun w hl => markText_own rs r1 w hll (hl.res _ (.head _)).1) ?_
  intro _ _
  simp only [List.set_cons_zero, List.set_cons_succ]
  repeat (first | refine SX.seq ?_ | refine SXl.nil ?_ | refine SX.region ?_ | refine SQ.thenNormal ?_ | refine SX.block ?_ | refine SX.skip ?_ | refine SX.condT rfl ?_ | refine SX.condF rfl ?_ | (refine l_call ?_; (first | refine SXl.v (OpW.call rfl (fun w hl => heldText_own rs r1 _ hll (hl.res _ (.head _)).1)) rfl ?_ ?_ ?_ | refine SXl.v (OpW.call rfl (fun w hl => toStyleC _ _)) rfl ?_ ?_ ?_); rfl; rfl) | (refine l_load ?_; (first | refine SXl.v (OpW.loadAll 0 rfl rfl rfl) rfl ?_ ?_ ?_ | refine SXl.v (OpW.loadAll 1 rfl rfl rfl) rfl ?_ ?_ ?_ | refine SXl.v (OpW.loadAll 2 rfl rfl rfl) rfl ?_ ?_ ?_ | refine SXl.v (OpW.loadAll 3 rfl rfl rfl) rfl ?_ ?_ ?_ | refine SXl.v (OpW.loadRow 0 rfl rfl rfl rfl) rfl ?_ ?_ ?_ | refine SXl.v (OpW.loadRow 1 rfl rfl rfl rfl) rfl ?_ ?_ ?_ | refine SXl.v (OpW.loadRow 2 rfl rfl rfl rfl) rfl ?_ ?_ ?_ | refine SXl.v (OpW.loadRow 3 rfl rfl rfl rfl) rfl ?_ ?_ ?_); rfl; rfl) | (refine l_move ?_; (first | refine SXl.v (OpW.move rfl) rfl ?_ ?_ ?_); rfl; rfl) | (refine l_assign ?_; (first | refine SXl.v (OpW.assign rfl) rfl ?_ ?_ ?_); rfl; rfl) | (refine l_lss ?_; (first | refine SXl.v (OpW.lssT rfl rfl (by omega)) rfl ?_ ?_ ?_ | refine SXl.v (OpW.lssF rfl rfl (by omega)) rfl ?_ ?_ ?_ | refine SXl.v (OpW.lss rfl rfl) rfl ?_ ?_ ?_); rfl; rfl) | (refine l_neq ?_; (first | refine SXl.v (OpW.neqT rfl rfl (by omega)) rfl ?_ ?_ ?_ | refine SXl.v (OpW.neqF rfl rfl (by omega)) rfl ?_ ?_ ?_ | refine SXl.v (OpW.neq rfl rfl) rfl ?_ ?_ ?_); rfl; rfl) | (refine l_not ?_; (first | refine SXl.v (OpW.not rfl) rfl ?_ ?_ ?_); rfl; rfl) | (refine l_box ?_; refine SXl.box ?_ ?_ rfl rfl (fun g => ?_); rfl; rfl) | refine SX.ret ?_ | refine SX.exit ?_ | refine SQ.thenRet ?_ | refine SQ.thenExit ?_ | refine SQ.blockNormal ?_ | refine SQ.blockRet ?_ | refine SQ.blockExit ?_ | refine SQ.blockOther rfl ?_)
  refine l_call ?_
  refine SXl.calln1 (v := fun q => .slice q.a rs.length q.c) (F1 := ownRes tcell 9 1 rs) rfl rfl rfl (fun w hl => S1 _ (hz.keep hl.mod) (ht.keep hl.mod)) (fun r5 => ?_)
  repeat (first | refine SX.seq ?_ | refine SXl.nil ?_ | refine SX.region ?_ | refine SQ.thenNormal ?_ | refine SX.block ?_ | refine SX.skip ?_ | refine SX.condT rfl ?_ | refine SX.condF rfl ?_ | (refine l_call ?_; (first | refine SXl.v (OpW.call rfl (fun w hl => E1 _ _ _ _ _ _ _ (own_in hl (.head _) (fun _ => rfl) (by decide)) (own_in hl (.tail _ (.tail _ (.head _))) (fun _ => rfl) (by decide)))) rfl ?_ ?_ ?_ | refine SXl.v (OpW.call rfl (fun w hl => heldText_own rs r1 _ hll (hl.res _ (.tail _ (.head _))).1)) rfl ?_ ?_ ?_ | refine SXl.v (OpW.call rfl (fun w hl => toStyleC _ _)) rfl ?_ ?_ ?_); rfl; rfl) | (refine l_load ?_; (first | refine SXl.v (OpW.loadAll 0 rfl rfl rfl) rfl ?_ ?_ ?_ | refine SXl.v (OpW.loadAll 1 rfl rfl rfl) rfl ?_ ?_ ?_ | refine SXl.v (OpW.loadAll 2 rfl rfl rfl) rfl ?_ ?_ ?_ | refine SXl.v (OpW.loadAll 3 rfl rfl rfl) rfl ?_ ?_ ?_ | refine SXl.v (OpW.loadRow 0 rfl rfl rfl rfl) rfl ?_ ?_ ?_ | refine SXl.v (OpW.loadRow 1 rfl rfl rfl rfl) rfl ?_ ?_ ?_ | refine SXl.v (OpW.loadRow 2 rfl rfl rfl rfl) rfl ?_ ?_ ?_ | refine SXl.v (OpW.loadRow 3 rfl rfl rfl rfl) rfl ?_ ?_ ?_); rfl; rfl) | (refine l_move ?_; (first | refine SXl.v (OpW.move rfl) rfl ?_ ?_ ?_); rfl; rfl) | (refine l_assign ?_; (first | refine SXl.v (OpW.assign rfl) rfl ?_ ?_ ?_); rfl; rfl) | (refine l_lss ?_; (first | refine SXl.v (OpW.lssT rfl rfl (by omega)) rfl ?_ ?_ ?_ | refine SXl.v (OpW.lssF rfl rfl (by omega)) rfl ?_ ?_ ?_ | refine SXl.v (OpW.lss rfl rfl) rfl ?_ ?_ ?_); rfl; rfl) | (refine l_neq ?_; (first | refine SXl.v (OpW.neqT rfl rfl (by omega)) rfl ?_ ?_ ?_ | refine SXl.v (OpW.neqF rfl rfl (by omega)) rfl ?_ ?_ ?_ | refine SXl.v (OpW.neq rfl rfl) rfl ?_ ?_ ?_); rfl; rfl) | (refine l_not ?_; (first | refine SXl.v (OpW.not rfl) rfl ?_ ?_ ?_); rfl; rfl) | (refine l_box ?_; refine SXl.box ?_ ?_ rfl rfl (fun g => ?_); rfl; rfl) | refine SX.ret ?_ | refine SX.exit ?_ | refine SQ.thenRet ?_ | refine SQ.thenExit ?_ | refine SQ.blockNormal ?_ | refine SQ.blockRet ?_ | refine SQ.blockExit ?_ | refine SQ.blockOther rfl ?_)
  refine SQ.body1 rfl rfl (fun w' hl => ⟨rfl, hl.mod⟩)

/-! ### The row's frame (the kit's PinupProofs, turned) -/
namespace fnExactStyleLines
open Go.ChangeShapes Go.WideShapes Go.ChangeAt Go.RowKit
set_option linter.unusedVariables false

theorem own : ownKnob Tryd.prog.godebug = none := by kernel_rfl
theorem laidOut : laidOutB Tryd.prog = true := by kernel_rfl
theorem tab {W : World} (h : laidMetH Tryd.prog Rows.fnExactStyleLinesRow.laid W) : Tab W := by
  rw [MakeChecks.laidMetH_plain _ _ _ (by kernel_rfl)] at h
  exact Lib.tabIs_of_head (rest := _) tab_global tab_type Tryd.underlying239 Tryd.underlying200 (by kernel_rfl) (by kernel_rfl) h.tail.tail

set_option maxRecDepth 100000 in
theorem lifted (os : Os) (started : os.Started) (H : Type) (enc : TypeId × Value → H) (F : Stop.Interp) :
    ReturnsInHanded {} Tryd.checked os 3 .any ((OpenSpec.ofChange Rows.fnExactStyleLinesSpec).preRow enc Tryd.prog Tryd.f3 Rows.fnExactStyleLinesRow.domain false Rows.fnExactStyleLinesRow.laid) (((OpenSpec.ofChange Rows.fnExactStyleLinesSpec).at F).post enc Tryd.prog Tryd.f3 false true false false) := by
  refine returnsInHanded_of_row (C := Tryd.checked) (s := OpenSpec.ofChange Rows.fnExactStyleLinesSpec) own started (by kernel_rfl) Tryd.func3
    (ChangeSpec.witness_shaped (enc := enc) (C := Tryd.checked) (os := os) (s := Rows.fnExactStyleLinesSpec) (X := fun w _ => laidMetH Tryd.prog Rows.fnExactStyleLinesRow.laid w) false (World.laidAll Tryd.prog os Rows.fnExactStyleLinesRow.laid) #[.agg #[.int .i64 0, .int .i64 0, .int .i64 0, .int .i64 0, .int .i64 0, .int .i64 0, .bool false, .bool false, .int .i64 0, .int .i64 0, .int .i64 0, .int .i64 0, .int .i64 0, .int .i64 0, .int .i64 0, .int .i64 0, .int .i64 0, .int .i64 0, .int .i64 0, .int .i64 0, .int .i64 0, .int .i64 0, .int .i64 0, .int .i64 0, .int .i64 0, .int .i64 0, .int .i64 0, .int .i64 0, .int .i64 0, .int .i64 0, .int .i64 0, .int .i64 0, .int .i64 0, .int .i64 0, .int .i64 0, .int .i64 0, .int .i64 0, .int .i64 0, .int .i64 0, .int .i64 0, .int .i64 0, .int .i64 0, .int .i64 0, .int .i64 0, .int .i64 0, .int .i64 0, .int .i64 0, .int .i64 0, .int .i64 0, .int .i64 0, .int .i64 0, .int .i64 0, .int .i64 0, .int .i64 0, .int .i64 0, .int .i64 0, .int .i64 0, .int .i64 0, .int .i64 0, .int .i64 0]] 8 (World.laidAll_os _ _ _)
      (World.shaped_of_ZipB (by kernel_rfl) (by kernel_rfl)) (by kernel_rfl) (by kernel_rfl) (by kernel_rfl)
      (by rw [MakeChecks.laidMetH_plain _ _ _ (by kernel_rfl)]; exact laidMet_laidAll _ (by kernel_rfl) (by kernel_rfl))) ?_
  intro W base args ds gs before hval0 hW _ _ _ hL hsh _
  have hval : ∀ (j : Nat) t v, Tryd.f3.params[j]? = some t → args[j]? = some v → Value.okWide Tryd.prog W .any base t v := hval0
  have hW' := hW
  obtain ⟨p, q, hA0, hV, rfl, hfz, hnd⟩ := hW
  have hA : DataW.TrodAll enc Tryd.prog W 0 (fun _ => true) true Tryd.f3.params.toList args.toList ds p := hA0
  rw [Tryd.params3] at hA hval
  obtain ⟨v0, vs0, d0, ds0, p0, q0, hargs, rfl, rfl, h0, r0⟩ := trodAll_cons hA
  obtain ⟨rfl, rfl, rfl⟩ := trodAll_nil r0
  obtain rfl : args = #[v0] := by cases args; simp_all
  obtain ⟨rfl, rfl⟩ := trodVars_none hV
  have k0 := h0
  have lt0 : ∀ x ∈ p0, x.block < W.heap.size := by obtain ⟨m, hm⟩ := k0; exact DataW.trod_lt m _ _ _ hm
  obtain ⟨cs0, rfl, _⟩ := okWide_struct Tryd.underlying29 (hval 0 29 v0 rfl rfl)
  have rd0 : Rd Tryd.prog W 29 cs0.toList := by obtain ⟨m, hm⟩ := k0; exact ⟨H, enc, m, _, hm⟩
  clear hA0 hval0
  refine (exactStyleLines_walk W cs0 rd0 (tab hL) hsh).mono fun e W' ⟨he, hm⟩ => ?_
  have bel := hm.below (Nat.le_refl _) fun _ _ h => h
  subst he
  exact ⟨_, rfl, _, _, _, [], _, [], hW', trodAll_mk1 (shut_bool Tryd.underlying4 _), (trodAll_cons_mk (Below.trod laidOut (by kernel_rfl) (of_decide_eq_true (by kernel_rfl)) k0 bel lt0) trodAll_mk0), rfl, bel.frame _, fun h => by cases h⟩

theorem over : Rows.fnExactStyleLinesRow.holds Tryd.pinned (OpenSpec.ofChange Rows.fnExactStyleLinesSpec) :=
  OpenClaim.holds_of_wide 3 Tryd.f3 rfl rfl rfl rfl rfl rfl rfl ⟨rfl, rfl, rfl, rfl, rfl⟩ rfl rfl rfl rfl rfl (by kernel_rfl) Tryd.func3 (by kernel_rfl)
    (of_decide_eq_true (by kernel_rfl)) (by unfold Func.isWrapper; first | (rw [if_pos (by decide +kernel)]; kernel_rfl) | (rw [if_neg (by decide +kernel)]; exact ⟨rfl, rfl⟩))
    (fun os started H enc _ => by rw [OpenClaim.pre_eq_preRow]; exact lifted os started H enc (fun _ _ _ => 0))
theorem plain (f : FuncId) (fn : Func) (hf : Tryd.pinned.checked.prog.funcNamed "loop.example/g00972/laws.FnExactStyleLines" = some f) (hfn : Tryd.pinned.checked.prog.funcs[f]? = some fn) :
    true = Tryd.pinned.checked.prog.looks [] ∧ ∀ (j : Nat) t, fn.params[j]? = some t → Tryd.pinned.checked.prog.wantsStandIn t = false := by
  obtain rfl : f = 3 := Option.some.inj ((show Tryd.prog.funcNamed "loop.example/g00972/laws.FnExactStyleLines" = some 3 by kernel_rfl).symm.trans hf) |>.symm
  obtain rfl : fn = Tryd.f3 := (Option.some.inj (Tryd.func3.symm.trans hfn)).symm
  refine ⟨by kernel_rfl, fun j t ht => ?_⟩
  rw [Tryd.params3] at ht
  have hm : t ∈ [29] := by simpa using Array.mem_of_getElem? ht
  have hall : ([29].all fun u => !Tryd.prog.wantsStandIn u) = true := by kernel_rfl
  exact (show Tryd.prog.wantsStandIn t = false by simpa using List.all_eq_true.1 hall t hm)

theorem proved : Rows.FnExactStyleLinesCardSaid :=
  Claim7.holds_tied_plain_at .later [] [.data, .data, .data, .data, .pinned] true (true, "cfc6c1cf917ce3b6e9c18aedc7441012a1a2f043c771b34ea38ed431c219914b") true over (fun _ h => by cases h) (by kernel_rfl) (fun _ h => by cases h) fnExactStyleLines_row_tie rfl ⟨rfl, rfl⟩ (by kernel_rfl) rfl plain (by kernel_rfl)
#print axioms proved
end fnExactStyleLines


end Go.Proofs.YthffgbhphjkdeaaDoor
