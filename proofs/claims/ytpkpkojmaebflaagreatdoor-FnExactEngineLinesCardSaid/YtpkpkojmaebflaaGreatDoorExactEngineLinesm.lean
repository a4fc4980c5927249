/-
  PROVED: for every engine the law FnExactEngineLines returns true. Condition: the library's tables, which the row lists, lie as the library's text lays them (tied).
-/
import Derived.Test.YtpkpkojmaebflaaGreatDoorMLf
set_option linter.unusedVariables false
set_option linter.unusedSimpArgs false
namespace Go.Proofs.YtpkpkojmaebflaaGreatDoor
open Go.RowKit
set_option linter.unusedVariables false
set_option linter.unusedSimpArgs false

set_option maxRecDepth 100000 in
set_option maxHeartbeats 8000000 in
theorem exactEngineLines_walk (w : World) (cs : Array Value) (rd : Rd Tryz.prog w 31 cs.toList) (ht : Tab w) :
    Calls Tryz.prog 3 #[.agg cs] w fun e w' => e = .returned (.bool true) ∧ Mod (fun _ => False) w w' := by
  obtain ⟨x, hx, HF, hmok, hfok⟩ := rd_EngineOk rd
  obtain ⟨ta, tc, ka, kc, kb, kd, fa, fc, e, H⟩ := hx.lit
  obtain rfl : cs = [.slice ta x.tree.length tc, .slice ka x.kept.memos.length kc, .slice kb x.kept.asked.length kd, .slice fa x.frames.length fc, .int .i64 x.root, .int .i64 x.wide, .int .i64 x.high, .bool x.rtl].toArray := Array.toList_inj.1 e
  clear hx e rd
  refine calls_sx Tryz.func3 rfl rfl (fun a h1 h2 h3 => ((Fr.nil h1 h2).arg (h3 0 _ rfl))) ?_
  by_cases hb : (1048576 : Int) < x.cost
  · repeat (first | refine SX.seq ?_ | refine SXl.nil ?_ | refine SX.region ?_ | refine SQ.thenNormal ?_ | refine SX.condT rfl ?_ | (refine l_call ?_; (refine SXl.v (OpW.call rfl (fun w hl => szEngine_less (by omega) (by omega) HF hb (H.keep hl.mod))) rfl ?_ ?_ ?_); rfl; rfl) | (refine l_load ?_; (refine SXl.v (OpW.loadAll 0 rfl rfl rfl) rfl ?_ ?_ ?_); rfl; rfl) | (refine l_move ?_; (refine SXl.v (OpW.move rfl) rfl ?_ ?_ ?_); rfl; rfl) | (refine l_assign ?_; (refine SXl.v (OpW.assign rfl) rfl ?_ ?_ ?_); rfl; rfl) | (refine l_lss ?_; (refine SXl.v (OpW.lssT rfl rfl (by omega)) rfl ?_ ?_ ?_); rfl; rfl) | (refine l_box ?_; refine SXl.box ?_ ?_ rfl rfl (fun g => ?_); rfl; rfl) | refine SX.ret ?_ | refine SQ.thenRet ?_)
    refine SQ.body1 rfl rfl (fun w' hl => ⟨rfl, hl.mod⟩)
  have F := Engine.fits_of (x := x) (n := 1048576) (by omega)
  have hb1 : (x.cost : Int) ≤ 1048576 := by omega
  have hll := engineLines_len x (by omega)
  have S1 : ∀ (q : EngP) (R : Nat → Prop) (w : World), EngineIn true R w (engL x q) x → Tab w → Calls Tryz.prog 7 #[.agg (engL x q).toArray] w (NewR SlP (fun q => .slice q.a (engineLines x).length q.c) (ownRes tcell 9 1 (engineLines x)) w) := fun q R w h ht => (engineLines_any x q R w F (by omega) hmok hfok h ht).mono fun _ _ h => new_own h
  have S2 : ∀ (q : EngP) (R : Nat → Prop) (w : World), EngineIn true R w (engL x q) x → Calls Tryz.prog 5 #[.agg (engL x q).toArray] w (NewR SlP (fun q => .slice q.a (engineLines x).length q.c) (ownRes tcell 9 1 (engineLines x)) w) := fun q R w h => (sengineLines_any x q R w F (by omega) hmok hfok h).mono fun _ _ h => new_own h
  generalize engineLines x = rs at hll S1 S2
  have hl63 : rs.length ≤ 9223372036854775807 := by omega
  have E1 : ∀ (a b : Option Addr) (c d : Nat) (R S : Nat → Prop) (w : World), TextSlice R w a rs → TextSlice S w b rs → Calls Tryz.prog 8 #[.slice a rs.length c, .slice b rs.length d] w fun e w' => e = .returned (.bool true) ∧ Mod (fun _ => False) w w' := fun a b c d R S w h h' => by
    have := eqStringS_any rs rs a b c d R S w hl63 hl63 h h'
    rwa [decide_eq_true rfl] at this
  repeat (first | refine SX.seq ?_ | refine SXl.nil ?_ | refine SX.region ?_ | refine SQ.thenNormal ?_ | refine SX.skip ?_ | refine SX.condF rfl ?_ | (refine l_call ?_; (refine SXl.v (OpW.call rfl (fun w hl => szEngine_more (by omega) (by omega) HF hb1 (H.keep hl.mod))) rfl ?_ ?_ ?_); rfl; rfl) | (refine l_load ?_; (refine SXl.v (OpW.loadAll 0 rfl rfl rfl) rfl ?_ ?_ ?_); rfl; rfl) | (refine l_move ?_; (refine SXl.v (OpW.move rfl) rfl ?_ ?_ ?_); rfl; rfl) | (refine l_assign ?_; (refine SXl.v (OpW.assign rfl) rfl ?_ ?_ ?_); rfl; rfl) | (refine l_lss ?_; (refine SXl.v (OpW.lssF rfl rfl (by omega)) rfl ?_ ?_ ?_); rfl; rfl) | (refine l_box ?_; refine SXl.box ?_ ?_ rfl rfl (fun g => ?_); rfl; rfl))
  refine l_call ?_
  refine SXl.calln1 (ξ := EngP) (v := fun q => .agg (engL x q).toArray) (F1 := engRes x) rfl rfl rfl (fun w hl => toEngine_new x false _ _ _ F (H.keep hl.mod)) (fun qa => ?_)
  skip
  refine l_call ?_
  refine SXl.calln1 (v := fun q => .slice q.a rs.length q.c) (F1 := ownRes tcell 9 1 rs) rfl rfl rfl (fun w hl => S2 qa _ _ (hl.res _ (.head _)).1) (fun r0 => ?_)
  repeat (first | refine SX.seq ?_ | refine SXl.nil ?_ | refine SX.region ?_ | refine SQ.thenNormal ?_ | (refine l_load ?_; (refine SXl.v (OpW.loadAll 0 rfl rfl rfl) rfl ?_ ?_ ?_); rfl; rfl) | (refine l_assign ?_; (refine SXl.v (OpW.assign rfl) rfl ?_ ?_ ?_); rfl; rfl))
  refine l_call ?_
  refine SXl.calln1 (ξ := EngP) (v := fun q => .agg (engL x q).toArray) (F1 := engRes x) rfl rfl rfl (fun w hl => toEngine_new x false _ _ _ F (H.keep hl.mod)) (fun q1 => ?_)
  repeat (first | refine SX.seq ?_ | refine SXl.nil ?_ | refine SX.region ?_ | refine SQ.thenNormal ?_ | (refine l_load ?_; (refine SXl.v (OpW.loadAll 0 rfl rfl rfl) rfl ?_ ?_ ?_); rfl; rfl) | (refine l_alloc ?_; refine SXl.alloc ?_ ?_ (fun g => ?_); rfl; rfl) | (refine l_store ?_; first | (refine SXl.storeAll 0 ?_ rfl rfl rfl rfl rfl rfl rfl ?_; rfl; simp only [List.set_cons_zero, List.set_cons_succ]) | (refine SXl.storeAll 1 ?_ rfl rfl rfl rfl rfl rfl rfl ?_; rfl; simp only [List.set_cons_zero, List.set_cons_succ]) | (refine SXl.storeAll 2 ?_ rfl rfl rfl rfl rfl rfl rfl ?_; rfl; simp only [List.set_cons_zero, List.set_cons_succ]) | (refine SXl.storeRow 0 ?_ rfl rfl rfl rfl rfl rfl rfl ?_; rfl; simp only [over, List.set_cons_zero, List.set_cons_succ]) | (refine SXl.storeRow 1 ?_ rfl rfl rfl rfl rfl rfl rfl ?_; rfl; simp only [over, List.set_cons_zero, List.set_cons_succ]) | (refine SXl.storeRow 2 ?_ rfl rfl rfl rfl rfl rfl rfl ?_; rfl; simp only [over, List.set_cons_zero, List.set_cons_succ])))
  refine l_call ?_
  refine SXl.calln1 (v := fun q => .slice q.a rs.length q.c) (F1 := ownRes tcell 9 1 rs) rfl rfl rfl (fun w hl => S1 q1 _ _ (hl.res _ (.head _)).1 (ht.keep hl.mod)) (fun r1 => ?_)
  repeat (first | refine SX.seq ?_ | refine SXl.nil ?_ | refine SX.region ?_ | refine SQ.thenNormal ?_ | refine SX.skip ?_ | refine SX.condF rfl ?_ | (refine l_call ?_; (refine SXl.v (OpW.call rfl (fun w hl => E1 _ _ _ _ _ _ _ (own_in hl (.head _) (fun _ => rfl) (by decide)) (own_in hl (.tail _ (.tail _ (.head _))) (fun _ => rfl) (by decide)))) rfl ?_ ?_ ?_); rfl; rfl) | (refine l_move ?_; (refine SXl.v (OpW.move rfl) rfl ?_ ?_ ?_); rfl; rfl) | (refine l_assign ?_; (refine SXl.v (OpW.assign rfl) rfl ?_ ?_ ?_); rfl; rfl) | (refine l_not ?_; (refine SXl.v (OpW.not rfl) rfl ?_ ?_ ?_); rfl; rfl))
  refine SX.drawnU (by kernel_rfl) (by kernel_rfl) ?_
  repeat (first | (refine SXu.new (EngAt x) (fun _ _ _ h hm => h.keep hm) (fun _ => rfl) rfl (fun _ => rfl) (fun w hl => toEngine_at x false _ _ _ F (H.keep hl.mod)) ?_) | (refine SXu.v (fun _ => (OpW.loadAll 0 rfl rfl rfl)) rfl (fun _ => rfl) rfl ?_) | (refine SXu.v (fun _ => (OpW.loadAll 1 rfl rfl rfl)) rfl (fun _ => rfl) rfl ?_))
  refine SXu.use (v := .bool true) [2] (by kernel_rfl) (fun _ => rfl) rfl (fun _ => rfl) (fun xq w hl hK => ?_) ?_
  · obtain ⟨c2, h2, o2, R2, s2⟩ := hK _ List.mem_cons_self (by simp)
    simp only at h2
    rw [h2]
    exact eqEngine_same x true o2 (engL x q1) c2 _ R2 w F (engRes_in hl (.tail _ (.head _))) s2
  repeat (first | refine SXu.nil (fun xq => ?_) | (refine SXu.v (fun _ => (OpW.not rfl)) rfl (fun _ => rfl) rfl ?_))
  repeat (first | refine SX.seq ?_ | refine SXl.nil ?_ | refine SX.region ?_ | refine SQ.thenNormal ?_ | refine SX.skip ?_ | refine SX.condF rfl ?_ | (refine l_load ?_; (refine SXl.v (OpW.loadAll 0 rfl rfl rfl) rfl ?_ ?_ ?_); rfl; rfl) | (refine l_move ?_; (refine SXl.v (OpW.move rfl) rfl ?_ ?_ ?_); rfl; rfl) | (refine l_assign ?_; (refine SXl.v (OpW.assign rfl) rfl ?_ ?_ ?_); rfl; rfl))
  refine l_call ?_
  refine SXl.callM (ξ := Int) (v := fun p => .int .i64 p) (F' := fun _ => deadRes) 1 rfl rfl rfl rfl (fun _ _ h => h.elim) (fun p => 1 ≤ p) (fun w hl => markEngine_own x q1 w F (engRes_in hl (.tail _ (.head _)))) ?_
  intro p hp
  simp only [List.set_cons_zero, List.set_cons_succ]
  repeat (first | refine SX.seq ?_ | refine SXl.nil ?_ | refine SX.region ?_ | refine SQ.thenNormal ?_ | refine SX.skip ?_ | refine SX.condF rfl ?_ | (refine l_call ?_; (refine SXl.v (OpW.call rfl (fun w hl => E1 _ _ _ _ _ _ _ (own_in hl (.head _) (fun _ => rfl) (by decide)) (own_in hl (.tail _ (.tail _ (.head _))) (fun _ => rfl) (by decide)))) rfl ?_ ?_ ?_); rfl; rfl) | (refine l_move ?_; (refine SXl.v (OpW.move rfl) rfl ?_ ?_ ?_); rfl; rfl) | (refine l_assign ?_; (refine SXl.v (OpW.assign rfl) rfl ?_ ?_ ?_); rfl; rfl) | (refine l_lss ?_; (refine SXl.v (OpW.lssF rfl rfl (by omega)) rfl ?_ ?_ ?_); rfl; rfl) | (refine l_not ?_; (refine SXl.v (OpW.not rfl) rfl ?_ ?_ ?_); rfl; rfl) | (refine l_pick ?_; (refine SXl.v (OpW.pick rfl rfl rfl) rfl ?_ ?_ ?_); rfl; rfl))
  refine l_call ?_
  refine SXl.callM (ξ := Unit) (v := fun _ => .int .i64 (1 + rs.length)) (F' := fun _ => markedT rs r1) 0 rfl rfl rfl rfl (fun _ _ h => h) (fun _ => True) (fun w hl => markText_own rs r1 w hll (hl.res _ (.head _)).1) ?_
  intro _ _
  simp only [List.set_cons_zero, List.set_cons_succ]
  repeat (first | refine SX.seq ?_ | refine SXl.nil ?_ | refine SX.region ?_ | refine SQ.thenNormal ?_ | refine SX.skip ?_ | refine SX.condF rfl ?_ | (refine l_call ?_; (refine SXl.v (OpW.call rfl (fun w hl => heldText_own rs r1 _ hll (hl.res _ (.head _)).1)) rfl ?_ ?_ ?_); rfl; rfl) | (refine l_load ?_; (refine SXl.v (OpW.loadAll 1 rfl rfl rfl) rfl ?_ ?_ ?_); rfl; rfl) | (refine l_move ?_; (refine SXl.v (OpW.move rfl) rfl ?_ ?_ ?_); rfl; rfl) | (refine l_assign ?_; (refine SXl.v (OpW.assign rfl) rfl ?_ ?_ ?_); rfl; rfl) | (refine l_lss ?_; (refine SXl.v (OpW.lssF rfl rfl (by omega)) rfl ?_ ?_ ?_); rfl; rfl) | (refine l_neq ?_; (refine SXl.v (OpW.neqF rfl rfl (by omega)) rfl ?_ ?_ ?_); rfl; rfl))
  refine l_call ?_
  refine SXl.calln1 (ξ := EngP) (v := fun q => .agg (engL x q).toArray) (F1 := engRes x) rfl rfl rfl (fun w hl => toEngine_new x false _ _ _ F (H.keep hl.mod)) (fun q5 => ?_)
  skip
  refine l_call ?_
  refine SXl.calln1 (v := fun q => .slice q.a rs.length q.c) (F1 := ownRes tcell 9 1 rs) rfl rfl rfl (fun w hl => S1 q5 _ _ (hl.res _ (.head _)).1 (ht.keep hl.mod)) (fun r5 => ?_)
  repeat (first | refine SX.seq ?_ | refine SXl.nil ?_ | refine SX.region ?_ | refine SQ.thenNormal ?_ | refine SX.skip ?_ | refine SX.condF rfl ?_ | (refine l_call ?_; (first | refine SXl.v (OpW.call rfl (fun w hl => E1 _ _ _ _ _ _ _ (own_in hl (.head _) (fun _ => rfl) (by decide)) (own_in hl (.tail _ (.tail _ (.tail _ (.tail _ (.head _))))) (fun _ => rfl) (by decide)))) rfl ?_ ?_ ?_ | refine SXl.v (OpW.call rfl (fun w hl => heldText_own rs r1 _ hll (hl.res _ (.tail _ (.tail _ (.head _)))).1)) rfl ?_ ?_ ?_); rfl; rfl) | (refine l_move ?_; (refine SXl.v (OpW.move rfl) rfl ?_ ?_ ?_); rfl; rfl) | (refine l_assign ?_; (refine SXl.v (OpW.assign rfl) rfl ?_ ?_ ?_); rfl; rfl) | (refine l_lss ?_; (refine SXl.v (OpW.lssF rfl rfl (by omega)) rfl ?_ ?_ ?_); rfl; rfl) | (refine l_neq ?_; (refine SXl.v (OpW.neqF rfl rfl (by omega)) rfl ?_ ?_ ?_); rfl; rfl) | (refine l_not ?_; (refine SXl.v (OpW.not rfl) rfl ?_ ?_ ?_); rfl; rfl) | refine SX.ret ?_)
  refine SQ.body1 rfl rfl (fun w' hl => ⟨rfl, hl.mod⟩)

/-! ### The row's frame (the kit's PinupProofs, turned) -/
namespace fnExactEngineLines
open Go.ChangeShapes Go.WideShapes Go.ChangeAt Go.RowKit
set_option linter.unusedVariables false

theorem own : ownKnob Tryz.prog.godebug = none := by kernel_rfl
theorem laidOut : laidOutB Tryz.prog = true := by kernel_rfl
theorem tab {W : World} (h : laidMetH Tryz.prog Rows.fnExactEngineLinesRow.laid W) : Tab W := by
  rw [MakeChecks.laidMetH_plain _ _ _ (by kernel_rfl)] at h
  exact Lib.tabIs_of_head (rest := []) tab_global tab_type Tryz.underlying219 Tryz.underlying187 (by kernel_rfl) (by kernel_rfl) h.tail.tail

set_option maxRecDepth 100000 in
theorem lifted (os : Os) (started : os.Started) (H : Type) (enc : TypeId × Value → H) (F : Stop.Interp) :
    ReturnsInHanded {} Tryz.checked os 3 .any ((OpenSpec.ofChange Rows.fnExactEngineLinesSpec).preRow enc Tryz.prog Tryz.f3 Rows.fnExactEngineLinesRow.domain false Rows.fnExactEngineLinesRow.laid) (((OpenSpec.ofChange Rows.fnExactEngineLinesSpec).at F).post enc Tryz.prog Tryz.f3 false true false false) := by
  refine returnsInHanded_of_row (C := Tryz.checked) (s := OpenSpec.ofChange Rows.fnExactEngineLinesSpec) own started (by kernel_rfl) Tryz.func3
    (ChangeSpec.witness_shaped (enc := enc) (C := Tryz.checked) (os := os) (s := Rows.fnExactEngineLinesSpec) (X := fun w _ => laidMetH Tryz.prog Rows.fnExactEngineLinesRow.laid w) false (World.laidAll Tryz.prog os Rows.fnExactEngineLinesRow.laid) #[.agg #[.slice none 0 0, .slice none 0 0, .slice none 0 0, .slice none 0 0, .int .i64 0, .int .i64 0, .int .i64 0, .bool false]] 8 (World.laidAll_os _ _ _)
      (World.shaped_of_ZipB (by kernel_rfl) (by kernel_rfl)) (by kernel_rfl) (by kernel_rfl) (by kernel_rfl)
      (by rw [MakeChecks.laidMetH_plain _ _ _ (by kernel_rfl)]; exact laidMet_laidAll _ (by kernel_rfl) (by kernel_rfl))) ?_
  intro W base args ds gs before hval0 hW _ _ _ hL hsh _
  have hval : ∀ (j : Nat) t v, Tryz.f3.params[j]? = some t → args[j]? = some v → Value.okWide Tryz.prog W .any base t v := hval0
  have hW' := hW
  obtain ⟨p, q, hA0, hV, rfl, hfz, hnd⟩ := hW
  have hA : DataW.TrodAll enc Tryz.prog W 0 (fun _ => true) true Tryz.f3.params.toList args.toList ds p := hA0
  rw [Tryz.params3] at hA hval
  obtain ⟨v0, vs0, d0, ds0, p0, q0, hargs, rfl, rfl, h0, r0⟩ := trodAll_cons hA
  obtain ⟨rfl, rfl, rfl⟩ := trodAll_nil r0
  obtain rfl : args = #[v0] := by cases args; simp_all
  obtain ⟨rfl, rfl⟩ := trodVars_none hV
  have k0 := h0
  have lt0 : ∀ x ∈ p0, x.block < W.heap.size := by obtain ⟨m, hm⟩ := k0; exact DataW.trod_lt m _ _ _ hm
  obtain ⟨cs0, rfl, _⟩ := okWide_struct Tryz.underlying31 (hval 0 31 v0 rfl rfl)
  have rd0 : Rd Tryz.prog W 31 cs0.toList := by obtain ⟨m, hm⟩ := k0; exact ⟨H, enc, m, _, hm⟩
  clear hA0 hval0
  refine (exactEngineLines_walk W cs0 rd0 (tab hL)).mono fun e W' ⟨he, hm⟩ => ?_
  have bel := hm.below (Nat.le_refl _) fun _ _ h => h
  subst he
  exact ⟨_, rfl, _, _, _, [], _, [], hW', trodAll_mk1 (shut_bool Tryz.underlying4 _), (trodAll_cons_mk (Below.trod laidOut (by kernel_rfl) (of_decide_eq_true (by kernel_rfl)) k0 bel lt0) trodAll_mk0), rfl, bel.frame _, fun h => by cases h⟩

theorem over : Rows.fnExactEngineLinesRow.holds Tryz.pinned (OpenSpec.ofChange Rows.fnExactEngineLinesSpec) :=
  OpenClaim.holds_of_wide 3 Tryz.f3 rfl rfl rfl rfl rfl rfl rfl ⟨rfl, rfl, rfl, rfl, rfl⟩ rfl rfl rfl rfl rfl (by kernel_rfl) Tryz.func3 (by kernel_rfl)
    (of_decide_eq_true (by kernel_rfl)) (by unfold Func.isWrapper; first | (rw [if_pos (by decide +kernel)]; kernel_rfl) | (rw [if_neg (by decide +kernel)]; exact ⟨rfl, rfl⟩))
    (fun os started H enc _ => by rw [OpenClaim.pre_eq_preRow]; exact lifted os started H enc (fun _ _ _ => 0))
theorem plain (f : FuncId) (fn : Func) (hf : Tryz.pinned.checked.prog.funcNamed "loop.example/g00972/laws.FnExactEngineLines" = some f) (hfn : Tryz.pinned.checked.prog.funcs[f]? = some fn) :
    false = Tryz.pinned.checked.prog.looks [] ∧ ∀ (j : Nat) t, fn.params[j]? = some t → Tryz.pinned.checked.prog.wantsStandIn t = false := by
  obtain rfl : f = 3 := Option.some.inj ((show Tryz.prog.funcNamed "loop.example/g00972/laws.FnExactEngineLines" = some 3 by kernel_rfl).symm.trans hf) |>.symm
  obtain rfl : fn = Tryz.f3 := (Option.some.inj (Tryz.func3.symm.trans hfn)).symm
  refine ⟨by kernel_rfl, fun j t ht => ?_⟩
  rw [Tryz.params3] at ht
  have hm : t ∈ [31] := by simpa using Array.mem_of_getElem? ht
  have hall : ([31].all fun u => !Tryz.prog.wantsStandIn u) = true := by kernel_rfl
  exact (show Tryz.prog.wantsStandIn t = false by simpa using List.all_eq_true.1 hall t hm)

theorem proved : Rows.FnExactEngineLinesCardSaid :=
  Claim7.holds_tied_plain_at .later [] [.data, .data, .data] true (true, "7df5bbab53e0b010d3d93a8d3d41dbd6a32b0b45a9d9b783034f636a1342abf8") false over (fun _ h => by cases h) (by kernel_rfl) (fun _ h => by cases h) fnExactEngineLines_row_tie rfl ⟨rfl, rfl⟩ (by kernel_rfl) rfl plain (by kernel_rfl)
#print axioms proved
end fnExactEngineLines


end Go.Proofs.YtpkpkojmaebflaaGreatDoor
