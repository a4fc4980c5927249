/-
  PROVED: for every text the law FnExactReadAct returns true. Condition: the library's tables, which the row lists, lie as the library's text lays them (tied).
-/
import Derived.Test.YtkkjjhooamlljaaGreatDoorMRe
set_option linter.unusedVariables false
set_option linter.unusedSimpArgs false
namespace Go.Proofs.YtkkjjhooamlljaaGreatDoor
open Go.RowKit
set_option linter.unusedVariables false
set_option linter.unusedSimpArgs false

theorem heldAct_own (x : ActL) (q : SlP) (w : World) (hl : x.rules.length ≤ 1048576) (h : (markedR x.rules q).says w) :
    Calls Tryz.prog 9 #[.agg (x.row q.a q.c).toArray, .int .i64 1] w fun e w' => e = .returned (.int .i64 (1 + x.rules.length * 3)) ∧ Mod (fun _ => False) w w' := by
  refine calls_sx Tryz.func9 rfl rfl (fun a h1 h2 h3 => ((Fr.nil h1 h2).arg (h3 1 _ rfl)).arg (h3 0 _ rfl)) ?_
  have hh := fun w' (hm : Mod (fun _ => False) w w') => heldTable_own x.rules q w' hl ((markedR x.rules q).stable _ _ _ h hm (fun _ _ f => f))
  repeat (first | refine SX.seq ?_ | refine SXl.nil ?_ | refine SX.region ?_ | refine SQ.thenNormal ?_ | refine SX.skip ?_ | refine SX.condF rfl ?_ | (refine l_call ?_; (refine SXl.v (OpW.call rfl (fun w hl => hh _ hl.mod)) rfl ?_ ?_ ?_); rfl; rfl) | (refine l_load ?_; (refine SXl.v (OpW.loadRow 0 rfl rfl rfl rfl) rfl ?_ ?_ ?_); rfl; rfl) | (refine l_fieldAddr ?_; (refine SXl.v (OpW.fieldAddr rfl) rfl ?_ ?_ ?_); rfl; rfl) | (refine l_move ?_; (refine SXl.v (OpW.move rfl) rfl ?_ ?_ ?_); rfl; rfl) | (refine l_assign ?_; (refine SXl.v (OpW.assign rfl) rfl ?_ ?_ ?_); rfl; rfl) | (refine l_lss ?_; (refine SXl.v (OpW.lssF rfl rfl (by omega)) rfl ?_ ?_ ?_); rfl; rfl) | (refine l_box ?_; refine SXl.box ?_ ?_ rfl rfl (fun g => ?_); rfl; rfl) | refine SX.ret ?_)
  refine SQ.body1 rfl rfl (fun w' hl => ⟨rfl, hl.mod⟩)
theorem markAct_own (x : ActL) (q : SlP) (w : World) (hl0 : x.rules.length ≤ 1048576) (h : (ownRes Rule.cells 70 3 x.rules q).says w) :
    Calls Tryz.prog 8 #[.agg (x.row q.a q.c).toArray, .int .i64 1] w fun e w' => ∃ _x : Unit, e = .returned (.int .i64 (1 + x.rules.length * 3)) ∧ True ∧ (markedR x.rules q).says w' ∧ Mod (ownRes Rule.cells 70 3 x.rules q).foot w w' := by
  have low : ∀ k, (ownRes Rule.cells 70 3 x.rules q).foot k → k < w.heap.size := fun k hk => (ownBlock_lt h hk).2
  refine calls_sxJ ⟨(ownRes Rule.cells 70 3 x.rules q).foot, fun _ => False, (ownRes Rule.cells 70 3 x.rules q).says, low, fun _ h => h.elim, fun S w w' hj hm hs => (ownRes Rule.cells 70 3 x.rules q).stable S w w' hj hm (fun k hk hS => hs k (low k hk) hS)⟩ h Tryz.func8 rfl rfl (fun a h1 h2 h3 => ((Fr.nil h1 h2).arg (h3 1 _ rfl)).arg (h3 0 _ rfl)) ?_
  repeat (first | refine SX.seq ?_ | refine SXl.nil ?_ | refine SX.region ?_ | refine SQ.thenNormal ?_ | (refine l_load ?_; (refine SXl.v (OpW.loadRow 0 rfl rfl rfl rfl) rfl ?_ ?_ ?_); rfl; rfl) | (refine l_fieldAddr ?_; (refine SXl.v (OpW.fieldAddr rfl) rfl ?_ ?_ ?_); rfl; rfl) | (refine l_move ?_; (refine SXl.v (OpW.move rfl) rfl ?_ ?_ ?_); rfl; rfl) | (refine l_assign ?_; (refine SXl.v (OpW.assign rfl) rfl ?_ ?_ ?_); rfl; rfl) | (refine l_box ?_; refine SXl.box ?_ ?_ rfl rfl (fun g => ?_); rfl; rfl))
  refine l_call ?_
  refine SXl.callJ2 (ξ := Unit) (v := fun _ => .int .i64 (1 + x.rules.length * 3)) ⟨(ownRes Rule.cells 70 3 x.rules q).foot, fun _ => False, (markedR x.rules q).says, low, fun _ h => h.elim, fun S w w' hj hm hs => (markedR x.rules q).stable S w w' hj hm (fun k hk hS => hs k (low k hk) hS)⟩ (fun _ h => h) (fun _ h => h) rfl rfl rfl (fun _ => True) (fun w hl => (markTable_own x.rules q w hl0 hl.inv).mono fun _ _ ⟨x, h1, h2, h3, h4⟩ => ⟨x, h1, h2, h4, h3⟩) ?_
  intro _ _
  repeat (first | refine SX.seq ?_ | refine SXl.nil ?_ | refine SX.region ?_ | refine SQ.thenNormal ?_ | (refine l_move ?_; (refine SXl.v (OpW.move rfl) rfl ?_ ?_ ?_); rfl; rfl) | (refine l_assign ?_; (refine SXl.v (OpW.assign rfl) rfl ?_ ?_ ?_); rfl; rfl) | refine SX.ret ?_)
  refine SQ.body1 rfl rfl (fun w' hl => ⟨(), rfl, trivial, hl.inv, hl.mod⟩)

set_option maxRecDepth 100000 in
set_option maxHeartbeats 8000000 in
theorem exactReadAct_walk (w : World) (key : ByteArray) (_hk : key.size ≤ maxLen) (ht : Tab w) (hsy : Syn w) (hsh : w.ShapedOpen Tryz.prog) :
    Calls Tryz.prog 3 #[.string key] w fun e w' => e = .returned (.bool true) ∧ Mod (fun _ => False) w w' := by
  have hz := num0 hsh
  clear hsh
  obtain ⟨⟨k⟩⟩ := key
  refine calls_sx Tryz.func3 rfl rfl (fun a h1 h2 h3 => ((Fr.nil h1 h2).arg (h3 0 (.string ⟨k.toArray⟩) rfl))) ?_
  by_cases hlen : (k.length : Int) > 1048576
  · repeat (first | refine SX.seq ?_ | refine SXl.nil ?_ | refine SX.region ?_ | refine SQ.thenNormal ?_ | refine SX.condT rfl ?_ | (refine l_move ?_; (refine SXl.v (OpW.move rfl) rfl ?_ ?_ ?_); rfl; rfl) | (refine l_assign ?_; (refine SXl.v (OpW.assign rfl) rfl ?_ ?_ ?_); rfl; rfl) | (refine l_len ?_; (refine SXl.v (OpW.lenStr rfl) rfl ?_ ?_ ?_); rfl; rfl) | (refine l_gtr ?_; (refine SXl.v (OpW.gtrT rfl rfl (by omega)) rfl ?_ ?_ ?_); rfl; rfl) | refine SX.ret ?_ | refine SQ.thenRet ?_)
    refine SQ.body1 rfl rfl (fun w' hl => ⟨rfl, hl.mod⟩)
  have hl6 : (readAct k).1.rules.length ≤ 6 := readAct_rules k
  have S1 : ∀ w, Num0 w → Tab w → Syn w → Calls Tryz.prog 6 #[.string ⟨k.toArray⟩] w (AT (readAct k).1 (readAct k).2 w) := fun w hz ht hsy => readAct_new k (by omega) w hz ht hsy
  have S2 : ∀ w, Calls Tryz.prog 5 #[.string ⟨k.toArray⟩] w (AT (readAct k).1 (readAct k).2 w) := fun w => sreadAct_new k (by omega) w
  unfold AT at S1 S2
  generalize (readAct k).1 = x at hl6 S1 S2
  generalize (readAct k).2 = b at S1 S2
  have hll : x.rules.length ≤ 1048576 := by omega
  repeat (first | refine SX.seq ?_ | refine SXl.nil ?_ | refine SX.region ?_ | refine SQ.thenNormal ?_ | refine SX.skip ?_ | refine SX.condF rfl ?_ | (refine l_move ?_; (refine SXl.v (OpW.move rfl) rfl ?_ ?_ ?_); rfl; rfl) | (refine l_assign ?_; (refine SXl.v (OpW.assign rfl) rfl ?_ ?_ ?_); rfl; rfl) | (refine l_len ?_; (refine SXl.v (OpW.lenStr rfl) rfl ?_ ?_ ?_); rfl; rfl) | (refine l_gtr ?_; (refine SXl.v (OpW.gtrF rfl rfl (by omega)) rfl ?_ ?_ ?_); rfl; rfl))
  refine l_call ?_
  refine SXl.calln1 (v := fun q => .tuple #[.agg (x.row q.a q.c).toArray, .bool b]) (F1 := ownRes Rule.cells 70 3 x.rules) rfl rfl rfl (fun w hl => S2 _) (fun r0 => ?_)
  repeat (first | refine SX.seq ?_ | refine SXl.nil ?_ | refine SX.region ?_ | refine SQ.thenNormal ?_ | (refine l_move ?_; (refine SXl.v (OpW.move rfl) rfl ?_ ?_ ?_); rfl; rfl) | (refine l_assign ?_; (refine SXl.v (OpW.assign rfl) rfl ?_ ?_ ?_); rfl; rfl) | (refine l_extract ?_; (refine SXl.v (OpW.extract rfl rfl) rfl ?_ ?_ ?_); rfl; rfl) | (refine l_alloc ?_; refine SXl.alloc ?_ ?_ (fun g => ?_); rfl; rfl) | (refine l_store ?_; first | (refine SXl.storeAll 0 ?_ rfl rfl rfl rfl rfl rfl rfl ?_; rfl; simp only [List.set_cons_zero, List.set_cons_succ]) | (refine SXl.storeAll 1 ?_ rfl rfl rfl rfl rfl rfl rfl ?_; rfl; simp only [List.set_cons_zero, List.set_cons_succ]) | (refine SXl.storeAll 2 ?_ rfl rfl rfl rfl rfl rfl rfl ?_; rfl; simp only [List.set_cons_zero, List.set_cons_succ]) | (refine SXl.storeRow 0 ?_ rfl rfl rfl rfl rfl rfl rfl ?_; rfl; simp only [over, List.set_cons_zero, List.set_cons_succ]) | (refine SXl.storeRow 1 ?_ rfl rfl rfl rfl rfl rfl rfl ?_; rfl; simp only [over, List.set_cons_zero, List.set_cons_succ]) | (refine SXl.storeRow 2 ?_ rfl rfl rfl rfl rfl rfl rfl ?_; rfl; simp only [over, List.set_cons_zero, List.set_cons_succ])))
  refine l_call ?_
  refine SXl.calln1 (v := fun q => .tuple #[.agg (x.row q.a q.c).toArray, .bool b]) (F1 := ownRes Rule.cells 70 3 x.rules) rfl rfl rfl (fun w hl => S1 _ (hz.keep hl.mod) (ht.keep hl.mod) (hsy.keep hl.mod)) (fun r1 => ?_)
  repeat (first | refine SX.seq ?_ | refine SXl.nil ?_ | refine SX.region ?_ | refine SQ.thenNormal ?_ | refine SX.skip ?_ | refine SX.condF rfl ?_ | (refine l_call ?_; (refine SXl.v (OpW.call rfl (fun w hl => eqAct_L x _ _ _ _ _ _ _ hll (own_in hl (.head _) (fun _ => rfl) (by decide)) (own_in hl (.tail _ (.head _)) (fun _ => rfl) (by decide)))) rfl ?_ ?_ ?_); rfl; rfl) | (refine l_load ?_; (first | refine SXl.v (OpW.loadAll 0 rfl rfl rfl) rfl ?_ ?_ ?_ | refine SXl.v (OpW.loadAll 1 rfl rfl rfl) rfl ?_ ?_ ?_); rfl; rfl) | (refine l_move ?_; (refine SXl.v (OpW.move rfl) rfl ?_ ?_ ?_); rfl; rfl) | (refine l_assign ?_; (refine SXl.v (OpW.assign rfl) rfl ?_ ?_ ?_); rfl; rfl) | (refine l_neq ?_; (refine SXl.v (OpW.neqb rfl rfl) rfl ?_ ?_ ?_); rfl; rfl) | (refine l_not ?_; (refine SXl.v (OpW.not rfl) rfl ?_ ?_ ?_); rfl; rfl) | (refine l_pick ?_; (refine SXl.v (OpW.pick rfl rfl rfl) rfl ?_ ?_ ?_); rfl; rfl) | (refine l_extract ?_; (refine SXl.v (OpW.extract rfl rfl) rfl ?_ ?_ ?_); rfl; rfl) | (refine l_alloc ?_; refine SXl.alloc ?_ ?_ (fun g => ?_); rfl; rfl) | (refine l_store ?_; first | (refine SXl.storeAll 0 ?_ rfl rfl rfl rfl rfl rfl rfl ?_; rfl; simp only [List.set_cons_zero, List.set_cons_succ]) | (refine SXl.storeAll 1 ?_ rfl rfl rfl rfl rfl rfl rfl ?_; rfl; simp only [List.set_cons_zero, List.set_cons_succ]) | (refine SXl.storeAll 2 ?_ rfl rfl rfl rfl rfl rfl rfl ?_; rfl; simp only [List.set_cons_zero, List.set_cons_succ]) | (refine SXl.storeRow 0 ?_ rfl rfl rfl rfl rfl rfl rfl ?_; rfl; simp only [over, List.set_cons_zero, List.set_cons_succ]) | (refine SXl.storeRow 1 ?_ rfl rfl rfl rfl rfl rfl rfl ?_; rfl; simp only [over, List.set_cons_zero, List.set_cons_succ]) | (refine SXl.storeRow 2 ?_ rfl rfl rfl rfl rfl rfl rfl ?_; rfl; simp only [over, List.set_cons_zero, List.set_cons_succ])) | (rw [bne_self_eq_false]))
  refine l_call ?_
  refine SXl.callM (ξ := Unit) (v := fun _ => .int .i64 (1 + x.rules.length * 3)) (F' := fun _ => markedR x.rules r1) 0 rfl rfl rfl rfl (fun _ _ h => h) (fun _ => True) (fun w hl => markAct_own x r1 w hll (hl.res _ (.head _)).1) ?_
  intro _ _
  simp only [List.set_cons_zero, List.set_cons_succ]
  repeat (first | refine SX.seq ?_ | refine SXl.nil ?_ | refine SX.region ?_ | refine SQ.thenNormal ?_ | refine SX.skip ?_ | refine SX.condF rfl ?_ | (refine l_call ?_; (refine SXl.v (OpW.call rfl (fun w hl => heldAct_own x r1 _ hll (hl.res _ (.head _)).1)) rfl ?_ ?_ ?_); rfl; rfl) | (refine l_load ?_; (refine SXl.v (OpW.loadAll 0 rfl rfl rfl) rfl ?_ ?_ ?_); rfl; rfl) | (refine l_move ?_; (refine SXl.v (OpW.move rfl) rfl ?_ ?_ ?_); rfl; rfl) | (refine l_assign ?_; (refine SXl.v (OpW.assign rfl) rfl ?_ ?_ ?_); rfl; rfl) | (refine l_lss ?_; (refine SXl.v (OpW.lssF rfl rfl (by omega)) rfl ?_ ?_ ?_); rfl; rfl) | (refine l_neq ?_; (refine SXl.v (OpW.neqF rfl rfl (by omega)) rfl ?_ ?_ ?_); rfl; rfl))
  refine l_call ?_
  refine SXl.calln1 (v := fun q => .tuple #[.agg (x.row q.a q.c).toArray, .bool b]) (F1 := ownRes Rule.cells 70 3 x.rules) rfl rfl rfl (fun w hl => S1 _ (hz.keep hl.mod) (ht.keep hl.mod) (hsy.keep hl.mod)) (fun r5 => ?_)
  repeat (first | refine SX.seq ?_ | refine SXl.nil ?_ | refine SX.region ?_ | refine SQ.thenNormal ?_ | refine SX.skip ?_ | refine SX.condF rfl ?_ | (refine l_call ?_; (first | refine SXl.v (OpW.call rfl (fun w hl => eqAct_L x _ _ _ _ _ _ _ hll (own_in hl (.head _) (fun _ => rfl) (by decide)) (own_in hl (.tail _ (.tail _ (.head _))) (fun _ => rfl) (by decide)))) rfl ?_ ?_ ?_ | refine SXl.v (OpW.call rfl (fun w hl => heldAct_own x r1 _ hll (hl.res _ (.tail _ (.head _))).1)) rfl ?_ ?_ ?_); rfl; rfl) | (refine l_load ?_; (first | refine SXl.v (OpW.loadAll 0 rfl rfl rfl) rfl ?_ ?_ ?_ | refine SXl.v (OpW.loadAll 1 rfl rfl rfl) rfl ?_ ?_ ?_ | refine SXl.v (OpW.loadAll 2 rfl rfl rfl) rfl ?_ ?_ ?_); rfl; rfl) | (refine l_move ?_; (refine SXl.v (OpW.move rfl) rfl ?_ ?_ ?_); rfl; rfl) | (refine l_assign ?_; (refine SXl.v (OpW.assign rfl) rfl ?_ ?_ ?_); rfl; rfl) | (refine l_lss ?_; (refine SXl.v (OpW.lssF rfl rfl (by omega)) rfl ?_ ?_ ?_); rfl; rfl) | (refine l_neq ?_; (first | refine SXl.v (OpW.neqF rfl rfl (by omega)) rfl ?_ ?_ ?_ | refine SXl.v (OpW.neqb rfl rfl) rfl ?_ ?_ ?_); rfl; rfl) | (refine l_not ?_; (refine SXl.v (OpW.not rfl) rfl ?_ ?_ ?_); rfl; rfl) | (refine l_pick ?_; (refine SXl.v (OpW.pick rfl rfl rfl) rfl ?_ ?_ ?_); rfl; rfl) | (refine l_extract ?_; (refine SXl.v (OpW.extract rfl rfl) rfl ?_ ?_ ?_); rfl; rfl) | (refine l_alloc ?_; refine SXl.alloc ?_ ?_ (fun g => ?_); rfl; rfl) | (refine l_store ?_; first | (refine SXl.storeAll 0 ?_ rfl rfl rfl rfl rfl rfl rfl ?_; rfl; simp only [List.set_cons_zero, List.set_cons_succ]) | (refine SXl.storeAll 1 ?_ rfl rfl rfl rfl rfl rfl rfl ?_; rfl; simp only [List.set_cons_zero, List.set_cons_succ]) | (refine SXl.storeAll 2 ?_ rfl rfl rfl rfl rfl rfl rfl ?_; rfl; simp only [List.set_cons_zero, List.set_cons_succ]) | (refine SXl.storeRow 0 ?_ rfl rfl rfl rfl rfl rfl rfl ?_; rfl; simp only [over, List.set_cons_zero, List.set_cons_succ]) | (refine SXl.storeRow 1 ?_ rfl rfl rfl rfl rfl rfl rfl ?_; rfl; simp only [over, List.set_cons_zero, List.set_cons_succ]) | (refine SXl.storeRow 2 ?_ rfl rfl rfl rfl rfl rfl rfl ?_; rfl; simp only [over, List.set_cons_zero, List.set_cons_succ])) | (rw [bne_self_eq_false]) | refine SX.ret ?_)
  refine SQ.body1 rfl rfl (fun w' hl => ⟨rfl, hl.mod⟩)

/-! ### The row's frame (the kit's PinupProofs, turned) -/
namespace fnExactReadAct
open Go.ChangeShapes Go.WideShapes Go.ChangeAt Go.RowKit
set_option linter.unusedVariables false

theorem own : ownKnob Tryz.prog.godebug = none := by kernel_rfl
theorem laidOut : laidOutB Tryz.prog = true := by kernel_rfl
theorem tab {W : World} (h : laidMetH Tryz.prog Rows.fnExactReadActRow.laid W) : Tab W := by
  rw [MakeChecks.laidMetH_plain _ _ _ (by kernel_rfl)] at h
  exact Lib.tabIs_of_head (rest := _) tab_global tab_type Tryz.underlying152 Tryz.underlying141 (by kernel_rfl) (by kernel_rfl) h.tail.tail
theorem syn {W : World} (h : laidMetH Tryz.prog Rows.fnExactReadActRow.laid W) : Syn W := by
  rw [MakeChecks.laidMetH_plain _ _ _ (by kernel_rfl)] at h
  obtain ⟨a, s, hv, _⟩ := laid_sentinel (h.tail.tail.tail.tail.tail) syn_global syn_type Tryz.underlying94 syn_row Tryz.underlying163 Tryz.underlying165 rfl rfl Tryz.underlying9 syn_cells syn_cell
  exact ⟨_, _, hv⟩

set_option maxRecDepth 100000 in
theorem lifted (os : Os) (started : os.Started) (H : Type) (enc : TypeId × Value → H) (F : Stop.Interp) :
    ReturnsInHanded {} Tryz.checked os 3 .any ((OpenSpec.ofChange Rows.fnExactReadActSpec).preRow enc Tryz.prog Tryz.f3 Rows.fnExactReadActRow.domain false Rows.fnExactReadActRow.laid) (((OpenSpec.ofChange Rows.fnExactReadActSpec).at F).post enc Tryz.prog Tryz.f3 false true false false) := by
  refine returnsInHanded_of_row (C := Tryz.checked) (s := OpenSpec.ofChange Rows.fnExactReadActSpec) own started (by kernel_rfl) Tryz.func3
    (ChangeSpec.witness_shaped (enc := enc) (C := Tryz.checked) (os := os) (s := Rows.fnExactReadActSpec) (X := fun w _ => laidMetH Tryz.prog Rows.fnExactReadActRow.laid w) false (World.laidAll Tryz.prog os Rows.fnExactReadActRow.laid) #[.string ⟨#[]⟩] 8 (World.laidAll_os _ _ _)
      (World.shaped_of_ZipB (by kernel_rfl) (by kernel_rfl)) (by kernel_rfl) (by kernel_rfl) (by kernel_rfl)
      (by rw [MakeChecks.laidMetH_plain _ _ _ (by kernel_rfl)]; exact laidMet_laidAll _ (by kernel_rfl) (by kernel_rfl))) ?_
  intro W base args ds gs before hval0 hW _ _ _ hL hsh _
  have hval : ∀ (j : Nat) t v, Tryz.f3.params[j]? = some t → args[j]? = some v → Value.okWide Tryz.prog W .any base t v := hval0
  have hW' := hW
  obtain ⟨p, q, hA0, hV, rfl, hfz, hnd⟩ := hW
  have hA : DataW.TrodAll enc Tryz.prog W 0 (fun _ => true) true Tryz.f3.params.toList args.toList ds p := hA0
  rw [Tryz.params3] at hA hval
  obtain ⟨v0, vs0, d0, ds0, p0, q0, hargs, rfl, rfl, h0, r0⟩ := trodAll_cons hA
  obtain ⟨rfl, rfl, rfl⟩ := trodAll_nil r0
  obtain rfl : args = #[v0] := by cases args; simp_all
  obtain ⟨rfl, rfl⟩ := trodVars_none hV
  have k0 := h0
  have lt0 : ∀ x ∈ p0, x.block < W.heap.size := by obtain ⟨m, hm⟩ := k0; exact DataW.trod_lt m _ _ _ hm
  obtain ⟨a0, sz0, rfl⟩ : ∃ n : ByteArray, n.size ≤ maxLen ∧ v0 = .string n := by
    obtain ⟨x, h1, _, _, h2⟩ := Go.ChangeMaps.open_string Tryz.underlying9 (hval 0 9 v0 rfl rfl) h0
    exact ⟨x, h2, h1⟩
  clear hA0 hval0
  refine (exactReadAct_walk W a0 sz0 (tab hL) (syn hL) hsh).mono fun e W' ⟨he, hm⟩ => ?_
  have bel := hm.below (Nat.le_refl _) fun _ _ h => h
  subst he
  exact ⟨_, rfl, _, _, _, [], _, [], hW', trodAll_mk1 (shut_bool Tryz.underlying4 _), (trodAll_cons_mk (Below.trod laidOut (by kernel_rfl) (of_decide_eq_true (by kernel_rfl)) k0 bel lt0) trodAll_mk0), rfl, bel.frame _, fun h => by cases h⟩

theorem over : Rows.fnExactReadActRow.holds Tryz.pinned (OpenSpec.ofChange Rows.fnExactReadActSpec) :=
  OpenClaim.holds_of_wide 3 Tryz.f3 rfl rfl rfl rfl rfl rfl rfl ⟨rfl, rfl, rfl, rfl, rfl⟩ rfl rfl rfl rfl rfl (by kernel_rfl) Tryz.func3 (by kernel_rfl)
    (of_decide_eq_true (by kernel_rfl)) (by unfold Func.isWrapper; first | (rw [if_pos (by decide +kernel)]; kernel_rfl) | (rw [if_neg (by decide +kernel)]; exact ⟨rfl, rfl⟩))
    (fun os started H enc _ => by rw [OpenClaim.pre_eq_preRow]; exact lifted os started H enc (fun _ _ _ => 0))
theorem plain (f : FuncId) (fn : Func) (hf : Tryz.pinned.checked.prog.funcNamed "loop.example/g00972/laws.FnExactReadAct" = some f) (hfn : Tryz.pinned.checked.prog.funcs[f]? = some fn) :
    true = Tryz.pinned.checked.prog.looks [] ∧ ∀ (j : Nat) t, fn.params[j]? = some t → Tryz.pinned.checked.prog.wantsStandIn t = false := by
  obtain rfl : f = 3 := Option.some.inj ((show Tryz.prog.funcNamed "loop.example/g00972/laws.FnExactReadAct" = some 3 by kernel_rfl).symm.trans hf) |>.symm
  obtain rfl : fn = Tryz.f3 := (Option.some.inj (Tryz.func3.symm.trans hfn)).symm
  refine ⟨by kernel_rfl, fun j t ht => ?_⟩
  rw [Tryz.params3] at ht
  have hm : t ∈ [9] := by simpa using Array.mem_of_getElem? ht
  have hall : ([9].all fun u => !Tryz.prog.wantsStandIn u) = true := by kernel_rfl
  exact (show Tryz.prog.wantsStandIn t = false by simpa using List.all_eq_true.1 hall t hm)

theorem proved : Rows.FnExactReadActCardSaid :=
  Claim7.holds_tied_plain_at .later [] [.data, .data, .data, .data, .sentinel, .sentinel, .pinned] true (true, "28d5735352a7697cacea057b6224bc520114b56e1b527af47e9a73e46310c3ea") true over (fun _ h => by cases h) (by kernel_rfl) (fun _ h => by cases h) fnExactReadAct_row_tie rfl ⟨rfl, rfl⟩ (by kernel_rfl) rfl plain (by kernel_rfl)
#print axioms proved
end fnExactReadAct


end Go.Proofs.YtkkjjhooamlljaaGreatDoor
