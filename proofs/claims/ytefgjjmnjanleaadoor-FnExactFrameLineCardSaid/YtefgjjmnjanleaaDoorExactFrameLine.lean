/-
  PROVED: for every frame the law FnExactFrameLine returns true. Condition: the library's tables, which the row lists, lie as the library's text lays them (tied).
-/
import Derived.Test.YtefgjjmnjanleaaDoorFrameLine
import Derived.Test.YtefgjjmnjanleaaDoorTabVar
import Derived.Test.YtefgjjmnjanleaaDoorRd
import Derived.Test.YtefgjjmnjanleaaDoorRows
import Derived.Test.YtefgjjmnjanleaaDoorCards
import Derived.Test.YtefgjjmnjanleaaDoorTie
import Derived.ProofKit
import Derived.OpenShut
import Derived.ShutString
import Derived.ChangeOld
import Derived.LaidMore
import Derived.Lay
import Derived.MakeChecks
import Derived.SevenTiedAt
import Derived.Stop.Joined
import Derived.Stop.LaidErr
import Derived.Deep.DeepHandedRow
namespace Go.Proofs.YtefgjjmnjanleaaDoor
open Go.RowKit

set_option maxRecDepth 100000 in
theorem toFrame_any (x0 x1 x2 x3 x4 : Int) (w : World) :
    Calls Tryd.prog 15 #[.agg #[.int .i64 x0, .int .i64 x1, .int .i64 x2, .int .i64 x3, .int .i64 x4]] w fun e w' => e = .returned (.agg #[.int .i64 x0, .int .i64 x1, .int .i64 x2, .int .i64 x3, .int .i64 x4]) ∧ Mod (fun _ => False) w w' := by
  go_enter Tryd.func15, Tryd.ntmps15
  go_wp2
  exact bodyPost_ret (v := .agg #[.int .i64 x0, .int .i64 x1, .int .i64 x2, .int .i64 x3, .int .i64 x4]) (by simp [results, Tryd.results15, go_sem]) rfl ⟨rfl, by (repeat (first | with_reducible exact Mod.refl _ _ | with_reducible refine Mod.drewN ?_ _ | with_reducible refine Mod.drew ?_ | with_reducible refine Mod.alloc ?_ _ | ((with_reducible refine Mod.setNew ?_ ?_ _ _ _); (rotate_left; omega)) | with_reducible refine Mod.setAt ?_ _ _ _ ))⟩

set_option maxRecDepth 100000 in
theorem rd_Frame {w : World} {cs : List Value} (h : Rd Tryd.prog w 28 cs) : ∃ x : Frame, cs = x.cells ∧ I64 x.node ∧ I64 x.x ∧ I64 x.y ∧ I64 x.wide ∧ I64 x.high := by
  obtain ⟨hl, hf⟩ := h.struct Tryd.underlying28
  have hl2 : cs.length = 5 := hl.trans (by kernel_rfl)
  have c1 : Tryd.prog.cellsOf 3 = 1 := by kernel_rfl
  match cs, hl2 with
  | [q0, q1, q2, q3, q4], _ =>
    obtain ⟨n0, e0, w0⟩ := (hf 0 _ rfl).int Tryd.underlying3
    obtain ⟨n1, e1, w1⟩ := (hf 1 _ rfl).int Tryd.underlying3
    obtain ⟨n2, e2, w2⟩ := (hf 2 _ rfl).int Tryd.underlying3
    obtain ⟨n3, e3, w3⟩ := (hf 3 _ rfl).int Tryd.underlying3
    obtain ⟨n4, e4, w4⟩ := (hf 4 _ rfl).int Tryd.underlying3
    simp [c1] at e0 e1 e2 e3 e4
    exact ⟨⟨n0, n1, n2, n3, n4⟩, by simp [Frame.cells, e0, e1, e2, e3, e4], wf_i64 w0, wf_i64 w1, wf_i64 w2, wf_i64 w3, wf_i64 w4⟩

set_option maxRecDepth 100000 in
set_option maxHeartbeats 2000000 in
theorem exactFrameLine_walk (w : World) (cs : Array Value) (rd : Rd Tryd.prog w 28 cs.toList) (ht : Tab w) :
    Calls Tryd.prog 4 #[.agg cs] w fun e w' => e = .returned (.bool true) ∧ Mod (fun _ => False) w w' := by
  obtain ⟨⟨x0, x1, x2, x3, x4⟩, e, b0, b1, b2, b3, b4⟩ := rd_Frame rd
  obtain rfl : cs = #[.int .i64 x0, .int .i64 x1, .int .i64 x2, .int .i64 x3, .int .i64 x4] := by
    apply Array.toList_inj.1
    exact e
  have Ht := hid ht
  have k0 := fun W => sframeLine_any x0 x1 x2 x3 x4 b0 b1 b2 b3 b4 W
  have k1 := fun W h => frameLine_any x0 x1 x2 x3 x4 b0 b1 b2 b3 b4 W h
  clear ht rd e b0 b1 b2 b3 b4
  have hx := heap_alloc_new w (.cells [.int .i64 x0, .int .i64 x1, .int .i64 x2, .int .i64 x3, .int .i64 x4].toArray 28)
  go_enter Tryd.func4, Tryd.ntmps4
  go_wp2_with fail
  refine (toFrame_any x0 x1 x2 x3 x4 _).mono ?_
  rintro e w1 ⟨rfl, hm1⟩
  go_wp2_with fail
  refine (k0 _).mono ?_
  rintro e w2 ⟨rfl, hm2⟩
  have hm := hm1.trans hm2
  have hB := hm.blk hx (fun f => f)
  have hr : w.heap.size < w2.heap.size := (Array.getElem?_eq_some_iff.1 hB).1
  have sc0 := blk_cell hB (j := 0) rfl
  have sz0 := blk_free hB 0
  have sc1 := blk_cell hB (j := 1) rfl
  have sz1 := blk_free hB 1
  have sc2 := blk_cell hB (j := 2) rfl
  have sz2 := blk_free hB 2
  have sc3 := blk_cell hB (j := 3) rfl
  have sz3 := blk_free hB 3
  have sc4 := blk_cell hB (j := 4) rfl
  have sz4 := blk_free hB 4
  clear hm1 hm2 hB
  go_wp2_with fail
  refine (toFrame_any x0 x1 x2 x3 x4 _).mono ?_
  rintro e w3 ⟨rfl, hm3⟩
  have hM3 : Mod (fun _ => False) w w3 := (((Mod.refl _ w).alloc _).thenNone hm).thenNone hm3
  clear hm hm3 sc0 sc1 sc2 sc3 sc4 sz0 sz1 sz2 sz3 sz4 hr hx
  go_wp2_with fail
  refine (k1 _ (Ht.out.keep hM3)).mono ?_
  rintro e w4 ⟨rfl, hm4⟩
  go_wp2
  go_ret
  exact ⟨rfl, hM3.thenNone hm4⟩

/-! ### The row's frame (the kit's PinupProofs, turned) -/
namespace fnExactFrameLine
open Go.ChangeShapes Go.WideShapes Go.ChangeAt Go.RowKit
set_option linter.unusedVariables false

theorem own : ownKnob Tryd.prog.godebug = none := by kernel_rfl
theorem laidOut : laidOutB Tryd.prog = true := by kernel_rfl
theorem tab {W : World} (h : laidMetH Tryd.prog Rows.fnExactFrameLineRow.laid W) : Tab W := by
  rw [MakeChecks.laidMetH_plain _ _ _ (by kernel_rfl)] at h
  exact Lib.tabIs_of_head (rest := []) tab_global tab_type Tryd.underlying162 Tryd.underlying155 (by kernel_rfl) (by kernel_rfl) h.tail.tail

set_option maxRecDepth 100000 in
theorem lifted (os : Os) (started : os.Started) (H : Type) (enc : TypeId × Value → H) (F : Stop.Interp) :
    ReturnsInHanded {} Tryd.checked os 4 .any ((OpenSpec.ofChange Rows.fnExactFrameLineSpec).preRow enc Tryd.prog Tryd.f4 Rows.fnExactFrameLineRow.domain false Rows.fnExactFrameLineRow.laid) (((OpenSpec.ofChange Rows.fnExactFrameLineSpec).at F).post enc Tryd.prog Tryd.f4 false true false false) := by
  refine returnsInHanded_of_row (C := Tryd.checked) (s := OpenSpec.ofChange Rows.fnExactFrameLineSpec) own started (by kernel_rfl) Tryd.func4
    (ChangeSpec.witness_shaped (enc := enc) (C := Tryd.checked) (os := os) (s := Rows.fnExactFrameLineSpec) (X := fun w _ => laidMetH Tryd.prog Rows.fnExactFrameLineRow.laid w) false (World.laidAll Tryd.prog os Rows.fnExactFrameLineRow.laid) #[.agg #[.int .i64 0, .int .i64 0, .int .i64 0, .int .i64 0, .int .i64 0]] 8 (World.laidAll_os _ _ _)
      (World.shaped_of_ZipB (by kernel_rfl) (by kernel_rfl)) (by kernel_rfl) (by kernel_rfl) (by kernel_rfl)
      (by rw [MakeChecks.laidMetH_plain _ _ _ (by kernel_rfl)]; exact laidMet_laidAll _ (by kernel_rfl) (by kernel_rfl))) ?_
  intro W base args ds gs before hval0 hW _ _ _ hL hsh _
  have hval : ∀ (j : Nat) t v, Tryd.f4.params[j]? = some t → args[j]? = some v → Value.okWide Tryd.prog W .any base t v := hval0
  have hW' := hW
  obtain ⟨p, q, hA0, hV, rfl, hfz, hnd⟩ := hW
  have hA : DataW.TrodAll enc Tryd.prog W 0 (fun _ => true) true Tryd.f4.params.toList args.toList ds p := hA0
  rw [Tryd.params4] at hA hval
  obtain ⟨v0, vs0, d0, ds0, p0, q0, hargs, rfl, rfl, h0, r0⟩ := trodAll_cons hA
  obtain ⟨rfl, rfl, rfl⟩ := trodAll_nil r0
  obtain rfl : args = #[v0] := by cases args; simp_all
  obtain ⟨rfl, rfl⟩ := trodVars_none hV
  have k0 := h0
  have lt0 : ∀ x ∈ p0, x.block < W.heap.size := by obtain ⟨m, hm⟩ := k0; exact DataW.trod_lt m _ _ _ hm
  obtain ⟨cs0, rfl, _⟩ := okWide_struct Tryd.underlying28 (hval 0 28 v0 rfl rfl)
  have rd0 : Rd Tryd.prog W 28 cs0.toList := by obtain ⟨m, hm⟩ := k0; exact ⟨H, enc, m, _, hm⟩
  clear hA0 hval0
  refine (exactFrameLine_walk W cs0 rd0 (tab hL)).mono fun e W' ⟨he, hm⟩ => ?_
  have bel := hm.below (Nat.le_refl _) fun _ _ h => h
  subst he
  exact ⟨_, rfl, _, _, _, [], _, [], hW', trodAll_mk1 (shut_bool Tryd.underlying4 _), (trodAll_cons_mk (Below.trod laidOut (by kernel_rfl) (of_decide_eq_true (by kernel_rfl)) k0 bel lt0) trodAll_mk0), rfl, bel.frame _, fun h => by cases h⟩

theorem over : Rows.fnExactFrameLineRow.holds Tryd.pinned (OpenSpec.ofChange Rows.fnExactFrameLineSpec) :=
  OpenClaim.holds_of_wide 4 Tryd.f4 rfl rfl rfl rfl rfl rfl rfl ⟨rfl, rfl, rfl, rfl, rfl⟩ rfl rfl rfl rfl rfl (by kernel_rfl) Tryd.func4 (by kernel_rfl)
    (of_decide_eq_true (by kernel_rfl)) (by unfold Func.isWrapper; first | (rw [if_pos (by decide +kernel)]; kernel_rfl) | (rw [if_neg (by decide +kernel)]; exact ⟨rfl, rfl⟩))
    (fun os started H enc _ => by rw [OpenClaim.pre_eq_preRow]; exact lifted os started H enc (fun _ _ _ => 0))
theorem plain (f : FuncId) (fn : Func) (hf : Tryd.pinned.checked.prog.funcNamed "loop.example/g00972/laws.FnExactFrameLine" = some f) (hfn : Tryd.pinned.checked.prog.funcs[f]? = some fn) :
    false = Tryd.pinned.checked.prog.looks [] ∧ ∀ (j : Nat) t, fn.params[j]? = some t → Tryd.pinned.checked.prog.wantsStandIn t = false := by
  obtain rfl : f = 4 := Option.some.inj ((show Tryd.prog.funcNamed "loop.example/g00972/laws.FnExactFrameLine" = some 4 by kernel_rfl).symm.trans hf) |>.symm
  obtain rfl : fn = Tryd.f4 := (Option.some.inj (Tryd.func4.symm.trans hfn)).symm
  refine ⟨by kernel_rfl, fun j t ht => ?_⟩
  rw [Tryd.params4] at ht
  have hm : t ∈ [28] := by simpa using Array.mem_of_getElem? ht
  have hall : ([28].all fun u => !Tryd.prog.wantsStandIn u) = true := by kernel_rfl
  exact (show Tryd.prog.wantsStandIn t = false by simpa using List.all_eq_true.1 hall t hm)

theorem proved : Rows.FnExactFrameLineCardSaid :=
  Claim7.holds_tied_plain_at .later [] [.data, .data, .data] true (true, "b41c997df20e0f9293f332067e759604644ac6b5ea6057bb5a6a867ea87b31be") false over (fun _ h => by cases h) (by kernel_rfl) (fun _ h => by cases h) fnExactFrameLine_row_tie rfl ⟨rfl, rfl⟩ (by kernel_rfl) rfl plain (by kernel_rfl)
#print axioms proved
end fnExactFrameLine


end Go.Proofs.YtefgjjmnjanleaaDoor
