/-
  PROVED: for every memo the law FnExactMemoLine returns true. Condition: the library's tables, which the row lists, lie as the library's text lays them (tied).
-/
import Derived.Test.YtefgjjmnjanleaaDoorMemoLine
import Derived.Test.YtefgjjmnjanleaaDoorDoorKit
namespace Go.Proofs.YtefgjjmnjanleaaDoor
open Go.RowKit

set_option maxRecDepth 100000 in
set_option maxHeartbeats 8000000 in
theorem exactMemoLine_walk (w : World) (cs : Array Value) (rd : Rd Tryd.prog w 76 cs.toList) (ht : Tab w) :
    Calls Tryd.prog 8 #[.agg cs] w fun e w' => e = .returned (.bool true) ∧ Mod (fun _ => False) w w' := by
  obtain ⟨x, a, c, e, hok, hl, hs⟩ := rd_Memo rd
  obtain rfl : cs = #[.int .i64 x.node, .int .i64 x.wide.mode, .int .i64 x.wide.n, .int .i64 x.high.mode, .int .i64 x.high.n, .bool x.rtl, .int .i64 x.bw, .int .i64 x.bh, .int .i64 x.bb, .slice a x.frames.length c] := by
    apply Array.toList_inj.1
    exact e
  have Ht := hid ht
  have H := hid hs
  have Hok := hid hok
  clear ht hs rd e hok
  have hx := heap_alloc_new w (.cells [Value.int .i64 x.node, .int .i64 x.wide.mode, .int .i64 x.wide.n, .int .i64 x.high.mode, .int .i64 x.high.n, .bool x.rtl, .int .i64 x.bw, .int .i64 x.bh, .int .i64 x.bb, .slice a x.frames.length c].toArray 76)
  by_cases hb : (1048576 : Int) < x.frames.length
  · go_enter Tryd.func8, Tryd.ntmps8
    go_wp2_with fail
    refine (szMemo_any x _ _ _ _ (by omega) (by omega) hl _).mono ?_
    rintro e w1 ⟨rfl, hm1⟩
    rw [if_pos hb]
    clear hx
    go_wp2
    go_ret
    exact ⟨rfl, ((Mod.refl _ w).alloc _).thenNone hm1⟩
  · have hl' : x.frames.length ≤ 1048576 := by omega
    have hd : 0 ≤ (1048576 : Int) - x.frames.length := by omega
    go_enter Tryd.func8, Tryd.ntmps8
    go_wp2_with fail
    refine (szMemo_any x _ _ _ _ (by omega) (by omega) hl _).mono ?_
    rintro e w1 ⟨rfl, hm1⟩
    rw [if_neg (by omega)]
    have hM1 : Mod (fun _ => False) w w1 := ((Mod.refl _ w).alloc _).thenNone hm1
    have hB1 := hm1.blk hx (fun f => f)
    have hr : w.heap.size < w1.heap.size := (Array.getElem?_eq_some_iff.1 hB1).1
    have sc0 := blk_cell hB1 (j := 0) rfl
    have sz0 := blk_free hB1 0
    have sc1 := blk_cell hB1 (j := 1) rfl
    have sz1 := blk_free hB1 1
    have sc2 := blk_cell hB1 (j := 2) rfl
    have sz2 := blk_free hB1 2
    have sc3 := blk_cell hB1 (j := 3) rfl
    have sz3 := blk_free hB1 3
    have sc4 := blk_cell hB1 (j := 4) rfl
    have sz4 := blk_free hB1 4
    have sc5 := blk_cell hB1 (j := 5) rfl
    have sz5 := blk_free hB1 5
    have sc6 := blk_cell hB1 (j := 6) rfl
    have sz6 := blk_free hB1 6
    have sc7 := blk_cell hB1 (j := 7) rfl
    have sz7 := blk_free hB1 7
    have sc8 := blk_cell hB1 (j := 8) rfl
    have sz8 := blk_free hB1 8
    have sc9 := blk_cell hB1 (j := 9) rfl
    have sz9 := blk_free hB1 9
    clear hm1 hx
    go_wp2_with fail
    refine (toMemo_any x _ _ _ w1 hl' (H.out.flatKeep hM1)).mono ?_
    rintro e w2 ⟨g2, rfl, _, hb2, hm2⟩
    have hM2 := hM1.thenNone hm2
    have hB2 := hm2.blk hB1 (fun f => f)
    go_wp2_with fail
    refine (smemoLine_any x Hok.out _ _).mono ?_
    rintro e w3 ⟨rfl, hm3⟩
    have hM3 := hM2.thenNone hm3
    have hB3 := hm3.blk hB2 (fun f => f)
    have hr3 : w.heap.size < w3.heap.size := (Array.getElem?_eq_some_iff.1 hB3).1
    clear hb2 hM2 hM1 hB2 hB1 hm2 hm3 hr sc0 sz0 sc1 sz1 sc2 sz2 sc3 sz3 sc4 sz4 sc5 sz5 sc6 sz6 sc7 sz7 sc8 sz8 sc9 sz9
    have sc0 := blk_cell hB3 (j := 0) rfl
    have sz0 := blk_free hB3 0
    have sc1 := blk_cell hB3 (j := 1) rfl
    have sz1 := blk_free hB3 1
    have sc2 := blk_cell hB3 (j := 2) rfl
    have sz2 := blk_free hB3 2
    have sc3 := blk_cell hB3 (j := 3) rfl
    have sz3 := blk_free hB3 3
    have sc4 := blk_cell hB3 (j := 4) rfl
    have sz4 := blk_free hB3 4
    have sc5 := blk_cell hB3 (j := 5) rfl
    have sz5 := blk_free hB3 5
    have sc6 := blk_cell hB3 (j := 6) rfl
    have sz6 := blk_free hB3 6
    have sc7 := blk_cell hB3 (j := 7) rfl
    have sz7 := blk_free hB3 7
    have sc8 := blk_cell hB3 (j := 8) rfl
    have sz8 := blk_free hB3 8
    have sc9 := blk_cell hB3 (j := 9) rfl
    have sz9 := blk_free hB3 9
    go_wp2_with fail
    refine (toMemo_any x _ _ _ w3 hl' (H.out.flatKeep hM3)).mono ?_
    rintro e w4 ⟨g4, rfl, hg4, hb4, hm4⟩
    have s4 := flat_of_blk hb4 (sz := 5) (fun _ => rfl)
    have hM4 := hM3.thenNone hm4
    clear hb4
    have hB4 := heap_alloc_keep (o := .cells #[.int .i64 x.node, .int .i64 x.wide.mode, .int .i64 x.wide.n, .int .i64 x.high.mode, .int .i64 x.high.n, .bool x.rtl, .int .i64 x.bw, .int .i64 x.bh, .int .i64 x.bb, .slice (some ⟨g4, 0, none⟩) x.frames.length x.frames.length] 83) (hm4.blk hB3 (fun f => f))
    have hX4 := heap_alloc_new w4 (.cells [Value.int .i64 x.node, .int .i64 x.wide.mode, .int .i64 x.wide.n, .int .i64 x.high.mode, .int .i64 x.high.n, .bool x.rtl, .int .i64 x.bw, .int .i64 x.bh, .int .i64 x.bb, .slice (some ⟨g4, 0, none⟩) x.frames.length x.frames.length].toArray 83)
    have H4 := hid (s4.flatKeep ((Mod.refl _ w4).alloc (.cells #[.int .i64 x.node, .int .i64 x.wide.mode, .int .i64 x.wide.n, .int .i64 x.high.mode, .int .i64 x.high.n, .bool x.rtl, .int .i64 x.bw, .int .i64 x.bh, .int .i64 x.bb, .slice (some ⟨g4, 0, none⟩) x.frames.length x.frames.length] 83)))
    clear s4 hM3 hB3 hm4 hr3 sc0 sz0 sc1 sz1 sc2 sz2 sc3 sz3 sc4 sz4 sc5 sz5 sc6 sz6 sc7 sz7 sc8 sz8 sc9 sz9
    go_wp2_with fail
    refine (memoLine_any x Hok.out _ _ (Ht.out.keep (hM4.alloc _))).mono ?_
    rintro e w5 ⟨rfl, hm5⟩
    have hM5 : Mod (fun _ => False) w w5 := (hM4.alloc _).thenNone hm5
    have hB5 := hm5.blk hB4 (fun f => f)
    have hX5 := hm5.blk hX4 (fun f => f)
    have H5 := hid (H4.out.flatKeep hm5)
    have q0 := hold (blk_cell hB5 (j := 0) rfl)
    have p0 := hold (blk_cell hX5 (j := 0) rfl)
    have q1 := hold (blk_cell hB5 (j := 1) rfl)
    have p1 := hold (blk_cell hX5 (j := 1) rfl)
    have q2 := hold (blk_cell hB5 (j := 2) rfl)
    have p2 := hold (blk_cell hX5 (j := 2) rfl)
    have q3 := hold (blk_cell hB5 (j := 3) rfl)
    have p3 := hold (blk_cell hX5 (j := 3) rfl)
    have q4 := hold (blk_cell hB5 (j := 4) rfl)
    have p4 := hold (blk_cell hX5 (j := 4) rfl)
    have q5 := hold (blk_cell hB5 (j := 5) rfl)
    have p5 := hold (blk_cell hX5 (j := 5) rfl)
    have q6 := hold (blk_cell hB5 (j := 6) rfl)
    have p6 := hold (blk_cell hX5 (j := 6) rfl)
    have q7 := hold (blk_cell hB5 (j := 7) rfl)
    have p7 := hold (blk_cell hX5 (j := 7) rfl)
    have q8 := hold (blk_cell hB5 (j := 8) rfl)
    have p8 := hold (blk_cell hX5 (j := 8) rfl)
    have q9 := hold (blk_cell hB5 (j := 9) rfl)
    have p9 := hold (blk_cell hX5 (j := 9) rfl)
    generalize memoW x = T
    clear hM4 H4 hB4 hX4 hm5 hB5 hX5
    go_wp2
    refine wp_region_mod (by kernel_rfl) (by kernel_rfl) ?_
    refine RM.const (v := ?_) (fun _ => rfl) (fun xq wq hSq => ?_) ?_; rotate_left; (focus (go_simp; (first | done | with_reducible rfl | ((split; (exfalso; omega)); with_reducible rfl)))); (try simp only [Act.put, List.setIfInBounds_toArray, List.set_cons_zero, List.set_cons_succ])
    refine RM.const (v := ?_) (fun _ => rfl) (fun xq wq hSq => ?_) ?_; rotate_left; (focus (go_simp; (first | done | with_reducible rfl | ((split; (exfalso; omega)); with_reducible rfl)))); (try simp only [Act.put, List.setIfInBounds_toArray, List.set_cons_zero, List.set_cons_succ])
    refine RM.new (f := ?_) (args := ?_) [] (MemoAt x) (by kernel_rfl) (fun _ _ _ h hm => h.keep hm) (fun _ => rfl) (fun xq wq hSq => ?_) (fun xq wq hSq hKq => ?_) ?_; rotate_left 2; (focus (go_simp; (refine ⟨?_, ?_⟩ <;> with_reducible rfl))); (focus (exact (toMemo_any x _ _ _ _ hl' (H.out.flatKeep (hM5.thenNone hSq))).mono fun _ _ h => h.at)); (try simp only [Act.put, List.setIfInBounds_toArray, List.set_cons_zero, List.set_cons_succ])
    refine RM.call (v := ?_) (f := ?_) (args := ?_) [2] (by kernel_rfl) (fun _ => rfl) (fun xq wq hSq => ?_) (fun xq wq hSq hKq => ?_) ?_; rotate_left 3; (focus (go_simp; (refine ⟨?_, ?_⟩ <;> with_reducible rfl))); (focus (obtain ⟨a6, c6, h6, R6, s6⟩ := hKq _ List.mem_cons_self (by simp); simp only at h6; simp only [h6]; have hh := eqMemo_any x (some ⟨g4, 0, none⟩) a6 x.frames.length c6 _ _ _ hl' (H5.out.flatKeep hSq) s6; refine hh.mono ?_; rintro e w6 ⟨rfl, hm6⟩; refine ⟨?_, hm6⟩; with_reducible rfl)); (try simp only [Act.put, List.setIfInBounds_toArray, List.set_cons_zero, List.set_cons_succ])
    refine RM.const (v := ?_) (fun _ => rfl) (fun xq wq hSq => ?_) ?_; rotate_left; (focus (go_simp; (first | done | with_reducible rfl | ((split; (exfalso; omega)); with_reducible rfl)))); (try simp only [Act.put, List.setIfInBounds_toArray, List.set_cons_zero, List.set_cons_succ])
    refine RM.done (fun xq wq hSq hUq => ?_)
    clear q0 p0 q1 p1 q2 p2 q3 p3 q4 p4 q5 p5 q6 p6 q7 p7 q8 p8 q9 p9 hUq
    go_wp2
    go_ret
    exact ⟨rfl, hM5.thenNone hSq⟩

/-! ### The row's frame (the kit's PinupProofs, turned) -/
namespace fnExactMemoLine
open Go.ChangeShapes Go.WideShapes Go.ChangeAt Go.RowKit
set_option linter.unusedVariables false

theorem own : ownKnob Tryd.prog.godebug = none := by kernel_rfl
theorem laidOut : laidOutB Tryd.prog = true := by kernel_rfl
theorem tab {W : World} (h : laidMetH Tryd.prog Rows.fnExactMemoLineRow.laid W) : Tab W := by
  rw [MakeChecks.laidMetH_plain _ _ _ (by kernel_rfl)] at h
  exact Lib.tabIs_of_head (rest := []) tab_global tab_type Tryd.underlying162 Tryd.underlying155 (by kernel_rfl) (by kernel_rfl) h.tail.tail

set_option maxRecDepth 100000 in
theorem lifted (os : Os) (started : os.Started) (H : Type) (enc : TypeId × Value → H) (F : Stop.Interp) :
    ReturnsInHanded {} Tryd.checked os 8 .any ((OpenSpec.ofChange Rows.fnExactMemoLineSpec).preRow enc Tryd.prog Tryd.f8 Rows.fnExactMemoLineRow.domain false Rows.fnExactMemoLineRow.laid) (((OpenSpec.ofChange Rows.fnExactMemoLineSpec).at F).post enc Tryd.prog Tryd.f8 false true false false) := by
  refine returnsInHanded_of_row (C := Tryd.checked) (s := OpenSpec.ofChange Rows.fnExactMemoLineSpec) own started (by kernel_rfl) Tryd.func8
    (ChangeSpec.witness_shaped (enc := enc) (C := Tryd.checked) (os := os) (s := Rows.fnExactMemoLineSpec) (X := fun w _ => laidMetH Tryd.prog Rows.fnExactMemoLineRow.laid w) false (World.laidAll Tryd.prog os Rows.fnExactMemoLineRow.laid) #[.agg #[.int .i64 0, .int .i64 0, .int .i64 0, .int .i64 0, .int .i64 0, .bool false, .int .i64 0, .int .i64 0, .int .i64 0, .slice none 0 0]] 8 (World.laidAll_os _ _ _)
      (World.shaped_of_ZipB (by kernel_rfl) (by kernel_rfl)) (by kernel_rfl) (by kernel_rfl) (by kernel_rfl)
      (by rw [MakeChecks.laidMetH_plain _ _ _ (by kernel_rfl)]; exact laidMet_laidAll _ (by kernel_rfl) (by kernel_rfl))) ?_
  intro W base args ds gs before hval0 hW _ _ _ hL hsh _
  have hval : ∀ (j : Nat) t v, Tryd.f8.params[j]? = some t → args[j]? = some v → Value.okWide Tryd.prog W .any base t v := hval0
  have hW' := hW
  obtain ⟨p, q, hA0, hV, rfl, hfz, hnd⟩ := hW
  have hA : DataW.TrodAll enc Tryd.prog W 0 (fun _ => true) true Tryd.f8.params.toList args.toList ds p := hA0
  rw [Tryd.params8] at hA hval
  obtain ⟨v0, vs0, d0, ds0, p0, q0, hargs, rfl, rfl, h0, r0⟩ := trodAll_cons hA
  obtain ⟨rfl, rfl, rfl⟩ := trodAll_nil r0
  obtain rfl : args = #[v0] := by cases args; simp_all
  obtain ⟨rfl, rfl⟩ := trodVars_none hV
  have k0 := h0
  have lt0 : ∀ x ∈ p0, x.block < W.heap.size := by obtain ⟨m, hm⟩ := k0; exact DataW.trod_lt m _ _ _ hm
  obtain ⟨cs0, rfl, _⟩ := okWide_struct Tryd.underlying76 (hval 0 76 v0 rfl rfl)
  have rd0 : Rd Tryd.prog W 76 cs0.toList := by obtain ⟨m, hm⟩ := k0; exact ⟨H, enc, m, _, hm⟩
  clear hA0 hval0
  refine (exactMemoLine_walk W cs0 rd0 (tab hL)).mono fun e W' ⟨he, hm⟩ => ?_
  have bel := hm.below (Nat.le_refl _) fun _ _ h => h
  subst he
  exact ⟨_, rfl, _, _, _, [], _, [], hW', trodAll_mk1 (shut_bool Tryd.underlying4 _), (trodAll_cons_mk (Below.trod laidOut (by kernel_rfl) (of_decide_eq_true (by kernel_rfl)) k0 bel lt0) trodAll_mk0), rfl, bel.frame _, fun h => by cases h⟩

theorem over : Rows.fnExactMemoLineRow.holds Tryd.pinned (OpenSpec.ofChange Rows.fnExactMemoLineSpec) :=
  OpenClaim.holds_of_wide 8 Tryd.f8 rfl rfl rfl rfl rfl rfl rfl ⟨rfl, rfl, rfl, rfl, rfl⟩ rfl rfl rfl rfl rfl (by kernel_rfl) Tryd.func8 (by kernel_rfl)
    (of_decide_eq_true (by kernel_rfl)) (by unfold Func.isWrapper; first | (rw [if_pos (by decide +kernel)]; kernel_rfl) | (rw [if_neg (by decide +kernel)]; exact ⟨rfl, rfl⟩))
    (fun os started H enc _ => by rw [OpenClaim.pre_eq_preRow]; exact lifted os started H enc (fun _ _ _ => 0))
theorem plain (f : FuncId) (fn : Func) (hf : Tryd.pinned.checked.prog.funcNamed "loop.example/g00972/laws.FnExactMemoLine" = some f) (hfn : Tryd.pinned.checked.prog.funcs[f]? = some fn) :
    false = Tryd.pinned.checked.prog.looks [] ∧ ∀ (j : Nat) t, fn.params[j]? = some t → Tryd.pinned.checked.prog.wantsStandIn t = false := by
  obtain rfl : f = 8 := Option.some.inj ((show Tryd.prog.funcNamed "loop.example/g00972/laws.FnExactMemoLine" = some 8 by kernel_rfl).symm.trans hf) |>.symm
  obtain rfl : fn = Tryd.f8 := (Option.some.inj (Tryd.func8.symm.trans hfn)).symm
  refine ⟨by kernel_rfl, fun j t ht => ?_⟩
  rw [Tryd.params8] at ht
  have hm : t ∈ [76] := by simpa using Array.mem_of_getElem? ht
  have hall : ([76].all fun u => !Tryd.prog.wantsStandIn u) = true := by kernel_rfl
  exact (show Tryd.prog.wantsStandIn t = false by simpa using List.all_eq_true.1 hall t hm)

theorem proved : Rows.FnExactMemoLineCardSaid :=
  Claim7.holds_tied_plain_at .later [] [.data, .data, .data] true (true, "b41c997df20e0f9293f332067e759604644ac6b5ea6057bb5a6a867ea87b31be") false over (fun _ h => by cases h) (by kernel_rfl) (fun _ h => by cases h) fnExactMemoLine_row_tie rfl ⟨rfl, rfl⟩ (by kernel_rfl) rfl plain (by kernel_rfl)
#print axioms proved
end fnExactMemoLine


end Go.Proofs.YtefgjjmnjanleaaDoor
