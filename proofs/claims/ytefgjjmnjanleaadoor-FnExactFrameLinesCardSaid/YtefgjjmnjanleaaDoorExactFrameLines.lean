/-
  PROVED: for every list of frames the law FnExactFrameLines returns true. Condition: the library's tables, which the row lists, lie as the library's text lays them (tied).
-/
import Derived.Test.YtefgjjmnjanleaaDoorFrameLines
import Derived.Test.YtefgjjmnjanleaaDoorStrS
import Derived.Test.YtefgjjmnjanleaaDoorDoorKit
namespace Go.Proofs.YtefgjjmnjanleaaDoor
open Go.RowKit

set_option maxRecDepth 100000 in
set_option maxHeartbeats 4000000 in
theorem exactFrameLines_walk (w : World) (a : Option Addr) (len cap : Nat) (rd : Rd Tryd.prog w 44 [.slice a len cap]) (ht : Tab w) :
    Calls Tryd.prog 6 #[.slice a len cap] w fun e w' => e = .returned (.bool true) ∧ Mod (fun _ => False) w w' := by
  obtain ⟨a', l, cap', e, hl, hm, hs⟩ := rd.list (rep := fun _ r x => r = Frame.cells x ∧ x.ok) (sz := 5) Tryd.underlying44 (by kernel_rfl) (by decide) (fun cs h => rd_Frame h)
  simp only [List.cons.injEq, Value.slice.injEq, and_true] at e
  obtain ⟨rfl, rfl, rfl⟩ := e
  unfold maxLen at hm
  obtain ⟨hs, hok⟩ := hs.split
  have H := hid hs
  have Ht := hid ht
  have Hok := hid hok
  clear hs rd ht hok
  by_cases hb : (1048576 : Int) < l.length
  · go_enter Tryd.func6, Tryd.ntmps6
    go_wp2_with fail
    refine (szFrameS_any _ _ _ _ (by omega) (by omega) (by omega) _).mono ?_
    rintro e w' ⟨rfl, rfl⟩
    rw [if_pos (by omega)]
    go_wp2
    go_ret
    exact ⟨rfl, Mod.refl _ _⟩
  · have hl' : l.length ≤ 1048576 := by omega
    obtain ⟨res, hres⟩ : ∃ res, res = l.map frameW := ⟨_, rfl⟩
    have fl : res.length ≤ 1048576 := by rw [hres, List.length_map]; omega
    have Hres := hid hres
    clear hres
    go_enter Tryd.func6, Tryd.ntmps6
    go_wp2_with fail
    refine (szFrameS_any _ _ _ _ (by omega) (by omega) (by omega) _).mono ?_
    rintro e w' ⟨rfl, rfl⟩
    rw [if_neg (by omega)]
    have b1 : 0 ≤ 1048576 - (l.length : Int) := by omega
    go_wp2_with fail
    -- the reference's answer
    refine (toFrameS_any l _ _ _ w hl' H.out).mono ?_
    intro e w1 hr
    obtain ⟨g1, rfl, hg1, hgs1, hs1, _, hm1⟩ := NewRows.use (cells := Frame.cells) (sz := 5) hr (fun _ => rfl)
    clear hr
    go_wp2_with fail
    refine (sframeLines_any l _ _ _ w1 hl' hs1 Hok.out).mono ?_
    intro e w2 hr
    rw [← Hres.out] at hr
    obtain ⟨a2, c2, _, _, rfl, _, hs2, _, hm2⟩ := NewSlice.use (cells := tcell) (sz := 1) hr (fun _ => rfl) (by decide)
    replace hs2 := hs2.low
    clear hr hs1
    have hM2 := hm1.thenNone hm2
    go_wp2_with fail
    -- the program's
    refine (toFrameS_any l _ _ _ w2 hl' (H.out.flatKeep hM2)).mono ?_
    intro e w3 hr
    obtain ⟨g3, rfl, hg3, hgs3, hs3, hf3, hm3⟩ := NewRows.use (cells := Frame.cells) (sz := 5) hr (fun _ => rfl)
    clear hr
    go_wp2_with fail
    refine (frameLines_any l _ _ _ w3 hl' hs3 Hok.out (Ht.out.keep (hM2.thenNone hm3))).mono ?_
    intro e w4 hr
    rw [← Hres.out] at hr
    obtain ⟨a4, c4, g4, N4, rfl, hg4, hs4, hf4, hm4⟩ := NewSlice.use (cells := tcell) (sz := 1) hr (fun _ => rfl) (by decide)
    clear hr
    have hM4 := hM2.thenNone (hm3.thenNone hm4)
    go_wp2_with fail
    refine (eqStringS_any res res _ _ _ _ _ _ w4 (by omega) (by omega) hs4 (hs2.flatKeep (hm3.thenNone hm4))).mono ?_
    rintro e w5 ⟨rfl, hm5⟩
    rw [decide_eq_true rfl]
    have hM5 := hM4.thenNone hm5
    go_wp2_with fail
    refine (toFrameS_any l _ _ _ w5 hl' (H.out.flatKeep hM5)).mono ?_
    intro e w6 hr
    obtain ⟨g6, rfl, hg6, hgs6, hs6, _, hm6⟩ := NewRows.use (cells := Frame.cells) (sz := 5) hr (fun _ => rfl)
    clear hr
    have hm46 := (hm4.thenNone hm5).thenNone hm6
    go_wp2_with fail
    refine (eqFrameS_any l l _ _ _ _ _ _ w6 (by omega) (by omega) (hs3.flatKeep hm46) hs6).mono ?_
    rintro e w7 ⟨rfl, hm7⟩
    rw [decide_eq_true rfl]
    go_wp2_with fail
    -- the argument's copy is written over: the answer stands
    refine (markFrameS_any l.length l.length _ g3 (l.length * 5) w7 1 (by omega) (by omega) hl' (.inr ⟨rfl, Nat.le_refl _, hf3.mod (hm46.thenNone hm7) (fun f => f)⟩)).mono ?_
    rintro e w8 ⟨rfl, hm8, _⟩
    have k0 : decide ((1 : Int) + l.length * 5 < 0) = false := by simp; omega
    have hm48 := ((hm5.thenNone hm6).thenNone hm7)
    go_wp2_with fail
    have hs48 := (hs4.flatKeep hm48).flatMod hm8 (fun k hk (e : k = g3) => by omega)
    have hs28 := ((hs2.flatKeep (hm3.thenNone hm4)).flatKeep hm48).flatMod hm8 (fun k hk (e : k = g3) => by omega)
    refine (eqStringS_any res res _ _ _ _ _ _ w8 (by omega) (by omega) hs48 hs28).mono ?_
    rintro e w9 ⟨rfl, hm9⟩
    rw [decide_eq_true rfl]
    have hM9 := ((hM4.thenNone hm48).thenNew hm8 (by have := hM2.size; omega)).thenNone hm9
    go_wp2_with fail
    -- the answer is marked, and holds its marks
    have hf9 : res.length = 0 ∨ a4 = some ⟨g4, 0, none⟩ ∧ res.length * 1 ≤ N4 ∧ Filled g4 9 N4 w9 [] :=
      hf4.imp id fun ⟨h1, h2, h3⟩ => ⟨h1, h2, ((h3.mod hm48 (fun f => f)).mod hm8 (fun (e : g4 = g3) => by omega)).mod hm9 (fun f => f)⟩
    refine (markStringS_any res.length _ _ g4 N4 w9 1 (by omega) (by omega) (by omega) hf9).mono ?_
    rintro e w10 ⟨rfl, hm10, hf10⟩
    have hM10 := hM9.thenNew hm10 (by have := (hM2.thenNone hm3).size; omega)
    go_wp2_with fail
    have hh10 : res.length = 0 ∨ a4 = some ⟨g4, 0, none⟩ ∧ res.length * 1 ≤ N4 ∧ Filled g4 9 N4 w10 (Text.marks 1 res.length) := by
      rcases hf9 with h | ⟨h1, h2, _⟩
      · exact .inl h
      · exact hf10.imp id fun h3 => ⟨h1, h2, h3⟩
    refine (heldStringS_any res.length _ _ g4 N4 w10 1 (by omega) (by omega) (by omega) hh10).mono ?_
    rintro e w11 ⟨rfl, hm11⟩
    have hM11 := hM10.thenNone hm11
    go_wp2_with fail
    -- once more
    refine (toFrameS_any l _ _ _ w11 hl' (H.out.flatKeep hM11)).mono ?_
    intro e w12 hr
    obtain ⟨g12, rfl, hg12, hgs12, hs12, _, hm12⟩ := NewRows.use (cells := Frame.cells) (sz := 5) hr (fun _ => rfl)
    clear hr
    go_wp2_with fail
    refine (frameLines_any l _ _ _ w12 hl' hs12 Hok.out (Ht.out.keep (hM11.thenNone hm12))).mono ?_
    intro e w13 hr
    rw [← Hres.out] at hr
    obtain ⟨a13, c13, _, _, rfl, _, hs13, _, hm13⟩ := NewSlice.use (cells := tcell) (sz := 1) hr (fun _ => rfl) (by decide)
    clear hr
    have hm1013 := (hm11.thenNone hm12).thenNone hm13
    go_wp2_with fail
    have hs213 := ((hs28.flatKeep hm9).flatMod hm10 (fun k hk (e : k = g4) => by have := hm3.size; omega)).flatKeep hm1013
    refine (eqStringS_any res res _ _ _ _ _ _ w13 (by omega) (by omega) hs13 hs213).mono ?_
    rintro e w14 ⟨rfl, hm14⟩
    rw [decide_eq_true rfl]
    go_wp2_with fail
    have hh14 : res.length = 0 ∨ a4 = some ⟨g4, 0, none⟩ ∧ res.length * 1 ≤ N4 ∧ Filled g4 9 N4 w14 (Text.marks 1 res.length) :=
      hh10.imp id fun ⟨h1, h2, h3⟩ => ⟨h1, h2, h3.mod (hm1013.thenNone hm14) (fun f => f)⟩
    refine (heldStringS_any res.length _ _ g4 N4 w14 1 (by omega) (by omega) (by omega) hh14).mono ?_
    rintro e w15 ⟨rfl, hm15⟩
    go_wp2
    go_ret
    exact ⟨rfl, hM10.thenNone ((hm1013.thenNone hm14).thenNone hm15)⟩

/-! ### The row's frame (the kit's PinupProofs, turned) -/
namespace fnExactFrameLines
open Go.ChangeShapes Go.WideShapes Go.ChangeAt Go.RowKit
set_option linter.unusedVariables false

theorem own : ownKnob Tryd.prog.godebug = none := by kernel_rfl
theorem laidOut : laidOutB Tryd.prog = true := by kernel_rfl
theorem tab {W : World} (h : laidMetH Tryd.prog Rows.fnExactFrameLinesRow.laid W) : Tab W := by
  rw [MakeChecks.laidMetH_plain _ _ _ (by kernel_rfl)] at h
  exact Lib.tabIs_of_head (rest := []) tab_global tab_type Tryd.underlying162 Tryd.underlying155 (by kernel_rfl) (by kernel_rfl) h.tail.tail

set_option maxRecDepth 100000 in
theorem lifted (os : Os) (started : os.Started) (H : Type) (enc : TypeId × Value → H) (F : Stop.Interp) :
    ReturnsInHanded {} Tryd.checked os 6 .any ((OpenSpec.ofChange Rows.fnExactFrameLinesSpec).preRow enc Tryd.prog Tryd.f6 Rows.fnExactFrameLinesRow.domain false Rows.fnExactFrameLinesRow.laid) (((OpenSpec.ofChange Rows.fnExactFrameLinesSpec).at F).post enc Tryd.prog Tryd.f6 false true false false) := by
  refine returnsInHanded_of_row (C := Tryd.checked) (s := OpenSpec.ofChange Rows.fnExactFrameLinesSpec) own started (by kernel_rfl) Tryd.func6
    (ChangeSpec.witness_shaped (enc := enc) (C := Tryd.checked) (os := os) (s := Rows.fnExactFrameLinesSpec) (X := fun w _ => laidMetH Tryd.prog Rows.fnExactFrameLinesRow.laid w) false (World.laidAll Tryd.prog os Rows.fnExactFrameLinesRow.laid) #[.slice none 0 0] 8 (World.laidAll_os _ _ _)
      (World.shaped_of_ZipB (by kernel_rfl) (by kernel_rfl)) (by kernel_rfl) (by kernel_rfl) (by kernel_rfl)
      (by rw [MakeChecks.laidMetH_plain _ _ _ (by kernel_rfl)]; exact laidMet_laidAll _ (by kernel_rfl) (by kernel_rfl))) ?_
  intro W base args ds gs before hval0 hW _ _ _ hL hsh _
  have hval : ∀ (j : Nat) t v, Tryd.f6.params[j]? = some t → args[j]? = some v → Value.okWide Tryd.prog W .any base t v := hval0
  have hW' := hW
  obtain ⟨p, q, hA0, hV, rfl, hfz, hnd⟩ := hW
  have hA : DataW.TrodAll enc Tryd.prog W 0 (fun _ => true) true Tryd.f6.params.toList args.toList ds p := hA0
  rw [Tryd.params6] at hA hval
  obtain ⟨v0, vs0, d0, ds0, p0, q0, hargs, rfl, rfl, h0, r0⟩ := trodAll_cons hA
  obtain ⟨rfl, rfl, rfl⟩ := trodAll_nil r0
  obtain rfl : args = #[v0] := by cases args; simp_all
  obtain ⟨rfl, rfl⟩ := trodVars_none hV
  have k0 := h0
  have lt0 : ∀ x ∈ p0, x.block < W.heap.size := by obtain ⟨m, hm⟩ := k0; exact DataW.trod_lt m _ _ _ hm
  obtain ⟨a0, len0, cap0, rfl⟩ := okWide_slice Tryd.underlying44 (hval 0 44 v0 rfl rfl)
  have rd0 : Rd Tryd.prog W 44 [.slice a0 len0 cap0] := by obtain ⟨m, hm⟩ := k0; exact ⟨H, enc, m, _, hm⟩
  clear hA0 hval0
  refine (exactFrameLines_walk W a0 len0 cap0 rd0 (tab hL)).mono fun e W' ⟨he, hm⟩ => ?_
  have bel := hm.below (Nat.le_refl _) fun _ _ h => h
  subst he
  exact ⟨_, rfl, _, _, _, [], _, [], hW', trodAll_mk1 (shut_bool Tryd.underlying4 _), (trodAll_cons_mk (Below.trod laidOut (by kernel_rfl) (of_decide_eq_true (by kernel_rfl)) k0 bel lt0) trodAll_mk0), rfl, bel.frame _, fun h => by cases h⟩

theorem over : Rows.fnExactFrameLinesRow.holds Tryd.pinned (OpenSpec.ofChange Rows.fnExactFrameLinesSpec) :=
  OpenClaim.holds_of_wide 6 Tryd.f6 rfl rfl rfl rfl rfl rfl rfl ⟨rfl, rfl, rfl, rfl, rfl⟩ rfl rfl rfl rfl rfl (by kernel_rfl) Tryd.func6 (by kernel_rfl)
    (of_decide_eq_true (by kernel_rfl)) (by unfold Func.isWrapper; first | (rw [if_pos (by decide +kernel)]; kernel_rfl) | (rw [if_neg (by decide +kernel)]; exact ⟨rfl, rfl⟩))
    (fun os started H enc _ => by rw [OpenClaim.pre_eq_preRow]; exact lifted os started H enc (fun _ _ _ => 0))
theorem plain (f : FuncId) (fn : Func) (hf : Tryd.pinned.checked.prog.funcNamed "loop.example/g00972/laws.FnExactFrameLines" = some f) (hfn : Tryd.pinned.checked.prog.funcs[f]? = some fn) :
    false = Tryd.pinned.checked.prog.looks [] ∧ ∀ (j : Nat) t, fn.params[j]? = some t → Tryd.pinned.checked.prog.wantsStandIn t = false := by
  obtain rfl : f = 6 := Option.some.inj ((show Tryd.prog.funcNamed "loop.example/g00972/laws.FnExactFrameLines" = some 6 by kernel_rfl).symm.trans hf) |>.symm
  obtain rfl : fn = Tryd.f6 := (Option.some.inj (Tryd.func6.symm.trans hfn)).symm
  refine ⟨by kernel_rfl, fun j t ht => ?_⟩
  rw [Tryd.params6] at ht
  have hm : t ∈ [44] := by simpa using Array.mem_of_getElem? ht
  have hall : ([44].all fun u => !Tryd.prog.wantsStandIn u) = true := by kernel_rfl
  exact (show Tryd.prog.wantsStandIn t = false by simpa using List.all_eq_true.1 hall t hm)

theorem proved : Rows.FnExactFrameLinesCardSaid :=
  Claim7.holds_tied_plain_at .later [] [.data, .data, .data] true (true, "b41c997df20e0f9293f332067e759604644ac6b5ea6057bb5a6a867ea87b31be") false over (fun _ h => by cases h) (by kernel_rfl) (fun _ h => by cases h) fnExactFrameLines_row_tie rfl ⟨rfl, rfl⟩ (by kernel_rfl) rfl plain (by kernel_rfl)
#print axioms proved
end fnExactFrameLines


end Go.Proofs.YtefgjjmnjanleaaDoor
