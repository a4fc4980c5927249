/-
  PROVED: the law FnExactKeyNames returns true. Condition: the library's tables, which the row lists, lie as the library's text lays them (tied).
-/
import Derived.Test.YtcolkidnjojlmaaDoorKeys
import Derived.Test.YtcolkidnjojlmaaDoorStrS
import Derived.Test.YtcolkidnjojlmaaDoorDoorKit
namespace Go.Proofs.YtcolkidnjojlmaaDoor
open Go.RowKit

theorem num0 {w : World} (h : w.ShapedOpen Tryd.prog) : Num0 w := Tryd.laysM146.s1_3 w h

set_option maxRecDepth 100000 in
set_option maxHeartbeats 4000000 in
theorem exactKeyNames_walk (w : World) (hsh : w.ShapedOpen Tryd.prog) :
    Calls Tryd.prog 3 #[] w fun e w' => e = .returned (.bool true) ∧ Mod (fun _ => False) w w' := by
  have Hz := hid (num0 hsh)
  clear hsh
  obtain ⟨res, hres⟩ : ∃ res, res = keyTexts := ⟨_, rfl⟩
  have fl : res.length ≤ 1048576 := by rw [hres]; decide
  have Hres := hid hres
  clear hres
  go_enter Tryd.func3, Tryd.ntmps3
  go_wp2_with fail
  refine (skeyNames_any _).mono ?_
  intro e w2 hr
  replace hr := hr.text
  rw [← Hres.out] at hr
  obtain ⟨a2, c2, _, _, rfl, _, hs2, _, hm2⟩ := NewSlice.use (cells := tcell) (sz := 1) hr (fun _ => rfl) (by decide)
  replace hs2 := hs2.low
  clear hr
  go_wp2_with fail
  refine (keyNames_any _ (Hz.out.keep hm2)).mono ?_
  intro e w4 hr
  replace hr := hr.text
  rw [← Hres.out] at hr
  obtain ⟨a4, c4, g4, N4, rfl, hg4, hs4, hf4, hm4⟩ := NewSlice.use (cells := tcell) (sz := 1) hr (fun _ => rfl) (by decide)
  clear hr
  have hM4 := hm2.thenNone hm4
  go_wp2_with fail
  refine (eqStringS_any res res _ _ _ _ _ _ w4 (by omega) (by omega) hs4 (hs2.flatKeep hm4)).mono ?_
  rintro e w9 ⟨rfl, hm9⟩
  rw [decide_eq_true rfl]
  have hM9 := hM4.thenNone hm9
  go_wp2_with fail
  have hf9 : res.length = 0 ∨ a4 = some ⟨g4, 0, none⟩ ∧ res.length * 1 ≤ N4 ∧ Filled g4 9 N4 w9 [] :=
    hf4.imp id fun ⟨h1, h2, h3⟩ => ⟨h1, h2, h3.mod hm9 (fun f => f)⟩
  refine (markStringS_any res.length _ _ g4 N4 w9 1 (by omega) (by omega) (by omega) hf9).mono ?_
  rintro e w10 ⟨rfl, hm10, hf10⟩
  have hM10 := hM9.thenNew hm10 (by have := hm2.size; omega)
  go_wp2_with fail
  have hh10 : res.length = 0 ∨ a4 = some ⟨g4, 0, none⟩ ∧ res.length * 1 ≤ N4 ∧ Filled g4 9 N4 w10 (Text.marks 1 res.length) := by
    rcases hf9 with h | ⟨h1, h2, _⟩
    · exact .inl h
    · exact hf10.imp id fun h3 => ⟨h1, h2, h3⟩
  refine (heldStringS_any res.length _ _ g4 N4 w10 1 (by omega) (by omega) (by omega) hh10).mono ?_
  rintro e w11 ⟨rfl, hm11⟩
  have hM11 := hM10.thenNone hm11
  go_wp2_with fail
  refine (keyNames_any _ (Hz.out.keep hM11)).mono ?_
  intro e w13 hr
  replace hr := hr.text
  rw [← Hres.out] at hr
  obtain ⟨a13, c13, _, _, rfl, _, hs13, _, hm13⟩ := NewSlice.use (cells := tcell) (sz := 1) hr (fun _ => rfl) (by decide)
  clear hr
  have hm1013 := hm11.thenNone hm13
  go_wp2_with fail
  have hs213 := ((((hs2.flatKeep hm4).flatKeep hm9).flatMod hm10 (fun k hk (e : k = g4) => by omega))).flatKeep hm1013
  refine (eqStringS_any res res _ _ _ _ _ _ w13 (by omega) (by omega) hs13 hs213).mono ?_
  rintro e w14 ⟨rfl, hm14⟩
  rw [decide_eq_true rfl]
  go_wp2_with fail
  have hh14 : res.length = 0 ∨ a4 = some ⟨g4, 0, none⟩ ∧ res.length * 1 ≤ N4 ∧ Filled g4 9 N4 w14 (Text.marks 1 res.length) :=
    hh10.imp id fun ⟨h1, h2, h3⟩ => ⟨h1, h2, h3.mod (hm1013.thenNone hm14) (fun f => f)⟩
  refine (heldStringS_any res.length _ _ g4 N4 w14 1 (by omega) (by omega) (by omega) hh14).mono ?_
  rintro e w15 ⟨rfl, hm15⟩
  go_wp2
  go_ret
  exact ⟨rfl, hM10.thenNone ((hm1013.thenNone hm14).thenNone hm15)⟩

/-! ### The row's frame (the kit's PinupProofs, turned) -/
namespace fnExactKeyNames
open Go.ChangeShapes Go.WideShapes Go.ChangeAt Go.RowKit
set_option linter.unusedVariables false

theorem own : ownKnob Tryd.prog.godebug = none := by kernel_rfl
theorem laidOut : laidOutB Tryd.prog = true := by kernel_rfl

set_option maxRecDepth 100000 in
theorem lifted (os : Os) (started : os.Started) (H : Type) (enc : TypeId × Value → H) (F : Stop.Interp) :
    ReturnsInHanded {} Tryd.checked os 3 .any ((OpenSpec.ofChange Rows.fnExactKeyNamesSpec).preRow enc Tryd.prog Tryd.f3 Rows.fnExactKeyNamesRow.domain false Rows.fnExactKeyNamesRow.laid) (((OpenSpec.ofChange Rows.fnExactKeyNamesSpec).at F).post enc Tryd.prog Tryd.f3 false true false false) := by
  refine returnsInHanded_of_row (C := Tryd.checked) (s := OpenSpec.ofChange Rows.fnExactKeyNamesSpec) own started (by kernel_rfl) Tryd.func3
    (ChangeSpec.witness_shaped (enc := enc) (C := Tryd.checked) (os := os) (s := Rows.fnExactKeyNamesSpec) (X := fun w _ => laidMetH Tryd.prog Rows.fnExactKeyNamesRow.laid w) false (World.laidAll Tryd.prog os Rows.fnExactKeyNamesRow.laid) #[] 8 (World.laidAll_os _ _ _)
      (World.shaped_of_ZipB (by kernel_rfl) (by kernel_rfl)) (by kernel_rfl) (by kernel_rfl) (by kernel_rfl)
      (by rw [MakeChecks.laidMetH_plain _ _ _ (by kernel_rfl)]; exact laidMet_laidAll _ (by kernel_rfl) (by kernel_rfl))) ?_
  intro W base args ds gs before hval0 hW _ _ _ hL hsh _
  have hval : ∀ (j : Nat) t v, Tryd.f3.params[j]? = some t → args[j]? = some v → Value.okWide Tryd.prog W .any base t v := hval0
  have hW' := hW
  obtain ⟨p, q, hA0, hV, rfl, hfz, hnd⟩ := hW
  have hA : DataW.TrodAll enc Tryd.prog W 0 (fun _ => true) true Tryd.f3.params.toList args.toList ds p := hA0
  rw [Tryd.params3] at hA hval
  obtain ⟨hargs, rfl, rfl⟩ := trodAll_nil hA
  obtain rfl : args = #[] := by cases args; simp_all
  obtain ⟨rfl, rfl⟩ := trodVars_none hV
  clear hA0 hval0
  refine (exactKeyNames_walk W hsh).mono fun e W' ⟨he, hm⟩ => ?_
  have bel := hm.below (Nat.le_refl _) fun _ _ h => h
  subst he
  exact ⟨_, rfl, _, _, _, [], _, [], hW', trodAll_mk1 (shut_bool Tryd.underlying4 _), trodAll_mk0, rfl, bel.frame _, fun h => by cases h⟩

theorem over : Rows.fnExactKeyNamesRow.holds Tryd.pinned (OpenSpec.ofChange Rows.fnExactKeyNamesSpec) :=
  OpenClaim.holds_of_wide 3 Tryd.f3 rfl rfl rfl rfl rfl rfl rfl ⟨rfl, rfl, rfl, rfl, rfl⟩ rfl rfl rfl rfl rfl (by kernel_rfl) Tryd.func3 (by kernel_rfl)
    (of_decide_eq_true (by kernel_rfl)) (by unfold Func.isWrapper; first | (rw [if_pos (by decide +kernel)]; kernel_rfl) | (rw [if_neg (by decide +kernel)]; exact ⟨rfl, rfl⟩))
    (fun os started H enc _ => by rw [OpenClaim.pre_eq_preRow]; exact lifted os started H enc (fun _ _ _ => 0))
theorem plain (f : FuncId) (fn : Func) (hf : Tryd.pinned.checked.prog.funcNamed "loop.example/g00972/laws.FnExactKeyNames" = some f) (hfn : Tryd.pinned.checked.prog.funcs[f]? = some fn) :
    true = Tryd.pinned.checked.prog.looks [] ∧ ∀ (j : Nat) t, fn.params[j]? = some t → Tryd.pinned.checked.prog.wantsStandIn t = false := by
  obtain rfl : f = 3 := Option.some.inj ((show Tryd.prog.funcNamed "loop.example/g00972/laws.FnExactKeyNames" = some 3 by kernel_rfl).symm.trans hf) |>.symm
  obtain rfl : fn = Tryd.f3 := (Option.some.inj (Tryd.func3.symm.trans hfn)).symm
  refine ⟨by kernel_rfl, fun j t ht => ?_⟩
  rw [Tryd.params3] at ht
  have hm : t ∈ [] := by simpa using Array.mem_of_getElem? ht
  have hall : ([].all fun u => !Tryd.prog.wantsStandIn u) = true := by kernel_rfl
  exact (show Tryd.prog.wantsStandIn t = false by simpa using List.all_eq_true.1 hall t hm)

theorem proved : Rows.FnExactKeyNamesCardSaid :=
  Claim7.holds_tied_plain_at .later [] [.data, .pinned] true (true, "f3eff8721536af0879b92b02f7f3054ab2f4461e486ab3493eeb4492b8d09f42") true over (fun _ h => by cases h) (by kernel_rfl) (fun _ h => by cases h) fnExactKeyNames_row_tie rfl ⟨rfl, rfl⟩ (by kernel_rfl) rfl plain (by kernel_rfl)
#print axioms proved
end fnExactKeyNames


end Go.Proofs.YtcolkidnjojlmaaDoor
