/-
  PROVED: for every list of requests the law FnExactAskedNodes returns true. Conditions: none.
-/
import Derived.Test.YtefgjjmnjanleaaAskedNodes
import Derived.Test.YtefgjjmnjanleaaRd
import Derived.Test.YtefgjjmnjanleaaRows
import Derived.ProofKit
import Derived.OpenShut
import Derived.ShutString
import Derived.ChangeOld
namespace Go.Proofs.Ytefgjjmnjanleaa
open Go.RowKit

set_option maxRecDepth 100000 in
theorem rd_Space {w : World} {cs : List Value} (h : Rd Try.prog w 117 cs) : ∃ x : Space, cs = x.cells := by
  obtain ⟨hl, hf⟩ := h.struct Try.underlying117
  have hl2 : cs.length = 2 := hl.trans (by kernel_rfl)
  have c1 : Try.prog.cellsOf 3 = 1 := by kernel_rfl
  match cs, hl2 with
  | [c0, c1'], _ =>
    obtain ⟨n0, e0, _⟩ := (hf 0 _ rfl).int Try.underlying3
    obtain ⟨n1, e1, _⟩ := (hf 1 _ rfl).int Try.underlying3
    simp [c1] at e0 e1
    exact ⟨⟨n0, n1⟩, by simp [Space.cells, e0, e1]⟩

set_option maxRecDepth 100000 in
theorem rd_Asked {w : World} {cs : List Value} (h : Rd Try.prog w 119 cs) : ∃ x : Asked, cs = x.cells := by
  obtain ⟨hl, hf⟩ := h.struct Try.underlying119
  have hl2 : cs.length = 6 := hl.trans (by kernel_rfl)
  have c1 : Try.prog.cellsOf 3 = 1 := by kernel_rfl
  have c2 : Try.prog.cellsOf 4 = 1 := by kernel_rfl
  have c3 : Try.prog.cellsOf 117 = 2 := by kernel_rfl
  match cs, hl2 with
  | [q0, q1, q2, q3, q4, q5], _ =>
    obtain ⟨n0, e0, _⟩ := (hf 0 _ rfl).int Try.underlying3
    obtain ⟨x1, e1⟩ := rd_Space (hf 1 _ rfl)
    obtain ⟨x2, e2⟩ := rd_Space (hf 2 _ rfl)
    obtain ⟨b3, e3⟩ := (hf 3 _ rfl).bool Try.underlying4
    simp [c1, c2, c3, Space.cells] at e0 e1 e2 e3
    exact ⟨⟨n0, x1, x2, b3⟩, by simp [Asked.cells, e0, e1, e2, e3]⟩

set_option maxRecDepth 100000 in
set_option maxHeartbeats 4000000 in
theorem exactAskedNodes_walk (w : World) (a : Option Addr) (len cap : Nat) (rd : Rd Try.prog w 77 [.slice a len cap]) :
    Calls Try.prog 8 #[.slice a len cap] w fun e w' => e = .returned (.bool true) ∧ Mod (fun _ => False) w w' := by
  obtain ⟨a', l, cap', e, hl, hm, hs⟩ := rd.list (rep := Flat Asked.cells) (sz := 6) Try.underlying77 (by kernel_rfl) (by decide) (fun cs h => rd_Asked h)
  simp only [List.cons.injEq, Value.slice.injEq, and_true] at e
  obtain ⟨rfl, rfl, rfl⟩ := e
  unfold maxLen at hm
  have H := hid hs
  clear hs rd
  by_cases hb : (1048576 : Int) < l.length
  · go_enter Try.func8, Try.ntmps8
    go_wp2_with fail
    refine (szAskedS_any _ _ _ _ (by omega) (by omega) (by omega) _).mono ?_
    rintro e w' ⟨rfl, rfl⟩
    rw [if_pos (by omega)]
    go_wp2
    go_ret
    exact ⟨rfl, Mod.refl _ _⟩
  · have hl' : l.length ≤ 1048576 := by omega
    obtain ⟨res, hres⟩ : ∃ res, res = nodesOf l := ⟨_, rfl⟩
    have fl : res.length ≤ 1048576 := by rw [hres]; have := nodesOf_length l; omega
    have Hres := hid hres
    clear hres
    go_enter Try.func8, Try.ntmps8
    go_wp2_with fail
    refine (szAskedS_any _ _ _ _ (by omega) (by omega) (by omega) _).mono ?_
    rintro e w' ⟨rfl, rfl⟩
    rw [if_neg (by omega)]
    have b1 : 0 ≤ 1048576 - (l.length : Int) := by omega
    go_wp2_with fail
    -- the reference's answer
    refine (toAskedS_any l _ _ _ w hl' H.out).mono ?_
    intro e w1 hr
    obtain ⟨g1, rfl, hg1, hgs1, hs1, _, hm1⟩ := NewRows.use (cells := Asked.cells) (sz := 6) hr (fun _ => rfl)
    clear hr
    go_wp2_with fail
    refine (saskedNodes_any l _ _ _ w1 hl' hs1).mono ?_
    intro e w2 hr
    rw [← Hres.out] at hr
    obtain ⟨a2, c2, _, _, rfl, _, hs2, _, hm2⟩ := NewSlice.use (cells := icell) (sz := 1) hr (fun _ => rfl) (by decide)
    replace hs2 := hs2.low
    clear hr hs1
    have hM2 := hm1.thenNone hm2
    go_wp2_with fail
    -- the program's
    refine (toAskedS_any l _ _ _ w2 hl' (H.out.flatKeep hM2)).mono ?_
    intro e w3 hr
    obtain ⟨g3, rfl, hg3, hgs3, hs3, hf3, hm3⟩ := NewRows.use (cells := Asked.cells) (sz := 6) hr (fun _ => rfl)
    clear hr
    go_wp2_with fail
    refine (askedNodes_any l _ _ _ w3 hl' hs3).mono ?_
    intro e w4 hr
    rw [← Hres.out] at hr
    obtain ⟨a4, c4, g4, N4, rfl, hg4, hs4, hf4, hm4⟩ := NewSlice.use (cells := icell) (sz := 1) hr (fun _ => rfl) (by decide)
    clear hr
    have hM4 := hM2.thenNone (hm3.thenNone hm4)
    go_wp2_with fail
    refine (eqIntS_any res res _ _ _ _ _ _ w4 (by omega) (by omega) hs4 (hs2.flatKeep (hm3.thenNone hm4))).mono ?_
    rintro e w5 ⟨rfl, hm5⟩
    rw [decide_eq_true rfl]
    have hM5 := hM4.thenNone hm5
    go_wp2_with fail
    refine (toAskedS_any l _ _ _ w5 hl' (H.out.flatKeep hM5)).mono ?_
    intro e w6 hr
    obtain ⟨g6, rfl, hg6, hgs6, hs6, _, hm6⟩ := NewRows.use (cells := Asked.cells) (sz := 6) hr (fun _ => rfl)
    clear hr
    have hm46 := (hm4.thenNone hm5).thenNone hm6
    go_wp2_with fail
    refine (eqAskedS_any l l _ _ _ _ _ _ w6 (by omega) (by omega) (hs3.flatKeep hm46) hs6).mono ?_
    rintro e w7 ⟨rfl, hm7⟩
    rw [decide_eq_true rfl]
    go_wp2_with fail
    -- the argument's copy is written over: the answer stands
    refine (markAskedS_any l.length l.length _ g3 (l.length * 6) w7 1 (by omega) (by omega) hl' (.inr ⟨rfl, Nat.le_refl _, hf3.mod (hm46.thenNone hm7) (fun f => f)⟩)).mono ?_
    rintro e w8 ⟨rfl, hm8, _⟩
    have k0 : decide ((1 : Int) + l.length * 6 < 0) = false := by simp; omega
    have hm48 := ((hm5.thenNone hm6).thenNone hm7)
    go_wp2_with fail
    have hs48 := (hs4.flatKeep hm48).flatMod hm8 (fun k hk (e : k = g3) => by omega)
    have hs28 := ((hs2.flatKeep (hm3.thenNone hm4)).flatKeep hm48).flatMod hm8 (fun k hk (e : k = g3) => by omega)
    refine (eqIntS_any res res _ _ _ _ _ _ w8 (by omega) (by omega) hs48 hs28).mono ?_
    rintro e w9 ⟨rfl, hm9⟩
    rw [decide_eq_true rfl]
    have hM9 := ((hM4.thenNone hm48).thenNew hm8 (by have := hM2.size; omega)).thenNone hm9
    go_wp2_with fail
    -- the answer is marked, and holds its marks
    have hf9 : res.length = 0 ∨ a4 = some ⟨g4, 0, none⟩ ∧ res.length * 1 ≤ N4 ∧ Filled g4 3 N4 w9 [] :=
      hf4.imp id fun ⟨h1, h2, h3⟩ => ⟨h1, h2, ((h3.mod hm48 (fun f => f)).mod hm8 (fun (e : g4 = g3) => by omega)).mod hm9 (fun f => f)⟩
    refine (markIntS_any res.length _ _ g4 N4 w9 1 (by omega) (by omega) (by omega) hf9).mono ?_
    rintro e w10 ⟨rfl, hm10, hf10⟩
    have hM10 := hM9.thenNew hm10 (by have := (hM2.thenNone hm3).size; omega)
    go_wp2_with fail
    have hh10 : res.length = 0 ∨ a4 = some ⟨g4, 0, none⟩ ∧ res.length * 1 ≤ N4 ∧ Filled g4 3 N4 w10 (IntM.marks 1 res.length) := by
      rcases hf9 with h | ⟨h1, h2, _⟩
      · exact .inl h
      · exact hf10.imp id fun h3 => ⟨h1, h2, h3⟩
    refine (heldIntS_any res.length _ _ g4 N4 w10 1 (by omega) (by omega) (by omega) hh10).mono ?_
    rintro e w11 ⟨rfl, hm11⟩
    have hM11 := hM10.thenNone hm11
    go_wp2_with fail
    -- once more
    refine (toAskedS_any l _ _ _ w11 hl' (H.out.flatKeep hM11)).mono ?_
    intro e w12 hr
    obtain ⟨g12, rfl, hg12, hgs12, hs12, _, hm12⟩ := NewRows.use (cells := Asked.cells) (sz := 6) hr (fun _ => rfl)
    clear hr
    go_wp2_with fail
    refine (askedNodes_any l _ _ _ w12 hl' hs12).mono ?_
    intro e w13 hr
    rw [← Hres.out] at hr
    obtain ⟨a13, c13, _, _, rfl, _, hs13, _, hm13⟩ := NewSlice.use (cells := icell) (sz := 1) hr (fun _ => rfl) (by decide)
    clear hr
    have hm1013 := (hm11.thenNone hm12).thenNone hm13
    go_wp2_with fail
    have hs213 := ((hs28.flatKeep hm9).flatMod hm10 (fun k hk (e : k = g4) => by have := hm3.size; omega)).flatKeep hm1013
    refine (eqIntS_any res res _ _ _ _ _ _ w13 (by omega) (by omega) hs13 hs213).mono ?_
    rintro e w14 ⟨rfl, hm14⟩
    rw [decide_eq_true rfl]
    go_wp2_with fail
    have hh14 : res.length = 0 ∨ a4 = some ⟨g4, 0, none⟩ ∧ res.length * 1 ≤ N4 ∧ Filled g4 3 N4 w14 (IntM.marks 1 res.length) :=
      hh10.imp id fun ⟨h1, h2, h3⟩ => ⟨h1, h2, h3.mod (hm1013.thenNone hm14) (fun f => f)⟩
    refine (heldIntS_any res.length _ _ g4 N4 w14 1 (by omega) (by omega) (by omega) hh14).mono ?_
    rintro e w15 ⟨rfl, hm15⟩
    go_wp2
    go_ret
    exact ⟨rfl, hM10.thenNone ((hm1013.thenNone hm14).thenNone hm15)⟩

/-! ### The row's frame (the kit's skeleton, turned) -/
namespace fnExactAskedNodes
open Go.ChangeShapes Go.WideShapes Go.ChangeAt Go.RowKit
set_option linter.unusedVariables false

theorem own : ownKnob Try.prog.godebug = none := by kernel_rfl
theorem laidOut : laidOutB Try.prog = true := by kernel_rfl

set_option maxRecDepth 100000 in
theorem lifted (os : Os) (started : os.Started) (H : Type) (enc : TypeId × Value → H) :
    ReturnsInHanded {} Try.checked os 8 .any (Rows.fnExactAskedNodesSpec.pre6 enc Try.prog Try.f8 Rows.fnExactAskedNodesRow.domain false) (Rows.fnExactAskedNodesSpec.post enc Try.prog Try.f8 false true false false) := by
  refine returnsInHanded_of_change (C := Try.checked) own started (by kernel_rfl) Try.func8
    (ChangeSpec.witness6 (enc := enc) (C := Try.checked) false ⟨#[], #[.slice none 0 0], []⟩ 8 (by kernel_rfl) (by kernel_rfl) (by kernel_rfl) (by kernel_rfl)) ?_
  intro W base args ds gs before hval0 hW hcnd _
  have hval : ∀ (j : Nat) t v, Try.f8.params[j]? = some t → args[j]? = some v → Value.okWide Try.prog W .any base t v := hval0
  have hW' := hW
  obtain ⟨p, q, hA0, hV, rfl, hfz, hnd⟩ := hW
  have hA : DataW.TrodAll enc Try.prog W 0 (fun _ => true) true Try.f8.params.toList args.toList ds p := hA0
  rw [Try.params8] at hA hval
  obtain ⟨v0, vs0, d0, ds0, p0, q0, hargs, rfl, rfl, h0, r0⟩ := trodAll_cons hA
  obtain ⟨rfl, rfl, rfl⟩ := trodAll_nil r0
  obtain rfl : args = #[v0] := by cases args; simp_all
  obtain ⟨rfl, rfl⟩ := trodVars_none hV
  have k0 := h0
  have lt0 : ∀ x ∈ p0, x.block < W.heap.size := by obtain ⟨m, hm⟩ := k0; exact DataW.trod_lt m _ _ _ hm
  obtain ⟨a0, len0, cap0, rfl⟩ := okWide_slice Try.underlying77 (hval 0 77 v0 rfl rfl)
  have rd0 : Rd Try.prog W 77 [.slice a0 len0 cap0] := by obtain ⟨m, hm⟩ := k0; exact ⟨H, enc, m, _, hm⟩
  clear hA0 hval0
  refine (exactAskedNodes_walk W a0 len0 cap0 rd0).mono fun e W' ⟨he, hm⟩ => ?_
  have bel := hm.below (Nat.le_refl _) fun _ _ h => h
  subst he
  exact ⟨_, rfl, _, _, _, [], _, [], hW', trodAll_mk1 (shut_bool Try.underlying4 _), (trodAll_cons_mk (Below.trod laidOut (by kernel_rfl) (of_decide_eq_true (by kernel_rfl)) k0 bel lt0) trodAll_mk0), rfl, bel.frame _, fun h => by cases h⟩

theorem over : Rows.fnExactAskedNodesRow.holds Try.pinned (OpenSpec.ofChange Rows.fnExactAskedNodesSpec) :=
  OpenClaim.holds_of_wide 8 Try.f8 rfl rfl rfl rfl rfl rfl rfl ⟨rfl, rfl, rfl, rfl, rfl⟩ rfl rfl rfl rfl rfl (by kernel_rfl) Try.func8 (by kernel_rfl)
    (of_decide_eq_true (by kernel_rfl)) (by unfold Func.isWrapper; first | (rw [if_pos (by decide +kernel)]; kernel_rfl) | (rw [if_neg (by decide +kernel)]; exact ⟨rfl, rfl⟩))
    (fun os started H enc _ => lifted os started H enc)

theorem proved : Rows.FnExactAskedNodesSaid := over
#print axioms proved
end fnExactAskedNodes


end Go.Proofs.Ytefgjjmnjanleaa
