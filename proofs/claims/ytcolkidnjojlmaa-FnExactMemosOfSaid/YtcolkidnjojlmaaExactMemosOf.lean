/-
  PROVED: for every engine and number the law FnExactMemosOf returns true. No condition.
-/
import Derived.Test.YtcolkidnjojlmaaEngineLit
import Derived.Test.YtcolkidnjojlmaaMemosOf
import Derived.Test.YtcolkidnjojlmaaRows
import Derived.ProofKit
import Derived.OpenShut
import Derived.ShutString
import Derived.ChangeOld
namespace Go.Proofs.Ytcolkidnjojlmaa
open Go.RowKit

set_option maxRecDepth 100000 in
set_option maxHeartbeats 8000000 in
theorem exactMemosOf_walk (w : World) (cs : Array Value) (rd : Rd Try.prog w 56 cs.toList) (n : Int) (_wf : (Lit.int .i64 n).wf = true) :
    Calls Try.prog 5 #[.agg cs, .int .i64 n] w fun e w' => e = .returned (.bool true) ∧ Mod (fun _ => False) w w' := by
  obtain ⟨x, hx, hfit⟩ := rd_Engine rd
  obtain ⟨ta, tc, ka, kc, kb, kd, fa, fc, e, hx⟩ := hx.lit
  obtain rfl : cs = [.slice ta x.tree.length tc, .slice ka x.kept.memos.length kc, .slice kb x.kept.asked.length kd, .slice fa x.frames.length fc, .int .i64 x.root, .int .i64 x.wide, .int .i64 x.high, .bool x.rtl].toArray := Array.toList_inj.1 e
  have H := hid hx
  have HF := hid hfit
  clear hx hfit rd e
  have hx := heap_alloc_new w (.cells ([Value.slice ta x.tree.length tc, .slice ka x.kept.memos.length kc, .slice kb x.kept.asked.length kd, .slice fa x.frames.length fc, .int .i64 x.root, .int .i64 x.wide, .int .i64 x.high, .bool x.rtl] : List Value).toArray 56)
  by_cases hb : (1048576 : Int) < x.cost
  · go_enter Try.func5, Try.ntmps5
    go_wp2_with fail
    refine (szEngine_any x false [.slice ta x.tree.length tc, .slice ka x.kept.memos.length kc, .slice kb x.kept.asked.length kd, .slice fa x.frames.length fc, .int .i64 x.root, .int .i64 x.wide, .int .i64 x.high, .bool x.rtl] _ _ _ (by omega) (by omega) HF.out (H.out.keep ((Mod.refl _ w).alloc _))).mono ?_
    rintro e w1 ⟨rfl, hm1⟩
    rw [szRes_less hb]
    clear hx
    go_wp2
    go_ret
    exact ⟨rfl, ((Mod.refl _ w).alloc _).thenNone hm1⟩
  · have F := hid (Engine.fits_of (x := x) (n := 1048576) (by omega))
    have hml : x.kept.memos.length ≤ 1048576 := F.out.2.1.1
    have hd : 0 ≤ (1048576 : Int) - x.cost := by omega
    go_enter Try.func5, Try.ntmps5
    go_wp2_with fail
    refine (szEngine_any x false [.slice ta x.tree.length tc, .slice ka x.kept.memos.length kc, .slice kb x.kept.asked.length kd, .slice fa x.frames.length fc, .int .i64 x.root, .int .i64 x.wide, .int .i64 x.high, .bool x.rtl] _ _ _ (by omega) (by omega) HF.out (H.out.keep ((Mod.refl _ w).alloc _))).mono ?_
    rintro e w1 ⟨rfl, hm1⟩
    rw [szRes_more (by omega)]
    have hM1 : Mod (fun _ => False) w w1 := ((Mod.refl _ w).alloc _).thenNone hm1
    have hB1 := hm1.blk hx (fun f => f)
    have hr : w.heap.size < w1.heap.size := (Array.getElem?_eq_some_iff.1 hB1).1
    have sc0 := blk_cell hB1 (j := 0) rfl
    have sz0 := blk_free hB1 0
    have sc1 := blk_cell hB1 (j := 1) rfl
    have sz1 := blk_free hB1 1
    have sc2 := blk_cell hB1 (j := 2) rfl
    have sz2 := blk_free hB1 2
    have sc3 := blk_cell hB1 (j := 3) rfl
    have sz3 := blk_free hB1 3
    have sc4 := blk_cell hB1 (j := 4) rfl
    have sz4 := blk_free hB1 4
    have sc5 := blk_cell hB1 (j := 5) rfl
    have sz5 := blk_free hB1 5
    have sc6 := blk_cell hB1 (j := 6) rfl
    have sz6 := blk_free hB1 6
    have sc7 := blk_cell hB1 (j := 7) rfl
    have sz7 := blk_free hB1 7
    clear hm1 hx
    go_wp2_with fail
    refine (toEngine_any x false [.slice ta x.tree.length tc, .slice ka x.kept.memos.length kc, .slice kb x.kept.asked.length kd, .slice fa x.frames.length fc, .int .i64 x.root, .int .i64 x.wide, .int .i64 x.high, .bool x.rtl] _ w1 F.out (H.out.keep hM1)).mono ?_
    rintro e w2 ⟨cs2, rfl, h2, hm2⟩
    have hM2 := hM1.thenNone hm2
    have hB2 := hm2.blk hB1 (fun f => f)
    go_wp2_with fail
    refine (smemosOf_any x n true cs2 _ w2 hml h2).mono ?_
    rintro e w3 ⟨rfl, hm3⟩
    have hM3 := hM2.thenNone hm3
    have hB3 := hm3.blk hB2 (fun f => f)
    have hr3 : w.heap.size < w3.heap.size := (Array.getElem?_eq_some_iff.1 hB3).1
    clear h2 hM2 hM1 hB2 hB1 hm2 hm3 hr sc0 sz0 sc1 sz1 sc2 sz2 sc3 sz3 sc4 sz4 sc5 sz5 sc6 sz6 sc7 sz7
    have sc0 := blk_cell hB3 (j := 0) rfl
    have sz0 := blk_free hB3 0
    have sc1 := blk_cell hB3 (j := 1) rfl
    have sz1 := blk_free hB3 1
    have sc2 := blk_cell hB3 (j := 2) rfl
    have sz2 := blk_free hB3 2
    have sc3 := blk_cell hB3 (j := 3) rfl
    have sz3 := blk_free hB3 3
    have sc4 := blk_cell hB3 (j := 4) rfl
    have sz4 := blk_free hB3 4
    have sc5 := blk_cell hB3 (j := 5) rfl
    have sz5 := blk_free hB3 5
    have sc6 := blk_cell hB3 (j := 6) rfl
    have sz6 := blk_free hB3 6
    have sc7 := blk_cell hB3 (j := 7) rfl
    have sz7 := blk_free hB3 7
    go_wp2_with fail
    refine (toEngine_any x false [.slice ta x.tree.length tc, .slice ka x.kept.memos.length kc, .slice kb x.kept.asked.length kd, .slice fa x.frames.length fc, .int .i64 x.root, .int .i64 x.wide, .int .i64 x.high, .bool x.rtl] _ w3 F.out (H.out.keep hM3)).mono ?_
    rintro e w4 ⟨cs4, rfl, h4, hm4⟩
    obtain ⟨ta4, tc4, ka4, kc4, kb4, kd4, fa4, fc4, rfl, h4⟩ := h4.lit
    have hM4 := hM3.thenNone hm4
    have hB4 := heap_alloc_keep (o := .cells [.slice ta4 x.tree.length tc4, .slice ka4 x.kept.memos.length kc4, .slice kb4 x.kept.asked.length kd4, .slice fa4 x.frames.length fc4, .int .i64 x.root, .int .i64 x.wide, .int .i64 x.high, .bool x.rtl].toArray 68) (hm4.blk hB3 (fun f => f))
    have hX4 := heap_alloc_new w4 (.cells ([Value.slice ta4 x.tree.length tc4, .slice ka4 x.kept.memos.length kc4, .slice kb4 x.kept.asked.length kd4, .slice fa4 x.frames.length fc4, .int .i64 x.root, .int .i64 x.wide, .int .i64 x.high, .bool x.rtl] : List Value).toArray 68)
    have H4 := hid (h4.keep ((Mod.refl _ w4).alloc (.cells [.slice ta4 x.tree.length tc4, .slice ka4 x.kept.memos.length kc4, .slice kb4 x.kept.asked.length kd4, .slice fa4 x.frames.length fc4, .int .i64 x.root, .int .i64 x.wide, .int .i64 x.high, .bool x.rtl].toArray 68)))
    clear h4 hM3 hB3 hm4 hr3 sc0 sz0 sc1 sz1 sc2 sz2 sc3 sz3 sc4 sz4 sc5 sz5 sc6 sz6 sc7 sz7
    go_wp2_with fail
    refine (memosOf_any x n true [.slice ta4 x.tree.length tc4, .slice ka4 x.kept.memos.length kc4, .slice kb4 x.kept.asked.length kd4, .slice fa4 x.frames.length fc4, .int .i64 x.root, .int .i64 x.wide, .int .i64 x.high, .bool x.rtl] _ _ hml H4.out).mono ?_
    rintro e w5 ⟨rfl, hm5⟩
    have hM5 : Mod (fun _ => False) w w5 := (hM4.alloc _).thenNone hm5
    have hB5 := hm5.blk hB4 (fun f => f)
    have hX5 := hm5.blk hX4 (fun f => f)
    have H5 := hid (H4.out.keep hm5)
    have q0 := hold (blk_cell hB5 (j := 0) rfl)
    have q1 := hold (blk_cell hB5 (j := 1) rfl)
    have q2 := hold (blk_cell hB5 (j := 2) rfl)
    have q3 := hold (blk_cell hB5 (j := 3) rfl)
    have q4 := hold (blk_cell hB5 (j := 4) rfl)
    have q5 := hold (blk_cell hB5 (j := 5) rfl)
    have q6 := hold (blk_cell hB5 (j := 6) rfl)
    have q7 := hold (blk_cell hB5 (j := 7) rfl)
    have p0 := hold (blk_cell hX5 (j := 0) rfl)
    have p1 := hold (blk_cell hX5 (j := 1) rfl)
    have p2 := hold (blk_cell hX5 (j := 2) rfl)
    have p3 := hold (blk_cell hX5 (j := 3) rfl)
    have p4 := hold (blk_cell hX5 (j := 4) rfl)
    have p5 := hold (blk_cell hX5 (j := 5) rfl)
    have p6 := hold (blk_cell hX5 (j := 6) rfl)
    have p7 := hold (blk_cell hX5 (j := 7) rfl)
    generalize costs (ofNode n) x.kept.memos = T
    clear hM4 H4 hB4 hX4 hm5 hB5 hX5
    go_wp2
    refine wp_region_mod (by kernel_rfl) (by kernel_rfl) ?_
    refine RM.const (v := ?_) (fun _ => rfl) (fun xq wq hSq => ?_) ?_; rotate_left; (focus (go_simp; (first | done | with_reducible rfl | ((split; (exfalso; omega)); with_reducible rfl)))); (try simp only [Act.put, List.setIfInBounds_toArray, List.set_cons_zero, List.set_cons_succ])
    refine RM.const (v := ?_) (fun _ => rfl) (fun xq wq hSq => ?_) ?_; rotate_left; (focus (go_simp; (first | done | with_reducible rfl | ((split; (exfalso; omega)); with_reducible rfl)))); (try simp only [Act.put, List.setIfInBounds_toArray, List.set_cons_zero, List.set_cons_succ])
    refine RM.new (f := ?_) (args := ?_) [] (EngAt x) (by kernel_rfl) (fun _ _ _ h hm => h.keep hm) (fun _ => rfl) (fun xq wq hSq => ?_) (fun xq wq hSq hKq => ?_) ?_; rotate_left 2; (focus (go_simp; (refine ⟨?_, ?_⟩ <;> with_reducible rfl))); (focus (exact toEngine_at x false [.slice ta x.tree.length tc, .slice ka x.kept.memos.length kc, .slice kb x.kept.asked.length kd, .slice fa x.frames.length fc, .int .i64 x.root, .int .i64 x.wide, .int .i64 x.high, .bool x.rtl] _ _ F.out (H.out.keep (hM5.thenNone hSq)))); (try simp only [Act.put, List.setIfInBounds_toArray, List.set_cons_zero, List.set_cons_succ])
    refine RM.call (v := ?_) (f := ?_) (args := ?_) [2] (by kernel_rfl) (fun _ => rfl) (fun xq wq hSq => ?_) (fun xq wq hSq hKq => ?_) ?_; rotate_left 3; (focus (go_simp; (refine ⟨?_, ?_⟩ <;> with_reducible rfl))); (focus (obtain ⟨cs6, h6, o6, R6, s6⟩ := hKq _ List.mem_cons_self (by simp); simp only at h6; simp only [h6]; have hh := eqEngine_same x true o6 [.slice ta4 x.tree.length tc4, .slice ka4 x.kept.memos.length kc4, .slice kb4 x.kept.asked.length kd4, .slice fa4 x.frames.length fc4, .int .i64 x.root, .int .i64 x.wide, .int .i64 x.high, .bool x.rtl] cs6 _ _ _ F.out (H5.out.keep hSq) s6; refine hh.mono ?_; rintro e w6 ⟨rfl, hm6⟩; refine ⟨?_, hm6⟩; with_reducible rfl)); (try simp only [Act.put, List.setIfInBounds_toArray, List.set_cons_zero, List.set_cons_succ])
    refine RM.const (v := ?_) (fun _ => rfl) (fun xq wq hSq => ?_) ?_; rotate_left; (focus (go_simp; (first | done | with_reducible rfl | ((split; (exfalso; omega)); with_reducible rfl)))); (try simp only [Act.put, List.setIfInBounds_toArray, List.set_cons_zero, List.set_cons_succ])
    refine RM.done (fun xq wq hSq hUq => ?_)
    clear q0 p0 q1 p1 q2 p2 q3 p3 q4 p4 q5 p5 q6 p6 q7 p7 hUq
    go_wp2
    go_ret
    exact ⟨rfl, hM5.thenNone hSq⟩

/-! ### The row's frame (the kit's skeleton, turned) -/
namespace fnExactMemosOf
open Go.ChangeShapes Go.WideShapes Go.ChangeAt Go.RowKit
set_option linter.unusedVariables false

theorem own : ownKnob Try.prog.godebug = none := by kernel_rfl
theorem laidOut : laidOutB Try.prog = true := by kernel_rfl

set_option maxRecDepth 100000 in
theorem lifted (os : Os) (started : os.Started) (H : Type) (enc : TypeId × Value → H) :
    ReturnsInHanded {} Try.checked os 5 .any (Rows.fnExactMemosOfSpec.pre6 enc Try.prog Try.f5 Rows.fnExactMemosOfRow.domain false) (Rows.fnExactMemosOfSpec.post enc Try.prog Try.f5 false true false false) := by
  refine returnsInHanded_of_change (C := Try.checked) own started (by kernel_rfl) Try.func5
    (ChangeSpec.witness6 (enc := enc) (C := Try.checked) false ⟨#[], #[.agg #[.slice none 0 0, .slice none 0 0, .slice none 0 0, .slice none 0 0, .int .i64 0, .int .i64 0, .int .i64 0, .bool false], .int .i64 0], []⟩ 8 (by kernel_rfl) (by kernel_rfl) (by kernel_rfl) (by kernel_rfl)) ?_
  intro W base args ds gs before hval0 hW hcnd _
  have hval : ∀ (j : Nat) t v, Try.f5.params[j]? = some t → args[j]? = some v → Value.okWide Try.prog W .any base t v := hval0
  have hW' := hW
  obtain ⟨p, q, hA0, hV, rfl, hfz, hnd⟩ := hW
  have hA : DataW.TrodAll enc Try.prog W 0 (fun _ => true) true Try.f5.params.toList args.toList ds p := hA0
  rw [Try.params5] at hA hval
  obtain ⟨v0, vs0, d0, ds0, p0, q0, hargs, rfl, rfl, h0, r0⟩ := trodAll_cons hA
  obtain ⟨v1, vs1, d1, ds1, p1, q1, rfl, rfl, rfl, h1, r1⟩ := trodAll_cons r0
  obtain ⟨rfl, rfl, rfl⟩ := trodAll_nil r1
  obtain rfl : args = #[v0, v1] := by cases args; simp_all
  obtain ⟨rfl, rfl⟩ := trodVars_none hV
  have k0 := h0
  have lt0 : ∀ x ∈ p0, x.block < W.heap.size := by obtain ⟨m, hm⟩ := k0; exact DataW.trod_lt m _ _ _ hm
  obtain ⟨cs0, rfl, _⟩ := okWide_struct Try.underlying56 (hval 0 56 v0 rfl rfl)
  have rd0 : Rd Try.prog W 56 cs0.toList := by obtain ⟨m, hm⟩ := k0; exact ⟨H, enc, m, _, hm⟩
  have k1 := h1
  have lt1 : ∀ x ∈ p1, x.block < W.heap.size := by obtain ⟨m, hm⟩ := k1; exact DataW.trod_lt m _ _ _ hm
  obtain ⟨a1, wf1, rfl⟩ : ∃ n : Int, (Lit.int .i64 n).wf = true ∧ v1 = .int .i64 n := by
    obtain ⟨x, h1, _, _, h2⟩ := open_int Try.underlying3 (hval 1 3 v1 rfl rfl) h1
    exact ⟨x, h2, h1⟩
  clear hA0 hval0
  refine (exactMemosOf_walk W cs0 rd0 a1 wf1).mono fun e W' ⟨he, hm⟩ => ?_
  have bel := hm.below (Nat.le_refl _) fun _ _ h => h
  subst he
  exact ⟨_, rfl, _, _, _, [], _, [], hW', trodAll_mk1 (shut_bool Try.underlying4 _), (trodAll_cons_mk (Below.trod laidOut (by kernel_rfl) (of_decide_eq_true (by kernel_rfl)) k0 bel lt0) (trodAll_cons_mk (Below.trod laidOut (by kernel_rfl) (of_decide_eq_true (by kernel_rfl)) k1 bel lt1) trodAll_mk0)), rfl, bel.frame _, fun h => by cases h⟩

theorem over : Rows.fnExactMemosOfRow.holds Try.pinned (OpenSpec.ofChange Rows.fnExactMemosOfSpec) :=
  OpenClaim.holds_of_wide 5 Try.f5 rfl rfl rfl rfl rfl rfl rfl ⟨rfl, rfl, rfl, rfl, rfl⟩ rfl rfl rfl rfl rfl (by kernel_rfl) Try.func5 (by kernel_rfl)
    (of_decide_eq_true (by kernel_rfl)) (by unfold Func.isWrapper; first | (rw [if_pos (by decide +kernel)]; kernel_rfl) | (rw [if_neg (by decide +kernel)]; exact ⟨rfl, rfl⟩))
    (fun os started H enc _ => lifted os started H enc)

theorem proved : Rows.FnExactMemosOfSaid := over
#print axioms proved
end fnExactMemosOf

end Go.Proofs.Ytcolkidnjojlmaa
