/-
  PROVED: for every action the law FnExactActOk returns true. Conditions: none.
-/
import Derived.Test.YtpmbobopkfacmaaAct
import Derived.Test.YtpmbobopkfacmaaRows
import Derived.ProofKit
import Derived.OpenShut
import Derived.ShutString
import Derived.ChangeOld
namespace Go.Proofs.Ytpmbobopkfacmaa
open Go.RowKit

set_option maxRecDepth 100000 in
set_option maxHeartbeats 4000000 in
theorem exactActOk_walk (w : World) (cs : Array Value) (rd : Rd Try.prog w 52 cs.toList) :
    Calls Try.prog 6 #[.agg cs] w fun e w' => e = .returned (.bool true) ∧ Mod (fun _ => False) w w' := by
  obtain ⟨x, ⟨a, c, hcs, hs⟩, hl, hk⟩ := rd_Act rd
  obtain ⟨cs⟩ := cs
  replace hcs : cs = _ := hcs
  subst hcs
  have H := hid hs
  clear hs rd
  by_cases hb : (1048576 : Int) < x.key.size + x.table.length
  · go_enter Try.func6, Try.ntmps6
    go_wp2_with fail
    refine (szAct_any x _ _ _ (by omega) (by omega) hl hk _).mono ?_
    rintro e w1 ⟨he, hm1⟩
    rcases he with ⟨_, rfl⟩ | ⟨he, _⟩
    · go_wp2
      go_ret
      exact ⟨rfl, by (repeat (first | with_reducible exact Mod.refl _ _ | with_reducible refine Mod.drewN ?_ _ | with_reducible refine Mod.drew ?_ | with_reducible refine Mod.alloc ?_ _ | ((with_reducible refine Mod.setNew ?_ ?_ _ _ _); (rotate_left; omega)) | with_reducible refine Mod.setAt ?_ _ _ _ | with_reducible exact hm1 | with_reducible refine Mod.thenNone ?_ hm1 ))⟩
    · omega
  · go_enter Try.func6, Try.ntmps6
    go_wp2_with fail
    refine (szAct_any x _ _ _ (by omega) (by omega) hl hk _).mono ?_
    rintro e w1 ⟨he, hm1⟩
    rcases he with ⟨he, _⟩ | ⟨_, rfl⟩
    · omega
    have b1 : 0 ≤ 1048576 - ((x.key.size : Int) + x.table.length) := by omega
    obtain ⟨hq1, hz1⟩ := mcell hm1
    have hs1 := hm1.size
    try simp only [World.size_alloc, World.size_setCell, World.size_drew, World.drewN] at hs1
    have hr1_0 : w.heap.size < w1.heap.size := by omega
    have hM1 : Mod (fun _ => False) w w1 := by (repeat (first | with_reducible exact Mod.refl _ _ | with_reducible refine Mod.drewN ?_ _ | with_reducible refine Mod.drew ?_ | with_reducible refine Mod.alloc ?_ _ | ((with_reducible refine Mod.setNew ?_ ?_ _ _ _); (rotate_left; omega)) | with_reducible refine Mod.setAt ?_ _ _ _ | with_reducible exact hm1 | with_reducible refine Mod.thenNone ?_ hm1 ))
    clear hm1
    go_wp2_with fail
    refine (toAct_any x _ _ _ w1 (by omega) (H.out.flatKeep hM1)).mono ?_
    rintro e w2 ⟨g2, rfl, hg2, hb2, hm2⟩
    obtain ⟨hq2, hz2⟩ := mcell hm2
    have hs2 := hm2.size
    try simp only [World.size_alloc, World.size_setCell, World.size_drew, World.drewN] at hs2
    have hr2_0 : w.heap.size < w2.heap.size := by omega
    go_wp2_with fail
    refine (sactOk_any x _ _ _).mono ?_
    rintro e w3 ⟨rfl, hm3⟩
    obtain ⟨hq3, hz3⟩ := mcell hm3
    have hs3 := hm3.size
    try simp only [World.size_alloc, World.size_setCell, World.size_drew, World.drewN] at hs3
    have hr3_0 : w.heap.size < w3.heap.size := by omega
    have hM3 : Mod (fun _ => False) w w3 := by (repeat (first | with_reducible exact Mod.refl _ _ | with_reducible refine Mod.drewN ?_ _ | with_reducible refine Mod.drew ?_ | with_reducible refine Mod.alloc ?_ _ | ((with_reducible refine Mod.setNew ?_ ?_ _ _ _); (rotate_left; omega)) | with_reducible refine Mod.setAt ?_ _ _ _ | with_reducible exact hm3 | with_reducible refine Mod.thenNone ?_ hm3 | with_reducible exact hm2 | with_reducible refine Mod.thenNone ?_ hm2 | with_reducible exact hM1 | with_reducible refine Mod.thenNone ?_ hM1 ))
    clear hm3 hm2 hM1 hb2
    go_wp2_with fail
    refine (toAct_any x _ _ _ w3 (by omega) (H.out.flatKeep hM3)).mono ?_
    rintro e w4 ⟨g4, rfl, hg4, hb4, hm4⟩
    obtain ⟨hq4, hz4⟩ := mcell hm4
    have hs4 := hm4.size
    try simp only [World.size_alloc, World.size_setCell, World.size_drew, World.drewN] at hs4
    have hr4_0 : w.heap.size < w4.heap.size := by omega
    have hs4' := flat_of_blk (cells := Rule.cells) (sz := 3) hb4 (fun _ => rfl)
    have Hs4 := hid hs4'
    have hM4 : Mod (fun _ => False) w w4 := by (repeat (first | with_reducible exact Mod.refl _ _ | with_reducible refine Mod.drewN ?_ _ | with_reducible refine Mod.drew ?_ | with_reducible refine Mod.alloc ?_ _ | ((with_reducible refine Mod.setNew ?_ ?_ _ _ _); (rotate_left; omega)) | with_reducible refine Mod.setAt ?_ _ _ _ | with_reducible exact hm4 | with_reducible refine Mod.thenNone ?_ hm4 | with_reducible exact hM3 | with_reducible refine Mod.thenNone ?_ hM3 ))
    clear hs4' hb4 hm4 hM3
    go_wp2_with fail
    refine (actOk_any x _ _ _).mono ?_
    rintro e w5 ⟨rfl, hm5⟩
    obtain ⟨hq5, hz5⟩ := mcell hm5
    have hs5 := hm5.size
    try simp only [World.size_alloc, World.size_setCell, World.size_drew, World.drewN] at hs5
    have hr5_0 : w.heap.size < w5.heap.size := by omega
    have hM45 : Mod (fun _ => False) w4 w5 := by (repeat (first | with_reducible exact Mod.refl _ _ | with_reducible refine Mod.drewN ?_ _ | with_reducible refine Mod.drew ?_ | with_reducible refine Mod.alloc ?_ _ | ((with_reducible refine Mod.setNew ?_ ?_ _ _ _); (rotate_left; omega)) | with_reducible refine Mod.setAt ?_ _ _ _ | with_reducible exact hm5 | with_reducible refine Mod.thenNone ?_ hm5 ))
    go_wp2_with fail
    go_region_held3 (fun w' => Mod (fun _ => False) w4 w' ∧ w'.cell? ⟨w4.heap.size, 0, none⟩ = some (.int .i64 x.kind) ∧ w'.cell? ⟨w4.heap.size, 1, none⟩ = some (.int .i64 x.n) ∧ w'.cell? ⟨w4.heap.size, 2, none⟩ = some (.int .i64 x.kid) ∧ w'.cell? ⟨w4.heap.size, 3, none⟩ = some (.int .i64 x.pl) ∧ w'.cell? ⟨w4.heap.size, 4, none⟩ = some (.string x.key) ∧ w'.cell? ⟨w4.heap.size, 5, none⟩ = some (.int .i64 x.value.kind) ∧ w'.cell? ⟨w4.heap.size, 6, none⟩ = some (.int .i64 x.value.n) ∧ w'.cell? ⟨w4.heap.size, 7, none⟩ = some (.slice (some ⟨g4, 0, none⟩) x.table.length x.table.length) ∧ w'.cell? ⟨w4.heap.size, 8, none⟩ = some (.int .i64 x.wide) ∧ w'.cell? ⟨w4.heap.size, 9, none⟩ = some (.int .i64 x.high) ∧ w'.cell? ⟨w4.heap.size, 10, none⟩ = some (.bool x.rtl) ∧ w'.cell? ⟨w.heap.size, 0, none⟩ = some (.int .i64 x.kind) ∧ w'.cell? ⟨w.heap.size, 1, none⟩ = some (.int .i64 x.n) ∧ w'.cell? ⟨w.heap.size, 2, none⟩ = some (.int .i64 x.kid) ∧ w'.cell? ⟨w.heap.size, 3, none⟩ = some (.int .i64 x.pl) ∧ w'.cell? ⟨w.heap.size, 4, none⟩ = some (.string x.key) ∧ w'.cell? ⟨w.heap.size, 5, none⟩ = some (.int .i64 x.value.kind) ∧ w'.cell? ⟨w.heap.size, 6, none⟩ = some (.int .i64 x.value.n) ∧ w'.cell? ⟨w.heap.size, 7, none⟩ = some (.slice a x.table.length c) ∧ w'.cell? ⟨w.heap.size, 8, none⟩ = some (.int .i64 x.wide) ∧ w'.cell? ⟨w.heap.size, 9, none⟩ = some (.int .i64 x.high) ∧ w'.cell? ⟨w.heap.size, 10, none⟩ = some (.bool x.rtl)) (first | exact ⟨hM45.drew, by simp [go_sem, *]⟩ | exact ⟨‹Mod (fun _ => False) w4 _ ∧ _›.1.trans hm, by have hq := hm.keep; simp [*]⟩) (first | (go_at_call 32; refine (toAct_any x _ _ (fun k => k < w.heap.size) _ (by omega) ?_).mono ?_; (exact (H.out.flatKeep hM4).flatKeep ‹Mod (fun _ => False) w4 _ ∧ _›.1); rintro e w' ⟨g6, rfl, hg6, hb6, hm⟩) | (go_at_call 34; refine (eqAct_any x _ _ _ _ (fun k => k = g4) (fun k => k = g6) _ (by omega) ?_ ?_).mono ?_; (exact Hs4.out.flatKeep ‹Mod (fun _ => False) w4 _ ∧ _›.1); (exact flat_of_blk hb6 (fun _ => rfl)); rintro e w' ⟨rfl, hm⟩))
    rename_i hHeld
    have hMz := hM4.thenNone hHeld.1
    clear hHeld
    go_wp2
    go_ret
    exact ⟨rfl, hMz⟩

/-! ### The row's frame (the kit's skeleton, turned) -/
namespace fnExactActOk
open Go.ChangeShapes Go.WideShapes Go.ChangeAt Go.RowKit
set_option linter.unusedVariables false

theorem own : ownKnob Try.prog.godebug = none := by kernel_rfl
theorem laidOut : laidOutB Try.prog = true := by kernel_rfl

set_option maxRecDepth 100000 in
theorem lifted (os : Os) (started : os.Started) (H : Type) (enc : TypeId × Value → H) :
    ReturnsInHanded {} Try.checked os 6 .any (Rows.fnExactActOkSpec.pre6 enc Try.prog Try.f6 Rows.fnExactActOkRow.domain false) (Rows.fnExactActOkSpec.post enc Try.prog Try.f6 false true false false) := by
  refine returnsInHanded_of_change (C := Try.checked) own started (by kernel_rfl) Try.func6
    (ChangeSpec.witness6 (enc := enc) (C := Try.checked) false ⟨#[], #[.agg #[.int .i64 0, .int .i64 0, .int .i64 0, .int .i64 0, .string ⟨#[]⟩, .int .i64 0, .int .i64 0, .slice none 0 0, .int .i64 0, .int .i64 0, .bool false]], []⟩ 8 (by kernel_rfl) (by kernel_rfl) (by kernel_rfl) (by kernel_rfl)) ?_
  intro W base args ds gs before hval0 hW hcnd _
  have hval : ∀ (j : Nat) t v, Try.f6.params[j]? = some t → args[j]? = some v → Value.okWide Try.prog W .any base t v := hval0
  have hW' := hW
  obtain ⟨p, q, hA0, hV, rfl, hfz, hnd⟩ := hW
  have hA : DataW.TrodAll enc Try.prog W 0 (fun _ => true) true Try.f6.params.toList args.toList ds p := hA0
  rw [Try.params6] at hA hval
  obtain ⟨v0, vs0, d0, ds0, p0, q0, hargs, rfl, rfl, h0, r0⟩ := trodAll_cons hA
  obtain ⟨rfl, rfl, rfl⟩ := trodAll_nil r0
  obtain rfl : args = #[v0] := by cases args; simp_all
  obtain ⟨rfl, rfl⟩ := trodVars_none hV
  have k0 := h0
  have lt0 : ∀ x ∈ p0, x.block < W.heap.size := by obtain ⟨m, hm⟩ := k0; exact DataW.trod_lt m _ _ _ hm
  obtain ⟨cs0, rfl, _⟩ := okWide_struct Try.underlying52 (hval 0 52 v0 rfl rfl)
  have rd0 : Rd Try.prog W 52 cs0.toList := by obtain ⟨m, hm⟩ := k0; exact ⟨H, enc, m, _, hm⟩
  clear hA0 hval0
  refine (exactActOk_walk W cs0 rd0).mono fun e W' ⟨he, hm⟩ => ?_
  have bel := hm.below (Nat.le_refl _) fun _ _ h => h
  subst he
  exact ⟨_, rfl, _, _, _, [], _, [], hW', trodAll_mk1 (shut_bool Try.underlying4 _), (trodAll_cons_mk (Below.trod laidOut (by kernel_rfl) (of_decide_eq_true (by kernel_rfl)) k0 bel lt0) trodAll_mk0), rfl, bel.frame _, fun h => by cases h⟩

theorem over : Rows.fnExactActOkRow.holds Try.pinned (OpenSpec.ofChange Rows.fnExactActOkSpec) :=
  OpenClaim.holds_of_wide 6 Try.f6 rfl rfl rfl rfl rfl rfl rfl ⟨rfl, rfl, rfl, rfl, rfl⟩ rfl rfl rfl rfl rfl (by kernel_rfl) Try.func6 (by kernel_rfl)
    (of_decide_eq_true (by kernel_rfl)) (by unfold Func.isWrapper; first | (rw [if_pos (by decide +kernel)]; kernel_rfl) | (rw [if_neg (by decide +kernel)]; exact ⟨rfl, rfl⟩))
    (fun os started H enc _ => lifted os started H enc)

theorem proved : Rows.FnExactActOkSaid := over
#print axioms proved
end fnExactActOk

end Go.Proofs.Ytpmbobopkfacmaa
