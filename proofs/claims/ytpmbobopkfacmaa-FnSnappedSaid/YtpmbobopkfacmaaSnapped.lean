/-
  PROVED: for every list of bytes the law FnSnapped returns true. Conditions: none.
-/
import Derived.Test.YtpmbobopkfacmaaSnapDraw
import Derived.Test.YtpmbobopkfacmaaSnap2
import Derived.Test.YtpmbobopkfacmaaSnapMath
import Derived.Test.YtpmbobopkfacmaaRows
import Derived.Deep.RegionHeld3
import Derived.ProofKit
import Derived.OpenShut
import Derived.ShutString
import Derived.ChangeOld
namespace Go.Proofs.Ytpmbobopkfacmaa
open Go.RowKit

theorem big_any (a : Option Addr) (len cap : Nat) (h : len ≤ 9223372036854775807) (w : World) : Calls Try.prog 11 #[.slice a len cap] w fun e w' => e = .returned (.bool (decide (1048576 < len))) ∧ w = w' := by
  by_cases hl : 1048576 < len
  · go_enter Try.func11, Try.ntmps11
    go_wp2
    go_ret
    exact ⟨ret_bool (by simp; omega), rfl⟩
  · go_enter Try.func11, Try.ntmps11
    go_wp2
    go_ret
    exact ⟨ret_bool (by simp; omega), rfl⟩

set_option maxRecDepth 100000 in
set_option maxHeartbeats 20000000 in
theorem fnSnapped_walk (w : World) (a : Option Addr) (len cap : Nat) (hlen : len ≤ 9223372036854775807) (hy : Bytes w.heap.size w a len) :
    Calls Try.prog 4 #[.slice a len cap] w fun e w' => e = .returned (.bool true) ∧ Mod (fun _ => False) w w' := by
  by_cases hl : 1048576 < len
  · have hd : decide (1048576 < len) = true := by simpa using hl
    go_enter Try.func4, Try.ntmps4
    go_wp2_with (first | (go_at_call 11; refine (big_any _ _ _ hlen _).mono ?_; rintro e w' ⟨rfl, rfl⟩))
    go_ret
    exact ⟨rfl, Mod.refl _ _⟩
  · have hd : decide (1048576 < len) = false := by simpa using hl
    have Hy := hid hy
    clear hy
    go_enter Try.func4, Try.ntmps4
    go_wp2_with fail
    refine (big_any _ _ _ hlen _).mono ?_
    rintro e w' ⟨rfl, rfl⟩
    go_wp2_with fail
    refine (drawSnapTo_any w.heap.size w a len cap (Nat.le_refl _) (by omega) Hy.out).mono ?_
    rintro e w1 ⟨n, st, rfl, hm1⟩
    go_wp2_with (first | (go_at_call 13; refine (snapTo_any _ _ _).mono ?_; rintro e w' ⟨rfl, rfl⟩) | (go_at_call 14; refine (ssnapTo_any _ _ _).mono ?_; rintro e w' ⟨rfl, rfl⟩))
    refine (drawSnapFrame_any w.heap.size w1 a len cap hm1.size (by omega) (Hy.out.same fun k hk => hm1.block k hk (fun h => h))).mono ?_
    rintro e w2 ⟨x, y, fa, fb, s, rfl, hf, hm2⟩
    go_wp2_with fail
    refine (snapFrame_any _ _ _ _ _ _ _).mono ?_
    rintro e w3 ⟨rfl, hm3⟩
    have hbf := hm3.blk (heap_alloc_new w2 _) (fun h => h)
    have hs3 := hm3.size
    rw [World.size_alloc] at hs3
    have fc0 := blk_cell hbf (j := 0) rfl
    have fz0 := blk_free hbf 0
    have fc1 := blk_cell hbf (j := 1) rfl
    have fz1 := blk_free hbf 1
    have fc2 := blk_cell hbf (j := 2) rfl
    have fz2 := blk_free hbf 2
    have fc3 := blk_cell hbf (j := 3) rfl
    have fz3 := blk_free hbf 3
    have fc4 := blk_cell hbf (j := 4) rfl
    have fz4 := blk_free hbf 4
    have Hbf := hid hbf
    clear hbf
    have hx : -2500 ≤ x ∧ x < 2500 := by omega
    have hy : -2500 ≤ y ∧ y < 2500 := by omega
    have ha : 0 ≤ fa ∧ fa < 3000 := by omega
    have hb : 0 ≤ fb ∧ fb < 3000 := by omega
    unfold frv
    go_wp2_with fail
    have hM := hm1.thenNone (hm2.thenNone (((Mod.refl (fun _ => False) w2).alloc _).trans hm3))
    go_region_held3 (fun w' => Mod (fun _ => False) w w' ∧ w'.cell? ⟨w2.heap.size, 0, none⟩ = some (.int .i64 1) ∧ w'.cell? ⟨w2.heap.size, 1, none⟩ = some (.int .i64 x) ∧ w'.cell? ⟨w2.heap.size, 2, none⟩ = some (.int .i64 y) ∧ w'.cell? ⟨w2.heap.size, 3, none⟩ = some (.int .i64 fa) ∧ w'.cell? ⟨w2.heap.size, 4, none⟩ = some (.int .i64 fb) ∧ w'.cell? ⟨w3.heap.size, 0, none⟩ = some (.int .i64 1) ∧ w'.cell? ⟨w3.heap.size, 1, none⟩ = some (.int .i64 (snapTo x s)) ∧ w'.cell? ⟨w3.heap.size, 2, none⟩ = some (.int .i64 (snapTo y s)) ∧ w'.cell? ⟨w3.heap.size, 3, none⟩ = some (.int .i64 (snapW x fa s)) ∧ w'.cell? ⟨w3.heap.size, 4, none⟩ = some (.int .i64 (snapW y fb s))) (first | exact ⟨(hM.alloc _).drew, by simp [go_sem, World.cell?_alloc_some, *]⟩ | exact ⟨‹Mod (fun _ => False) w _ ∧ _›.1.trans hm, by have hq := hm.keep; simp [*]⟩) (first | (go_at_call 17; refine (ssnapFrame_any _ _ _ _ _ _ _).mono ?_; unfold frv; rintro e w' ⟨rfl, hm⟩) | (go_at_call 18; refine (onGrid_any _ _ _ _ _ _ _).mono ?_; rintro e w' ⟨rfl, hm⟩) | (go_at_call 19; refine (sonGrid_any _ _ _ _ _ _ _).mono ?_; rintro e w' ⟨rfl, hm⟩) | (go_at_call 21; refine (edges_any _ _ _ _ _ _).mono ?_; rintro e w' ⟨g1, rfl, hg1, hi1, hm⟩) | (go_at_call 22; refine (sedges_any _ _ _ _ _ _).mono ?_; rintro e w' ⟨g2, rfl, hg2, hi2, hm⟩) | (go_at_call 20; refine (sameInts_any _ _ [x, y, wrap64 (x + fa), wrap64 (y + fb)] [x, y, wrap64 (x + fa), wrap64 (y + fb)] _ _ _ (.inr ⟨g1, 0, rfl, hi1.mod hm (fun h => h)⟩) (.inr ⟨g2, 0, rfl, hi2⟩) (by simp) (by simp)).mono ?_; rintro e w' ⟨rfl, hm⟩))
    clear fc0 fc1 fc2 fc3 fc4 fz0 fz1 fz2 fz3 fz4 Hbf hm1 hm2 hM hm3
    rename_i hHeld
    obtain ⟨hM, f0, f1, f2, f3, f4, g0, g1, g2, g3, g4⟩ := hHeld
    clear hs3 hf hi1 hi2 hg1 hg2 hm hl hd Hy hlen
    have e1 : (snapTo 32 64 == 64) = true := by decide
    have e2 : (snapTo 31 64 == 0) = true := by decide
    have e3 : (snapTo (-32) 64 == 0) = true := by decide
    have e4 : (snapTo (-33) 64 == -64) = true := by decide
    by_cases hs : 1 ≤ s ∧ s ≤ 4096
    · obtain ⟨s1, s2⟩ := hs
      obtain ⟨X, A, x1, x2, x3, x4, x5, x6, x7, x8, x9, x10, x11, x12⟩ := snapW_pair s1 s2 hx ha
      obtain ⟨Y, B, y1, y2, y3, y4, y5, y6, y7, y8, y9, y10, y11, y12⟩ := snapW_pair s1 s2 hy hb
      have hg : onGrid X Y A B s = true := by simp [onGrid, inB_true s1 s2, x11, x12, y11, y12]
      have hgood : (st < 1) ∨ (¬ st < 1 ∧ 4096 < st) ∨ (¬ st < 1 ∧ ¬ 4096 < st ∧ n < -1000000000) ∨ (¬ st < 1 ∧ ¬ 4096 < st ∧ ¬ n < -1000000000 ∧ 1000000000 < n) ∨ (¬ st < 1 ∧ ¬ 4096 < st ∧ ¬ n < -1000000000 ∧ ¬ 1000000000 < n) := by omega
      rw [x1] at g1
      rw [y1] at g2
      rw [x2] at g3
      rw [y2] at g4
      obtain ⟨hx1, hx2⟩ := hx
      obtain ⟨hy1, hy2⟩ := hy
      obtain ⟨ha1, ha2⟩ := ha
      obtain ⟨hb1, hb2⟩ := hb
      clear x11 x12 y11 y12
      rcases hgood with k1 | ⟨k1, k2⟩ | ⟨k1, k2, k3⟩ | ⟨k1, k2, k3, k4⟩ | ⟨k1, k2, k3, k4⟩
      rotate_left 4
      · obtain ⟨Z, z1, z2, z3, z4, z5, z6⟩ := snapTo_pair (n := n) (s := st) (by omega) (by omega) (by omega) (by omega)
        have z7 : (Z.tmod st == 0) = true := by rw [z6]; rfl
        clear z6
        go_wp2_with (first | (go_at_call 13; refine (snapTo_any _ _ _).mono ?_; rintro e w' ⟨rfl, rfl⟩))
        have v1 : IntKind.i64.wrap (-(A - fa)) = fa - A := (IntWalk.i64_in _ (by omega)).trans (Int.neg_sub _ _)
        have v2 : IntKind.i64.wrap (-(B - fb)) = fb - B := (IntWalk.i64_in _ (by omega)).trans (Int.neg_sub _ _)
        go_region_held3 (fun w' => Mod (fun _ => False) w w' ∧ w'.cell? ⟨w3.heap.size, 0, none⟩ = some (.int .i64 1) ∧ w'.cell? ⟨w3.heap.size, 1, none⟩ = some (.int .i64 X) ∧ w'.cell? ⟨w3.heap.size, 2, none⟩ = some (.int .i64 Y) ∧ w'.cell? ⟨w3.heap.size, 3, none⟩ = some (.int .i64 A) ∧ w'.cell? ⟨w3.heap.size, 4, none⟩ = some (.int .i64 B)) (first | exact ⟨hM.drew, by simp [go_sem, *]⟩ | exact ⟨‹Mod (fun _ => False) w _ ∧ _›.1.trans hm, by have hq := hm.keep; simp [*]⟩) (first | (go_at_call 16; refine (snapFrame_any _ _ _ _ _ _ _).mono ?_; unfold frv; rintro e w' ⟨rfl, hm⟩) | (go_at_call 18; refine (onGrid_any _ _ _ _ _ _ _).mono ?_; rintro e w' ⟨rfl, hm⟩))
        rename_i hHeld
        have hM2 := hHeld.1
        clear hHeld
        go_wp2
        go_ret
        exact ⟨rfl, hM2⟩
      all_goals
        go_wp2_with (first | (go_at_call 13; refine (snapTo_any _ _ _).mono ?_; rintro e w' ⟨rfl, rfl⟩))
        have v1 : IntKind.i64.wrap (-(A - fa)) = fa - A := (IntWalk.i64_in _ (by omega)).trans (Int.neg_sub _ _)
        have v2 : IntKind.i64.wrap (-(B - fb)) = fb - B := (IntWalk.i64_in _ (by omega)).trans (Int.neg_sub _ _)
        go_region_held3 (fun w' => Mod (fun _ => False) w w' ∧ w'.cell? ⟨w3.heap.size, 0, none⟩ = some (.int .i64 1) ∧ w'.cell? ⟨w3.heap.size, 1, none⟩ = some (.int .i64 X) ∧ w'.cell? ⟨w3.heap.size, 2, none⟩ = some (.int .i64 Y) ∧ w'.cell? ⟨w3.heap.size, 3, none⟩ = some (.int .i64 A) ∧ w'.cell? ⟨w3.heap.size, 4, none⟩ = some (.int .i64 B)) (first | exact ⟨hM.drew, by simp [go_sem, *]⟩ | exact ⟨‹Mod (fun _ => False) w _ ∧ _›.1.trans hm, by have hq := hm.keep; simp [*]⟩) (first | (go_at_call 16; refine (snapFrame_any _ _ _ _ _ _ _).mono ?_; unfold frv; rintro e w' ⟨rfl, hm⟩) | (go_at_call 18; refine (onGrid_any _ _ _ _ _ _ _).mono ?_; rintro e w' ⟨rfl, hm⟩))
        rename_i hHeld
        have hM2 := hHeld.1
        clear hHeld
        go_wp2
        go_ret
        exact ⟨rfl, hM2⟩
    · have e5 := snapTo_out (n := x) hs
      have e6 := snapTo_out (n := y) hs
      have e7 := snapW_out hs hx ha
      have e8 := snapW_out hs hy hb
      have hs' : s < 1 ∨ (¬ s < 1 ∧ 4096 < s) := by omega
      clear hs hx ha hy hb
      rw [e5] at g1
      rw [e6] at g2
      rw [e7] at g3
      rw [e8] at g4
      rcases hs' with hs | ⟨hs, hs2⟩
      · go_wp2_with (first | (go_at_call 13; refine (snapTo_any _ _ _).mono ?_; rintro e w' ⟨rfl, rfl⟩))
        go_ret
        exact ⟨rfl, hM⟩
      · go_wp2_with (first | (go_at_call 13; refine (snapTo_any _ _ _).mono ?_; rintro e w' ⟨rfl, rfl⟩))
        go_ret
        exact ⟨rfl, hM⟩

/-! ### The row's frame (the kit's skeleton, turned) -/
namespace fnSnapped
open Go.ChangeShapes Go.WideShapes Go.ChangeAt Go.RowKit
set_option linter.unusedVariables false

theorem own : ownKnob Try.prog.godebug = none := by kernel_rfl
theorem laidOut : laidOutB Try.prog = true := by kernel_rfl
def IsRow (k : IntKind) (w : World) (a : Option Addr) (len cap : Nat) (zs : List Int) : Prop :=
  (a = none ∧ len = 0 ∧ cap = 0 ∧ zs = []) ∨
  ∃ x, a = some x ∧ len ≤ cap ∧ cap ≤ maxLen ∧ zs.length = cap ∧ (∀ i, i < zs.length → w.cell? (x.add i) = some (.int k (zs.getD i 0))) ∧ ∀ n ∈ zs, (Lit.int k n).wf = true

theorem walk (a0 : Option Addr) (len0 cap0 : Nat) (z0 : List Int) (w : World) (w0 : IsRow .u8 w a0 len0 cap0 z0) :
    Calls Try.prog 4 #[.slice a0 len0 cap0] w fun e w' => e = .returned (.bool true) ∧ Below w.heap.size w w' := by
  obtain ⟨h1, h2⟩ := bytes_of_row (a := a0) (len := len0) (cap := cap0) (zs := z0) w0
  exact (fnSnapped_walk w a0 len0 cap0 h1 h2).mono fun e w' ⟨he, hm⟩ => ⟨he, hm.below (Nat.le_refl _) fun _ _ h => h⟩

set_option maxRecDepth 100000 in
theorem lifted (os : Os) (started : os.Started) (H : Type) (enc : TypeId × Value → H) :
    ReturnsInHanded {} Try.checked os 4 .any (Rows.fnSnappedSpec.pre6 enc Try.prog Try.f4 Rows.fnSnappedRow.domain false) (Rows.fnSnappedSpec.post enc Try.prog Try.f4 false true false false) := by
  refine returnsInHanded_of_change (C := Try.checked) own started (by kernel_rfl) Try.func4
    (ChangeSpec.witness6 (enc := enc) (C := Try.checked) false ⟨#[], #[.slice none 0 0], []⟩ 8 (by kernel_rfl) (by kernel_rfl) (by kernel_rfl) (by kernel_rfl)) ?_
  intro W base args ds gs before hval0 hW hcnd _
  have hval : ∀ (j : Nat) t v, Try.f4.params[j]? = some t → args[j]? = some v → Value.okWide Try.prog W .any base t v := hval0
  have hW' := hW
  obtain ⟨p, q, hA0, hV, rfl, hfz, hnd⟩ := hW
  have hA : DataW.TrodAll enc Try.prog W 0 (fun _ => true) true Try.f4.params.toList args.toList ds p := hA0
  rw [Try.params4] at hA hval
  obtain ⟨v0, vs0, d0, ds0, p0, q0, hargs, rfl, rfl, h0, r0⟩ := trodAll_cons hA
  obtain ⟨rfl, rfl, rfl⟩ := trodAll_nil r0
  obtain rfl : args = #[v0] := by cases args; simp_all
  obtain ⟨rfl, rfl⟩ := trodVars_none hV
  obtain ⟨a0, len0, cap0, rfl⟩ := okWide_slice Try.underlying24 (hval 0 24 v0 rfl rfl)
  have k0 := h0
  have lt0 : ∀ x ∈ p0, x.block < W.heap.size := by obtain ⟨m, hm⟩ := k0; exact DataW.trod_lt m _ _ _ hm
  obtain ⟨z0, w0⟩ : ∃ zs, IsRow .u8 W a0 len0 cap0 zs := by
    obtain ⟨fuel, hf⟩ := h0
    rcases open_ints Try.underlying24 Try.underlying5 (by kernel_rfl) hf with ⟨hcs, _⟩ | ⟨x, l, c, zs, hcs, _, hl, hm, hz, _, hcell, hwz⟩
    · simp [Value.cells] at hcs
      obtain ⟨rfl, rfl, rfl⟩ := hcs
      exact ⟨[], .inl ⟨rfl, rfl, rfl, rfl⟩⟩
    · simp [Value.cells] at hcs
      obtain ⟨rfl, rfl, rfl⟩ := hcs
      exact ⟨zs, .inr ⟨_, rfl, hl, hm, by simpa using hz, hcell, hwz⟩⟩
  clear hA0 hval0
  refine (walk a0 len0 cap0 z0 W w0).mono fun e W' ⟨he, bel⟩ => ?_
  subst he
  exact ⟨_, rfl, _, _, _, [], _, [], hW', trodAll_mk1 (shut_bool Try.underlying4 _), (trodAll_cons_mk (Below.trod laidOut (by kernel_rfl) (of_decide_eq_true (by kernel_rfl)) k0 bel lt0) trodAll_mk0), rfl, bel.frame _, fun h => by cases h⟩

theorem over : Rows.fnSnappedRow.holds Try.pinned (OpenSpec.ofChange Rows.fnSnappedSpec) :=
  OpenClaim.holds_of_wide 4 Try.f4 rfl rfl rfl rfl rfl rfl rfl ⟨rfl, rfl, rfl, rfl, rfl⟩ rfl rfl rfl rfl rfl (by kernel_rfl) Try.func4 (by kernel_rfl)
    (of_decide_eq_true (by kernel_rfl)) (by unfold Func.isWrapper; first | (rw [if_pos (by decide +kernel)]; kernel_rfl) | (rw [if_neg (by decide +kernel)]; exact ⟨rfl, rfl⟩))
    (fun os started H enc _ => lifted os started H enc)

theorem proved : Rows.FnSnappedSaid := over
#print axioms proved
end fnSnapped

end Go.Proofs.Ytpmbobopkfacmaa
