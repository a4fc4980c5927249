/-
  PROVED: for every list of bytes the law FnEvenly returns true. Conditions: none.
-/
import Derived.Test.YtefgjjmnjanleaaEvenDraw
import Derived.Test.YtefgjjmnjanleaaEvenly
import Derived.Test.YtefgjjmnjanleaaScaled
import Derived.Test.YtefgjjmnjanleaaBig
import Derived.Test.YtefgjjmnjanleaaSame
import Derived.Test.YtefgjjmnjanleaaRows
import Derived.ProofKit
import Derived.OpenShut
import Derived.ShutString
import Derived.ChangeOld
namespace Go.Proofs.Ytefgjjmnjanleaa
open Go.RowKit

theorem sum_ones (m : Nat) : sumTo (ones m) m = m := by
  unfold sumTo
  rw [List.take_of_length_le (by rw [ones_length]; omega)]
  induction m with
  | zero => rfl
  | succ m ih => rw [ones_succ, List.sum_append, ih]; simp
theorem evenly_near (n many : Int) : ∃ q : Int, -1048576 ≤ q ∧ q ≤ 1048576 ∧ ∀ (k : Nat) (x : Int), (evenly n many)[k]? = some x → q ≤ x ∧ x ≤ q + 1 := by
  unfold evenly
  split
  · rename_i h
    obtain ⟨m, rfl⟩ : ∃ m : Nat, many = m := ⟨many.toNat, by omega⟩
    simp only [Int.toNat_natCast]
    have hm : m ≤ 64 := by omega
    obtain ⟨m0, m1⟩ := signedL_bd n
    obtain ⟨f0, f1⟩ := fdiv_bd0 (a := signedL n * 1) (b := sumTo (ones m) (ones m).length) (show (0 : Int) ≤ 1048576 by omega) (by omega) (by omega)
    refine ⟨fdiv (signedL n * 1) (sumTo (ones m) (ones m).length), f0, f1, fun k x hx => ?_⟩
    unfold shares at hx
    rw [if_pos (ones_ok hm)] at hx
    have hk : k < m := by
      have := (List.getElem?_eq_some_iff.1 hx).1
      rw [sharesTo_length, ones_length] at this
      exact this
    have hx1 : (ones m)[k]? = some 1 := by simp [ones, List.getElem?_replicate, hk]
    have hs : shareOf (signedL n) (ones m) k = x := by
      rw [ones_length] at hx
      simpa [sharesTo, hk] using hx
    have hpos : 0 < sumTo (ones m) (ones m).length := by rw [ones_length, sum_ones]; omega
    have hn := share_near (signedL n) hpos (hid hx1)
    rw [hs] at hn
    exact ⟨hn.1, hn.2.1⟩
  · exact ⟨0, by omega, by omega, fun k x hx => by simp at hx⟩
theorem evenly103 : evenly 10 3 = [3, 3, 4] := by decide

theorem lit_ints (w : World) (l : List Int) : IntSlice (fun k => w.heap.size ≤ k) (w.alloc (.cells (l.map (Value.int .i64)).toArray 3)) (some ⟨w.heap.size, 0, none⟩) l := by
  have e : (l.map icell).flatten = l.map (Value.int .i64) := by
    induction l with
    | nil => rfl
    | cons x l ih => simp only [List.map_cons, List.flatten_cons, ih]; rfl
  have hb : (w.alloc (.cells (l.map (Value.int .i64)).toArray 3)).heap[w.heap.size]? = some (.cells (l.map icell).flatten.toArray 3 (0, 0)) := by rw [e]; exact heap_alloc_new w _
  obtain ⟨rows, h1, h2, h3⟩ := flat_of_blk (cells := icell) (sz := 1) hb (fun _ => rfl)
  exact ⟨rows, h1.weaken fun k _ (hk : k = w.heap.size) => by show w.heap.size ≤ k; omega, h2, h3⟩
theorem scaled_length (l m : List Int) : (scaled l m).length ≤ l.length := by
  simp [scaled]; omega

set_option maxRecDepth 100000 in
set_option maxHeartbeats 4000000 in
theorem fnEvenly_walk (w : World) (a : Option Addr) (len cap : Nat) (hlen : len ≤ 9223372036854775807) (hy : Bytes w.heap.size w a len) :
    Calls Try.prog 4 #[.slice a len cap] w fun e w' => e = .returned (.bool true) ∧ Mod (fun _ => False) w w' := by
  by_cases hl : 1048576 < len
  · have hd : decide (1048576 < len) = true := by simpa using hl
    go_enter Try.func4, Try.ntmps4
    go_wp2_with (first | (go_at_call 9; refine (tooBig_any _ _ _ hlen _).mono ?_; rintro e w' ⟨rfl, rfl⟩))
    go_ret
    exact ⟨rfl, Mod.refl _ _⟩
  · have hd : decide (1048576 < len) = false := by simpa using hl
    have Hy := hid hy
    clear hy
    go_enter Try.func4, Try.ntmps4
    go_wp2_with fail
    refine (tooBig_any _ _ _ hlen _).mono ?_
    rintro e w' ⟨rfl, rfl⟩
    go_wp2_with fail
    refine (drawEvenly_any w.heap.size w a len cap (Nat.le_refl _) (by omega) Hy.out).mono ?_
    rintro e w1 ⟨n, many, rfl, hm1⟩
    clear hd hlen
    go_wp2_with fail
    refine (evenly_any n many w1).mono ?_
    intro e w2 hr
    obtain ⟨a2, c2, g2, N2, rfl, _, hs2, _, hm2⟩ := NewSlice.use (cells := icell) (sz := 1) hr (fun _ => rfl) (by decide)
    clear hr
    go_wp2_with fail
    refine (sevenly_any n many w2).mono ?_
    intro e w3 hr
    rw [sevenly_eq] at hr
    obtain ⟨a3, c3, g3, N3, rfl, _, hs3, _, hm3⟩ := NewSlice.use (cells := icell) (sz := 1) hr (fun _ => rfl) (by decide)
    clear hr
    have hel := evenly_length n many
    go_wp2_with fail
    refine (sameInts_any _ _ (evenly n many) (evenly n many) _ _ w3 (IntSlice.at (hs2.flatKeep hm3)) (IntSlice.at hs3) (by omega) (by omega)).mono ?_
    rintro e w4 ⟨rfl, hm4⟩
    rw [decide_eq_true rfl]
    have hM4 := ((hm1.thenNone hm2).thenNone hm3).thenNone hm4
    have H2 := hid (hs2.flatKeep (hm3.thenNone hm4))
    obtain ⟨q, q0, q1, hq⟩ := evenly_near n many
    have Hq := hid hq
    clear hs2 hs3 hm1 hm2 hm3 hm4 hq
    have hw4 := hM4.size
    generalize evenly n many = L at *
    go_wp2
    go_loopw [6] (fun i wr => ∃ k : Nat, 1 ≤ k ∧ (k ≤ L.length ∨ k = 1) ∧ i = .int .i64 k ∧ Mod (fun _ => False) w4 wr) (fun i _ => L.length - (intOf i).toNat)
    case atStart => exact ⟨1, by omega, .inr rfl, rfl, Mod.refl _ _⟩
    case round =>
      obtain ⟨k, hk1, hk, rfl, hM⟩ := hrel
      by_cases hlt : k < L.length
      · obtain ⟨b, o, x, rfl, _, _, hx, hc⟩ := IntSlice.get (H2.out.flatKeep hM) hlt
        obtain ⟨b', o', y, e, _, _, hy, hc'⟩ := IntSlice.get (H2.out.flatKeep hM) (show 0 < L.length by omega)
        simp only [Option.some.injEq, Addr.mk.injEq, and_true] at e
        obtain ⟨rfl, rfl⟩ := e
        obtain ⟨x0, x1⟩ := Hq.out k x hx.out
        obtain ⟨y0, y1⟩ := Hq.out 0 y hy.out
        simp only [Nat.add_zero] at hc'
        have hL0 : 0 < L.length := by omega
        have d1 : decide (x - y < -1) = false := decide_eq_false (by omega)
        have d2 : decide (1 < x - y) = false := decide_eq_false (by omega)
        have v0 : IntKind.i64.wrap (x - y) = x - y := IntWalk.i64_in _ (by omega)
        go_wp2
        go_quiet (fail)
        go_wp2
        go_roundw
        case rel => exact ⟨k + 1, by omega, .inl (by omega), by go_num, hM.drewN _⟩
        case measure => simp [intOf]; omega
      · have hsz := hM.size
        go_wp2_with fail
        refine (drawScaled_any w.heap.size wr a len cap (by omega) (by omega) (Hy.out.same fun k hk => (hM4.thenNone hM).block k hk (fun f => f))).mono ?_
        rintro e w5 ⟨a5, a6, c5, c6, l5, l6, rfl, hl5, hl6, hs5, hs6, hm5⟩
        have hM5 := (hM4.thenNone hM).thenNone hm5
        have hsz5 := hM5.size
        clear hm5 hM hM4 H2 Hq hk1 hk hlt
        go_wp2_with fail
        refine (drawWanting_any w.heap.size w5 a len cap hsz5 (by omega) (Hy.out.same fun k hk => hM5.block k hk (fun f => f))).mono ?_
        rintro e w6 ⟨m, a7, c7, l7, rfl, hm0, hl7, hs7, hm6⟩
        have hM6 := hM5.thenNone hm6
        have H5 := hid (hs5.flatKeep hm6)
        have H6 := hid (hs6.flatKeep hm6)
        have H7 := hid hs7
        clear hs5 hs6 hs7 hm6 hM5 Hy
        go_wp2_with fail
        refine (scaled_any l5 l6 _ _ _ _ _ _ w6 (by omega) (by omega) H5.out H6.out).mono ?_
        intro e w7 hr
        obtain ⟨a8, c8, g8, N8, rfl, _, hs8, _, hm7⟩ := NewSlice.use (cells := icell) (sz := 1) hr (fun _ => rfl) (by decide)
        clear hr
        go_wp2_with fail
        refine (sscaled_any l5 l6 _ _ _ _ _ _ w7 (by omega) (by omega) (H5.out.flatKeep hm7) (H6.out.flatKeep hm7)).mono ?_
        intro e w8 hr
        obtain ⟨a9, c9, g9, N9, rfl, _, hs9, _, hm8⟩ := NewSlice.use (cells := icell) (sz := 1) hr (fun _ => rfl) (by decide)
        clear hr
        have hsl := scaled_length l5 l6
        go_wp2_with fail
        refine (sameInts_any _ _ (scaled l5 l6) (scaled l5 l6) _ _ w8 (IntSlice.at (hs8.flatKeep hm8)) (IntSlice.at hs9) (by omega) (by omega)).mono ?_
        rintro e w9 ⟨rfl, hm9⟩
        rw [decide_eq_true rfl]
        have hM9 := ((hM6.thenNone hm7).thenNone hm8).thenNone hm9
        have H7' := hid (H7.out.flatKeep ((hm7.thenNone hm8).thenNone hm9))
        obtain ⟨t0, t1⟩ := totTo_bd l7 l7.length
        have T : totTo l7 l7.length = total l7 := rfl
        rw [T] at t0 t1
        clear hs8 hs9 hm7 hm8 hm9 H5 H6 H7 hM6 hsl T
        go_wp2_with (first | (go_at_call 29; refine (wanting_any m l7 _ _ _ _ (by omega) (by omega) H7'.out).mono ?_; rintro e w' ⟨rfl, rfl⟩) | (go_at_call 30; refine (stotal_any l7 _ _ _ _ (by omega) H7'.out).mono ?_; rintro e w' ⟨rfl, rfl⟩) | (go_at_call 31; refine (total_any l7 _ _ _ _ (by omega) H7'.out).mono ?_; rintro e w' ⟨rfl, rfl⟩))
        refine (evenly_any 10 3 _).mono ?_
        intro e w10 hr
        rw [evenly103] at hr
        obtain ⟨a10, c10, g10, N10, rfl, _, hs10, _, hm10⟩ := NewSlice.use (cells := icell) (sz := 1) (l := [3, 3, 4]) hr (fun _ => rfl) (by decide)
        clear hr
        go_wp2_with fail
        refine (sameInts_any _ _ [3, 3, 4] [3, 3, 4] _ _ _ (IntSlice.at (hs10.flatKeep ((Mod.refl _ _).alloc _))) (IntSlice.at (lit_ints w10 [3, 3, 4])) (by simp) (by simp)).mono ?_
        rintro e w11 ⟨rfl, hm11⟩
        rw [decide_eq_true rfl]
        go_wp2
        go_ret
        exact ⟨rfl, by (repeat (first | with_reducible exact Mod.refl _ _ | with_reducible refine Mod.drewN ?_ _ | with_reducible refine Mod.drew ?_ | with_reducible refine Mod.alloc ?_ _ | ((with_reducible refine Mod.setNew ?_ ?_ _ _ _); (rotate_left; omega)) | with_reducible refine Mod.setAt ?_ _ _ _ | with_reducible exact hm11 | with_reducible refine Mod.thenNone ?_ hm11 | with_reducible exact hm10 | with_reducible refine Mod.thenNone ?_ hm10 | with_reducible exact hM9 | with_reducible refine Mod.thenNone ?_ hM9 ))⟩

/-! ### The row's frame (the kit's skeleton, turned) -/
namespace fnEvenly
open Go.ChangeShapes Go.WideShapes Go.ChangeAt Go.RowKit
set_option linter.unusedVariables false

theorem own : ownKnob Try.prog.godebug = none := by kernel_rfl
theorem laidOut : laidOutB Try.prog = true := by kernel_rfl
def IsRow (k : IntKind) (w : World) (a : Option Addr) (len cap : Nat) (zs : List Int) : Prop :=
  (a = none ∧ len = 0 ∧ cap = 0 ∧ zs = []) ∨
  ∃ x, a = some x ∧ len ≤ cap ∧ cap ≤ maxLen ∧ zs.length = cap ∧ (∀ i, i < zs.length → w.cell? (x.add i) = some (.int k (zs.getD i 0))) ∧ ∀ n ∈ zs, (Lit.int k n).wf = true

theorem walk (a0 : Option Addr) (len0 cap0 : Nat) (z0 : List Int) (w : World) (w0 : IsRow .u8 w a0 len0 cap0 z0) :
    Calls Try.prog 4 #[.slice a0 len0 cap0] w fun e w' => e = .returned (.bool true) ∧ Below w.heap.size w w' := by
  obtain ⟨h1, h2⟩ := bytes_of_row (a := a0) (len := len0) (cap := cap0) (zs := z0) w0
  exact (fnEvenly_walk w a0 len0 cap0 h1 h2).mono fun e w' ⟨he, hm⟩ => ⟨he, hm.below (Nat.le_refl _) fun _ _ h => h⟩

set_option maxRecDepth 100000 in
theorem lifted (os : Os) (started : os.Started) (H : Type) (enc : TypeId × Value → H) :
    ReturnsInHanded {} Try.checked os 4 .any (Rows.fnEvenlySpec.pre6 enc Try.prog Try.f4 Rows.fnEvenlyRow.domain false) (Rows.fnEvenlySpec.post enc Try.prog Try.f4 false true false false) := by
  refine returnsInHanded_of_change (C := Try.checked) own started (by kernel_rfl) Try.func4
    (ChangeSpec.witness6 (enc := enc) (C := Try.checked) false ⟨#[], #[.slice none 0 0], []⟩ 8 (by kernel_rfl) (by kernel_rfl) (by kernel_rfl) (by kernel_rfl)) ?_
  intro W base args ds gs before hval0 hW hcnd _
  have hval : ∀ (j : Nat) t v, Try.f4.params[j]? = some t → args[j]? = some v → Value.okWide Try.prog W .any base t v := hval0
  have hW' := hW
  obtain ⟨p, q, hA0, hV, rfl, hfz, hnd⟩ := hW
  have hA : DataW.TrodAll enc Try.prog W 0 (fun _ => true) true Try.f4.params.toList args.toList ds p := hA0
  rw [Try.params4] at hA hval
  obtain ⟨v0, vs0, d0, ds0, p0, q0, hargs, rfl, rfl, h0, r0⟩ := trodAll_cons hA
  obtain ⟨rfl, rfl, rfl⟩ := trodAll_nil r0
  obtain rfl : args = #[v0] := by cases args; simp_all
  obtain ⟨rfl, rfl⟩ := trodVars_none hV
  obtain ⟨a0, len0, cap0, rfl⟩ := okWide_slice Try.underlying22 (hval 0 22 v0 rfl rfl)
  have k0 := h0
  have lt0 : ∀ x ∈ p0, x.block < W.heap.size := by obtain ⟨m, hm⟩ := k0; exact DataW.trod_lt m _ _ _ hm
  obtain ⟨z0, w0⟩ : ∃ zs, IsRow .u8 W a0 len0 cap0 zs := by
    obtain ⟨fuel, hf⟩ := h0
    rcases open_ints Try.underlying22 Try.underlying5 (by kernel_rfl) hf with ⟨hcs, _⟩ | ⟨x, l, c, zs, hcs, _, hl, hm, hz, _, hcell, hwz⟩
    · simp [Value.cells] at hcs
      obtain ⟨rfl, rfl, rfl⟩ := hcs
      exact ⟨[], .inl ⟨rfl, rfl, rfl, rfl⟩⟩
    · simp [Value.cells] at hcs
      obtain ⟨rfl, rfl, rfl⟩ := hcs
      exact ⟨zs, .inr ⟨_, rfl, hl, hm, by simpa using hz, hcell, hwz⟩⟩
  clear hA0 hval0
  refine (walk a0 len0 cap0 z0 W w0).mono fun e W' ⟨he, bel⟩ => ?_
  subst he
  exact ⟨_, rfl, _, _, _, [], _, [], hW', trodAll_mk1 (shut_bool Try.underlying4 _), (trodAll_cons_mk (Below.trod laidOut (by kernel_rfl) (of_decide_eq_true (by kernel_rfl)) k0 bel lt0) trodAll_mk0), rfl, bel.frame _, fun h => by cases h⟩

theorem over : Rows.fnEvenlyRow.holds Try.pinned (OpenSpec.ofChange Rows.fnEvenlySpec) :=
  OpenClaim.holds_of_wide 4 Try.f4 rfl rfl rfl rfl rfl rfl rfl ⟨rfl, rfl, rfl, rfl, rfl⟩ rfl rfl rfl rfl rfl (by kernel_rfl) Try.func4 (by kernel_rfl)
    (of_decide_eq_true (by kernel_rfl)) (by unfold Func.isWrapper; first | (rw [if_pos (by decide +kernel)]; kernel_rfl) | (rw [if_neg (by decide +kernel)]; exact ⟨rfl, rfl⟩))
    (fun os started H enc _ => lifted os started H enc)

theorem proved : Rows.FnEvenlySaid := over
#print axioms proved
end fnEvenly

end Go.Proofs.Ytefgjjmnjanleaa
