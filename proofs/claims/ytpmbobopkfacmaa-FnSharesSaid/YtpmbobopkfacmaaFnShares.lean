/-
  PROVED: for every list of bytes the law FnShares returns true. Conditions: none.
-/
import Derived.Test.YtpmbobopkfacmaaSharesDraw
import Derived.Test.YtpmbobopkfacmaaShareAt
import Derived.Test.YtpmbobopkfacmaaSharesMath
import Derived.Test.YtpmbobopkfacmaaBig
import Derived.Test.YtpmbobopkfacmaaReg
import Derived.Test.YtpmbobopkfacmaaSnap2
import Derived.Deep.RegionWith
import Derived.Test.YtpmbobopkfacmaaRows
import Derived.ProofKit
import Derived.OpenShut
import Derived.ShutString
import Derived.ChangeOld
namespace Go.Proofs.Ytpmbobopkfacmaa
open Go.RowKit

theorem lit_ints (w : World) (l : List Int) : IntSlice (fun k => w.heap.size ≤ k) (w.alloc (.cells (l.map (Value.int .i64)).toArray 3)) (some ⟨w.heap.size, 0, none⟩) l := by
  have e : (l.map icell).flatten = l.map (Value.int .i64) := by
    induction l with
    | nil => rfl
    | cons x l ih => simp only [List.map_cons, List.flatten_cons, ih]; rfl
  have hb : (w.alloc (.cells (l.map (Value.int .i64)).toArray 3)).heap[w.heap.size]? = some (.cells (l.map icell).flatten.toArray 3 (0, 0)) := by rw [e]; exact heap_alloc_new w _
  obtain ⟨rows, h1, h2, h3⟩ := flat_of_blk (cells := icell) (sz := 1) hb (fun _ => rfl)
  exact ⟨rows, h1.weaken fun k _ (hk : k = w.heap.size) => by show w.heap.size ≤ k; omega, h2, h3⟩

theorem shares712 : shares 7 [1, 2] = [2, 5] := by decide

set_option maxRecDepth 100000 in
set_option maxHeartbeats 8000000 in
theorem fnShares_walk (w : World) (a : Option Addr) (len cap : Nat) (hlen : len ≤ 9223372036854775807) (hy : Bytes w.heap.size w a len) :
    Calls Try.prog 7 #[.slice a len cap] w fun e w' => e = .returned (.bool true) ∧ Mod (fun _ => False) w w' := by
  by_cases hl : 1048576 < len
  · have hd : decide (1048576 < len) = true := by simpa using hl
    go_enter Try.func7, Try.ntmps7
    go_wp2_with (first | (go_at_call 11; refine (tooBig_any _ _ _ hlen _).mono ?_; rintro e w' ⟨rfl, rfl⟩))
    go_ret
    exact ⟨rfl, Mod.refl _ _⟩
  · have hd : decide (1048576 < len) = false := by simpa using hl
    have Hy := hid hy
    clear hy
    go_enter Try.func7, Try.ntmps7
    go_wp2_with fail
    refine (tooBig_any _ _ _ hlen _).mono ?_
    rintro e w' ⟨rfl, rfl⟩
    go_wp2_with fail
    refine (drawShares_any w.heap.size w a len cap (Nat.le_refl _) (by omega) Hy.out).mono ?_
    rintro e w1 ⟨n, a1, c1, l, rfl, hl1, hs1, hm1⟩
    have H1 := hid hs1
    clear hs1 Hy hl hd hlen
    go_wp2_with fail
    refine (shares_any n l _ _ _ w1 (by omega) H1.out).mono ?_
    intro e w2 hr
    obtain ⟨a2, c2, g2, N2, rfl, _, hs2, _, hm2⟩ := NewSlice.use (cells := icell) (sz := 1) hr (fun _ => rfl) (by decide)
    clear hr
    go_wp2_with fail
    refine (sshares_any n l _ _ _ w2 (by omega) (H1.out.flatKeep hm2)).mono ?_
    intro e w3 hr
    obtain ⟨a3, c3, g3, N3, rfl, _, hs3, _, hm3⟩ := NewSlice.use (cells := icell) (sz := 1) hr (fun _ => rfl) (by decide)
    clear hr
    have hshl : (shares n l).length ≤ 100 := by
      unfold shares
      split
      · rw [sharesTo_length]; exact hl1
      · simp
    go_wp2_with fail
    refine (sameInts_any _ _ (shares n l) (shares n l) _ _ w3 (IntSlice.at (hs2.flatKeep hm3)) (IntSlice.at hs3) (by omega) (by omega)).mono ?_
    rintro e w4 ⟨rfl, hm4⟩
    rw [decide_eq_true rfl]
    have hM4 := ((hm1.thenNone hm2).thenNone hm3).thenNone hm4
    have hm24 := hm3.thenNone hm4
    have H2 := hid (hs2.flatKeep hm24)
    have H1' := hid (H1.out.flatKeep (hm2.thenNone hm24))
    clear hs2 hs3 hm1 hm2 hm3 hm4 hm24 H1
    go_wp2_with fail
    refine (swOk_any l _ _ _ w4 (by omega) H1'.out).mono ?_
    rintro e w' ⟨rfl, rfl⟩
    by_cases hw : wOk l = true
    · rw [hw]
      have hsh : shares n l = sharesTo (signedL n) l l.length := by unfold shares; rw [if_pos hw]
      have hlen2 : (shares n l).length = l.length := by rw [hsh, sharesTo_length]
      have hget : ∀ k, k < l.length → (shares n l)[k]? = some (shareOf (signedL n) l k) := by intro k hk; rw [hsh]; simp [sharesTo, hk]
      rw [hlen2]
      have Hget := hid hget
      have Hlen2 := hid hlen2
      have Hw := hid hw
      have hl64 := (wOk_bd hw).1
      obtain ⟨m0, m1⟩ := signedL_bd n
      obtain ⟨s0, s1⟩ := sumTo_bd hw l.length
      clear hget hlen2 hsh hw hshl
      go_wp2
      go_loop [6, 7, 8] (fun s z i => ∃ k : Nat, k ≤ l.length ∧ i = .int .i64 k ∧ z = .int .i64 (sumTo l k) ∧ s = .int .i64 (shareSum (signedL n) l k)) (fun _ _ i => l.length - (intOf i).toNat)
      case atStart => exact ⟨0, by omega, rfl, rfl, by rw [shareSum_zero]⟩
      case round =>
        obtain ⟨k, hk, rfl, rfl, rfl⟩ := hrel
        obtain ⟨t0, t1⟩ := sumTo_bd Hw.out k
        by_cases hlt : k < l.length
        · obtain ⟨b, o, x, rfl, _, _, hx, hc⟩ := IntSlice.get H1'.out hlt
          obtain ⟨b', o', y, rfl, _, _, hy, hd⟩ := IntSlice.get H2.out (show k < (shares n l).length by rw [Hlen2.out]; exact hlt)
          obtain rfl : y = shareOf (signedL n) l k := by
            have := hy.out.symm.trans (Hget.out k hlt)
            simpa using this
          have e := hid (sumTo_succ hx)
          have es := hid (shareSum_succ (signedL n) l k)
          obtain ⟨x0, x1⟩ := (wOk_bd Hw.out).2 x (List.mem_of_getElem? hx.out)
          have p2 := mul_bd m0 m1 t0 t1
          obtain ⟨q0, q1⟩ := fdiv_bd0 (b := sumTo l l.length) (show (0 : Int) ≤ 72057594037927936 by omega) p2.1 p2.2
          obtain ⟨t4, t5⟩ := sumTo_bd Hw.out (k + 1)
          have p3 := mul_bd m0 m1 t4 t5
          obtain ⟨q2, q3⟩ := fdiv_bd0 (b := sumTo l l.length) (show (0 : Int) ≤ 72057594037927936 by omega) p3.1 p3.2
          have r0 : -72057594037927936 ≤ shareSum (signedL n) l k := q0
          have r1 : shareSum (signedL n) l k ≤ 72057594037927936 := q1
          have r2 : -72057594037927936 ≤ shareSum (signedL n) l k + shareOf (signedL n) l k := by have := es.out; have : shareSum (signedL n) l (k + 1) = _ := rfl; unfold shareSum at this; rw [← es.out]; exact q2
          have r3 : shareSum (signedL n) l k + shareOf (signedL n) l k ≤ 72057594037927936 := by rw [← es.out]; exact q3
          clear p2 p3 q0 q1 q2 q3 t4 t5
          go_wp2
          go_round
          case rel => exact ⟨k + 1, by omega, by go_num, by rw [e.out], by rw [es.out]⟩
          case measure => simp [intOf]; omega
        · have hk' : k = l.length := by omega
          subst hk'
          go_wp2_with (first | (go_at_call 39; refine (sbrought_any _ _ _ _).mono ?_; rintro e w' ⟨rfl, rfl⟩))
          have em : brought n (-1048576) 1048576 = signedL n := rfl
          rw [em]
          clear em
          by_cases hS : 0 < sumTo l l.length
          · have hsa := shareSum_all (signedL n) l hS
            have e1 : (shareSum (signedL n) l l.length == signedL n) = true := by rw [hsa]; simp
            have hS1 : decide (0 < sumTo l l.length) = true := decide_eq_true hS
            have E1 := hid hsa
            clear hsa
            go_loopw [10] (fun i wr => ∃ k : Nat, k ≤ l.length ∧ i = .int .i64 k ∧ Mod (fun _ => False) w4 wr) (fun i _ => l.length - (intOf i).toNat)
            case atStart => exact ⟨0, by omega, rfl, Mod.refl _ _⟩
            case round =>
              obtain ⟨k, hk, rfl, hM⟩ := hrel
              by_cases hlt : k < l.length
              · obtain ⟨b, o, x, ha1, _, _, hx, hc⟩ := IntSlice.get (H1'.out.flatKeep hM) hlt
                obtain ⟨b', o', y, ha2, _, _, hy, hd⟩ := IntSlice.get (H2.out.flatKeep hM) (show k < (shares n l).length by rw [Hlen2.out]; exact hlt)
                obtain rfl : y = shareOf (signedL n) l k := by
                  have := hy.out.symm.trans (Hget.out k hlt)
                  simpa using this
                subst ha1 ha2
                obtain ⟨n1, n2, n3⟩ := share_near (signedL n) hS hx
                obtain ⟨x0, x1⟩ := (wOk_bd Hw.out).2 x (List.mem_of_getElem? hx.out)
                have p2 := mul_bd m0 m1 x0 (show x ≤ 68719476736 by omega)
                obtain ⟨p2, p3⟩ := p2
                obtain ⟨q0, q1⟩ := fdiv_bd0 (b := sumTo l l.length) (show (0 : Int) ≤ 72057594037927936 by omega) p2 p3
                have d1 : decide (shareOf (signedL n) l k < fdiv (signedL n * x) (sumTo l l.length)) = false := decide_eq_false (by omega)
                have d2 : decide (fdiv (signedL n * x) (sumTo l l.length) + 1 < shareOf (signedL n) l k) = false := decide_eq_false (by omega)
                have V1 : Hid (IntKind.i64.wrap (fdiv (signedL n * x) (sumTo l l.length) + 1) = fdiv (signedL n * x) (sumTo l l.length) + 1) := IntWalk.i64_in _ (by omega)
                clear n1 n2
                by_cases h0 : x = 0
                · have n4 := n3 h0
                  have h0' : (x == 0) = true := by simpa using h0
                  have n4' : (shareOf (signedL n) l k != 0) = false := by simpa using n4
                  have N4 := hid n4
                  have H0 := hid h0
                  clear n3 n4 h0
                  go_wp2_with (first | (go_at_call 40; refine (sfdiv_any _ _ (by omega) (by omega) (by omega) _).mono ?_; rintro e w' ⟨rfl, rfl⟩))
                  have v1 := V1.out
                  go_region_held3 (fun w' => Mod (fun _ => False) w4 w' ∧ w'.cell? ⟨b, o + k, none⟩ = some (.int .i64 x) ∧ w'.cell? ⟨b', o' + k, none⟩ = some (.int .i64 (shareOf (signedL n) l k))) (first | exact ⟨hM.drew, by simp [go_sem, *]⟩ | exact ⟨‹Mod (fun _ => False) w4 _ ∧ _›.1.trans hm, by have hq := hm.keep; simp [*]⟩) (first | (go_at_call 41; refine (shareAt_any n l _ _ k (fun j => w.heap.size ≤ j) _ (by omega) hlt Hw.out ?_).mono ?_; (exact H1'.out.flatKeep ‹Mod (fun _ => False) w4 _ ∧ _›.1); rintro e w' ⟨rfl, hm⟩))
                  clear v1
                  rename_i hHeld
                  have hMz := hHeld.1
                  clear hHeld
                  go_wp2
                  go_roundw
                  case rel => exact ⟨k + 1, by omega, by go_num, hMz⟩
                  case measure => simp [intOf]; omega
                · have h0' : (x == 0) = false := by simpa using h0
                  have h0d : decide (x = 0) = false := decide_eq_false h0
                  clear n3
                  go_wp2_with (first | (go_at_call 40; refine (sfdiv_any _ _ (by omega) (by omega) (by omega) _).mono ?_; rintro e w' ⟨rfl, rfl⟩))
                  have v1 := V1.out
                  have q1 := hold hc
                  have q2 := hold hd
                  refine wp_region_mod (by kernel_rfl) (by kernel_rfl) ?_
                  repeat (first | (refine RM.skip (fun _ => rfl) ?_; (try simp only [Act.put, List.setIfInBounds_toArray, List.set_cons_zero, List.set_cons_succ])) | (refine RM.const (v := ?_) (fun _ => rfl) (fun xq wq hSq => ?_) ?_; rotate_left; (focus (go_simp; (first | done | with_reducible rfl))); (try simp only [Act.put, List.setIfInBounds_toArray, List.set_cons_zero, List.set_cons_succ])) | (refine RM.callc (v := ?_) (f := ?_) (args := ?_) (fun _ => rfl) (fun xq wq hSq => ?_) (fun wq hSq => ?_) ?_; rotate_left 3; (focus (go_simp; (refine ⟨?_, ?_⟩ <;> with_reducible rfl))); (focus ((exact (shareAt_any n l _ _ k (fun j => w.heap.size ≤ j) _ (by omega) hlt Hw.out (H1'.out.flatKeep (hM.thenNone hSq)))))); (try simp only [Act.put, List.setIfInBounds_toArray, List.set_cons_zero, List.set_cons_succ])))
                  refine RM.done (fun xq wq hSq hUq => ?_)
                  clear q1 q2
                  clear v1
                  go_wp2
                  go_roundw
                  case rel => exact ⟨k + 1, by omega, by go_num, hM.thenNone hSq⟩
                  case measure => simp [intOf]; omega
              · have hk3 : k = l.length := by omega
                subst hk3
                go_wp2_with fail
                refine (shares_any 7 [1, 2] _ _ _ _ (by simp) (lit_ints wr [1, 2])).mono ?_
                intro e w5 hr
                rw [shares712] at hr
                obtain ⟨a5, c5, g5, N5, rfl, _, hs5, _, hm5⟩ := NewSlice.use (cells := icell) (sz := 1) (l := [2, 5]) hr (fun _ => rfl) (by decide)
                clear hr
                go_wp2_with fail
                refine (sameInts_any _ _ [2, 5] [2, 5] _ _ _ (IntSlice.at (hs5.flatKeep ((Mod.refl _ _).alloc _))) (IntSlice.at (lit_ints w5 [2, 5])) (by simp) (by simp)).mono ?_
                rintro e w6 ⟨rfl, hm6⟩
                rw [decide_eq_true rfl]
                go_wp2
                go_ret
                exact ⟨rfl, by (repeat (first | with_reducible exact Mod.refl _ _ | with_reducible refine Mod.drewN ?_ _ | with_reducible refine Mod.drew ?_ | with_reducible refine Mod.alloc ?_ _ | ((with_reducible refine Mod.setNew ?_ ?_ _ _ _); (rotate_left; omega)) | with_reducible refine Mod.setAt ?_ _ _ _ | with_reducible exact hm6 | with_reducible refine Mod.thenNone ?_ hm6 | with_reducible exact hm5 | with_reducible refine Mod.thenNone ?_ hm5 | with_reducible exact hM | with_reducible refine Mod.thenNone ?_ hM | with_reducible exact hM4 | with_reducible refine Mod.thenNone ?_ hM4 ))⟩
          · have hsz : sumTo l l.length = 0 := by omega
            have hsn := shareSum_none (signedL n) l l.length hS
            have hS1 : decide (0 < sumTo l l.length) = false := decide_eq_false hS
            have e1 : (sumTo l l.length == 0) = true := by simpa using hsz
            have e2 : (shareSum (signedL n) l l.length == 0) = true := by simpa using hsn
            clear hsz hsn
            go_loopw [10] (fun i wr => i = .int .i64 0 ∧ Mod (fun _ => False) w4 wr) (fun _ _ => 0)
            case atStart => exact ⟨rfl, Mod.refl _ _⟩
            case round =>
              obtain ⟨rfl, hM⟩ := hrel
              by_cases hlt : 0 < l.length
              all_goals
                go_wp2_with fail
                refine (shares_any 7 [1, 2] _ _ _ _ (by simp) (lit_ints wr [1, 2])).mono ?_
                intro e w5 hr
                rw [shares712] at hr
                obtain ⟨a5, c5, g5, N5, rfl, _, hs5, _, hm5⟩ := NewSlice.use (cells := icell) (sz := 1) (l := [2, 5]) hr (fun _ => rfl) (by decide)
                clear hr
                go_wp2_with fail
                refine (sameInts_any _ _ [2, 5] [2, 5] _ _ _ (IntSlice.at (hs5.flatKeep ((Mod.refl _ _).alloc _))) (IntSlice.at (lit_ints w5 [2, 5])) (by simp) (by simp)).mono ?_
                rintro e w6 ⟨rfl, hm6⟩
                rw [decide_eq_true rfl]
                go_wp2
                go_ret
                exact ⟨rfl, by (repeat (first | with_reducible exact Mod.refl _ _ | with_reducible refine Mod.drewN ?_ _ | with_reducible refine Mod.drew ?_ | with_reducible refine Mod.alloc ?_ _ | ((with_reducible refine Mod.setNew ?_ ?_ _ _ _); (rotate_left; omega)) | with_reducible refine Mod.setAt ?_ _ _ _ | with_reducible exact hm6 | with_reducible refine Mod.thenNone ?_ hm6 | with_reducible exact hm5 | with_reducible refine Mod.thenNone ?_ hm5 | with_reducible exact hM | with_reducible refine Mod.thenNone ?_ hM | with_reducible exact hM4 | with_reducible refine Mod.thenNone ?_ hM4 ))⟩
    · replace hw : wOk l = false := by simpa using hw
      have hsh : shares n l = [] := by unfold shares; rw [hw]; rfl
      rw [hw]
      rw [hsh] at H2 ⊢
      go_wp2_with fail
      refine (shares_any 7 [1, 2] _ _ _ _ (by simp) (lit_ints w4 [1, 2])).mono ?_
      intro e w5 hr
      rw [shares712] at hr
      obtain ⟨a5, c5, g5, N5, rfl, _, hs5, _, hm5⟩ := NewSlice.use (cells := icell) (sz := 1) (l := [2, 5]) hr (fun _ => rfl) (by decide)
      clear hr
      go_wp2_with fail
      refine (sameInts_any _ _ [2, 5] [2, 5] _ _ _ (IntSlice.at (hs5.flatKeep ((Mod.refl _ _).alloc _))) (IntSlice.at (lit_ints w5 [2, 5])) (by simp) (by simp)).mono ?_
      rintro e w6 ⟨rfl, hm6⟩
      rw [decide_eq_true rfl]
      go_wp2
      go_ret
      exact ⟨rfl, by (repeat (first | with_reducible exact Mod.refl _ _ | with_reducible refine Mod.drewN ?_ _ | with_reducible refine Mod.drew ?_ | with_reducible refine Mod.alloc ?_ _ | ((with_reducible refine Mod.setNew ?_ ?_ _ _ _); (rotate_left; omega)) | with_reducible refine Mod.setAt ?_ _ _ _ | with_reducible exact hm6 | with_reducible refine Mod.thenNone ?_ hm6 | with_reducible exact hm5 | with_reducible refine Mod.thenNone ?_ hm5 | with_reducible exact hM4 | with_reducible refine Mod.thenNone ?_ hM4 ))⟩

/-! ### The row's frame (the kit's skeleton, turned) -/
namespace fnShares
open Go.ChangeShapes Go.WideShapes Go.ChangeAt Go.RowKit
set_option linter.unusedVariables false

theorem own : ownKnob Try.prog.godebug = none := by kernel_rfl
theorem laidOut : laidOutB Try.prog = true := by kernel_rfl
def IsRow (k : IntKind) (w : World) (a : Option Addr) (len cap : Nat) (zs : List Int) : Prop :=
  (a = none ∧ len = 0 ∧ cap = 0 ∧ zs = []) ∨
  ∃ x, a = some x ∧ len ≤ cap ∧ cap ≤ maxLen ∧ zs.length = cap ∧ (∀ i, i < zs.length → w.cell? (x.add i) = some (.int k (zs.getD i 0))) ∧ ∀ n ∈ zs, (Lit.int k n).wf = true

theorem walk (a0 : Option Addr) (len0 cap0 : Nat) (z0 : List Int) (w : World) (w0 : IsRow .u8 w a0 len0 cap0 z0) :
    Calls Try.prog 7 #[.slice a0 len0 cap0] w fun e w' => e = .returned (.bool true) ∧ Below w.heap.size w w' := by
  obtain ⟨h1, h2⟩ := bytes_of_row (a := a0) (len := len0) (cap := cap0) (zs := z0) w0
  exact (fnShares_walk w a0 len0 cap0 h1 h2).mono fun e w' ⟨he, hm⟩ => ⟨he, hm.below (Nat.le_refl _) fun _ _ h => h⟩

set_option maxRecDepth 100000 in
theorem lifted (os : Os) (started : os.Started) (H : Type) (enc : TypeId × Value → H) :
    ReturnsInHanded {} Try.checked os 7 .any (Rows.fnSharesSpec.pre6 enc Try.prog Try.f7 Rows.fnSharesRow.domain false) (Rows.fnSharesSpec.post enc Try.prog Try.f7 false true false false) := by
  refine returnsInHanded_of_change (C := Try.checked) own started (by kernel_rfl) Try.func7
    (ChangeSpec.witness6 (enc := enc) (C := Try.checked) false ⟨#[], #[.slice none 0 0], []⟩ 8 (by kernel_rfl) (by kernel_rfl) (by kernel_rfl) (by kernel_rfl)) ?_
  intro W base args ds gs before hval0 hW hcnd _
  have hval : ∀ (j : Nat) t v, Try.f7.params[j]? = some t → args[j]? = some v → Value.okWide Try.prog W .any base t v := hval0
  have hW' := hW
  obtain ⟨p, q, hA0, hV, rfl, hfz, hnd⟩ := hW
  have hA : DataW.TrodAll enc Try.prog W 0 (fun _ => true) true Try.f7.params.toList args.toList ds p := hA0
  rw [Try.params7] at hA hval
  obtain ⟨v0, vs0, d0, ds0, p0, q0, hargs, rfl, rfl, h0, r0⟩ := trodAll_cons hA
  obtain ⟨rfl, rfl, rfl⟩ := trodAll_nil r0
  obtain rfl : args = #[v0] := by cases args; simp_all
  obtain ⟨rfl, rfl⟩ := trodVars_none hV
  obtain ⟨a0, len0, cap0, rfl⟩ := okWide_slice Try.underlying24 (hval 0 24 v0 rfl rfl)
  have k0 := h0
  have lt0 : ∀ x ∈ p0, x.block < W.heap.size := by obtain ⟨m, hm⟩ := k0; exact DataW.trod_lt m _ _ _ hm
  obtain ⟨z0, w0⟩ : ∃ zs, IsRow .u8 W a0 len0 cap0 zs := by
    obtain ⟨fuel, hf⟩ := h0
    rcases open_ints Try.underlying24 Try.underlying5 (by kernel_rfl) hf with ⟨hcs, _⟩ | ⟨x, l, c, zs, hcs, _, hl, hm, hz, _, hcell, hwz⟩
    · simp [Value.cells] at hcs
      obtain ⟨rfl, rfl, rfl⟩ := hcs
      exact ⟨[], .inl ⟨rfl, rfl, rfl, rfl⟩⟩
    · simp [Value.cells] at hcs
      obtain ⟨rfl, rfl, rfl⟩ := hcs
      exact ⟨zs, .inr ⟨_, rfl, hl, hm, by simpa using hz, hcell, hwz⟩⟩
  clear hA0 hval0
  refine (walk a0 len0 cap0 z0 W w0).mono fun e W' ⟨he, bel⟩ => ?_
  subst he
  exact ⟨_, rfl, _, _, _, [], _, [], hW', trodAll_mk1 (shut_bool Try.underlying4 _), (trodAll_cons_mk (Below.trod laidOut (by kernel_rfl) (of_decide_eq_true (by kernel_rfl)) k0 bel lt0) trodAll_mk0), rfl, bel.frame _, fun h => by cases h⟩

theorem over : Rows.fnSharesRow.holds Try.pinned (OpenSpec.ofChange Rows.fnSharesSpec) :=
  OpenClaim.holds_of_wide 7 Try.f7 rfl rfl rfl rfl rfl rfl rfl ⟨rfl, rfl, rfl, rfl, rfl⟩ rfl rfl rfl rfl rfl (by kernel_rfl) Try.func7 (by kernel_rfl)
    (of_decide_eq_true (by kernel_rfl)) (by unfold Func.isWrapper; first | (rw [if_pos (by decide +kernel)]; kernel_rfl) | (rw [if_neg (by decide +kernel)]; exact ⟨rfl, rfl⟩))
    (fun os started H enc _ => lifted os started H enc)

theorem proved : Rows.FnSharesSaid := over
#print axioms proved
end fnShares

end Go.Proofs.Ytpmbobopkfacmaa
