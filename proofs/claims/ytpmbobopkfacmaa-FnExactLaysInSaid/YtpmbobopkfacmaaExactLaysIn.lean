/-
  PROVED: for every list of actions the law FnExactLaysIn returns true. Conditions: none.
-/
import Derived.Test.YtpmbobopkfacmaaActS
import Derived.Test.YtpmbobopkfacmaaRows
import Derived.ProofKit
import Derived.OpenShut
import Derived.ShutString
import Derived.ChangeOld
namespace Go.Proofs.Ytpmbobopkfacmaa
open Go.RowKit

set_option maxRecDepth 100000 in
set_option maxHeartbeats 1000000 in
/-- Two slices of the same actions. -/
theorem eqActS_any (l : List Act) (a a' : Option Addr) (c c' : Nat) (R S R' S' : Nat → Prop) (w : World) (hl : l.length ≤ 1048576) (hx : ∀ x ∈ l, x.table.length ≤ 1048576) (h : SliceAt (repAct R) 11 S w a l) (h' : SliceAt (repAct R') 11 S' w a' l) :
    Calls Try.prog 46 #[.slice a l.length c, .slice a' l.length c'] w fun e w' => e = .returned (.bool true) ∧ Mod (fun _ => False) w w' := by
  have H := hid h
  have H' := hid h'
  have HX := hid hx
  clear h h' hx
  have hn0 : ((l.length : Int) != (l.length : Int)) = false := by simp
  go_enter Try.func46, Try.ntmps46
  go_wp2
  go_loopw [5] (fun i wr => ∃ k : Nat, k ≤ l.length ∧ i = .int .i64 k ∧ Mod (fun _ => False) w wr) (fun i _ => l.length - (intOf i).toNat)
  case atStart => exact ⟨0, by omega, rfl, Mod.refl _ _⟩
  case round =>
    obtain ⟨k, hk, rfl, hmod⟩ := hrel
    by_cases hlt : k < l.length
    · obtain ⟨b, o, x, r, rfl, hb, hbw, hx, hr, hrl, hc⟩ := (H.out.mod hmod (fun _ _ f => f) (fun _ _ h => h.mod hmod (fun _ _ f => f))).get hlt
      obtain ⟨b', o', y, r', rfl, hb', hbw', hy, hr', hrl', hd⟩ := (H'.out.mod hmod (fun _ _ f => f) (fun _ _ h => h.mod hmod (fun _ _ f => f))).get hlt
      have hxy : y = x := by
        have := hx.out.symm.trans hy.out
        simpa using this.symm
      subst hxy
      obtain ⟨a2, c2, rfl, hs2⟩ := hr
      obtain ⟨a3, c3', rfl, hs3⟩ := hr'
      have hxl := HX.out y (List.mem_of_getElem? hx.out)
      have c0 := hc 0 _ rfl
      have d0 := hd 0 _ rfl
      have c1 := hc 1 _ rfl
      have d1 := hd 1 _ rfl
      have c2 := hc 2 _ rfl
      have d2 := hd 2 _ rfl
      have c3 := hc 3 _ rfl
      have d3 := hd 3 _ rfl
      have c4 := hc 4 _ rfl
      have d4 := hd 4 _ rfl
      have c5 := hc 5 _ rfl
      have d5 := hd 5 _ rfl
      have c6 := hc 6 _ rfl
      have d6 := hd 6 _ rfl
      have c7 := hc 7 _ rfl
      have d7 := hd 7 _ rfl
      have c8 := hc 8 _ rfl
      have d8 := hd 8 _ rfl
      have c9 := hc 9 _ rfl
      have d9 := hd 9 _ rfl
      have c10 := hc 10 _ rfl
      have d10 := hd 10 _ rfl
      simp only [Nat.add_zero] at c0 d0
      clear hc hd hrl hrl'
      have Hs2 := hid hs2
      have Hs3 := hid hs3
      clear hs2 hs3
      go_wp2
      go_still_tail 8, (by kernel_rfl)
      go_wp2_with fail
      refine (eqAct_any y _ _ _ _ R R' _ hxl (Hs2.out.flatKeep ?_) (Hs3.out.flatKeep ?_)).mono ?_
      · exact (Mod.refl _ wr).drew
      · exact (Mod.refl _ wr).drew
      rintro e w1 ⟨rfl, hm1⟩
      go_wp2
      go_roundw
      case rel => exact ⟨k + 1, by omega, by go_num, hmod.drew.thenNone hm1⟩
      case measure => simp [intOf]; omega
    · go_wp2
      go_ret
      exact ⟨rfl, hmod⟩

def laysIn (l : List Act) : Nat := (l.filter fun x => x.kind == 7).length
theorem laysIn_succ {l : List Act} {k : Nat} {x : Act} (h : Hid (l[k]? = some x)) : laysIn (l.take (k + 1)) = laysIn (l.take k) + (if x.kind = 7 then 1 else 0) := by
  unfold laysIn
  rw [List.take_add_one, h.out, List.filter_append, List.length_append]
  by_cases hx : x.kind = 7 <;> simp [List.filter_cons, hx]
theorem laysIn_le (l : List Act) : laysIn l ≤ l.length := List.length_filter_le _ _

set_option maxRecDepth 100000 in
set_option maxHeartbeats 1000000 in
theorem slaysIn_any (l : List Act) (a : Option Addr) (c : Nat) (R S : Nat → Prop) (w : World) (hl : l.length ≤ 1048576) (h : SliceAt (repAct R) 11 S w a l) :
    Calls Try.prog 43 #[.slice a l.length c] w fun e w' => e = .returned (.int .i64 (laysIn l : Nat)) ∧ Mod (fun _ => False) w w' := by
  have H := hid h
  clear h
  go_enter Try.func43, Try.ntmps43
  go_wp2
  go_loopw [3, 4] (fun z i wr => ∃ (k q : Nat), k ≤ l.length ∧ z = .int .i64 (q : Nat) ∧ Hid (q = laysIn (l.take k)) ∧ q ≤ k ∧ i = .int .i64 k ∧ Mod (fun _ => False) w wr) (fun _ i _ => l.length - (intOf i).toNat)
  case atStart => exact ⟨0, 0, by omega, rfl, by show 0 = _; simp [laysIn], by omega, rfl, Mod.refl _ _⟩
  case round =>
    obtain ⟨k, q, hk, rfl, hq, hqk, rfl, hmod⟩ := hrel
    by_cases hlt : k < l.length
    · obtain ⟨b, o, x, r, rfl, hb, hbw, hx, hr, hrl, hc⟩ := (H.out.mod hmod (fun _ _ f => f) (fun _ _ h => h.mod hmod (fun _ _ f => f))).get hlt
      obtain ⟨a2, c2, rfl, hs2⟩ := hr
      have c0 := hc 0 _ rfl
      have c1 := hc 1 _ rfl
      have c2 := hc 2 _ rfl
      have c3 := hc 3 _ rfl
      have c4 := hc 4 _ rfl
      have c5 := hc 5 _ rfl
      have c6 := hc 6 _ rfl
      have c7 := hc 7 _ rfl
      have c8 := hc 8 _ rfl
      have c9 := hc 9 _ rfl
      have c10 := hc 10 _ rfl
      simp only [Nat.add_zero] at c0
      clear hc hrl hs2
      have e := laysIn_succ hx
      by_cases h7 : x.kind = 7
      · rw [if_pos h7, ← hq.out] at e
        have h7' : (x.kind == 7) = true := by simpa using h7
        have E := hid e
        clear e h7
        go_wp2
        go_roundw
        case rel => exact ⟨k + 1, q + 1, by omega, by go_num, E.out.symm, by omega, by go_num, by (repeat (first | with_reducible exact Mod.refl _ _ | with_reducible refine Mod.drewN ?_ _ | with_reducible refine Mod.drew ?_ | with_reducible refine Mod.alloc ?_ _ | ((with_reducible refine Mod.setNew ?_ ?_ _ _ _); (rotate_left; omega)) | with_reducible refine Mod.setAt ?_ _ _ _ | with_reducible exact hmod | with_reducible refine Mod.thenNone ?_ hmod ))⟩
        case measure => simp [intOf]; omega
      · rw [if_neg h7, ← hq.out] at e
        have h7' : (x.kind == 7) = false := by simpa using h7
        have E := hid e
        clear e h7
        go_wp2
        go_roundw
        case rel => exact ⟨k + 1, q, by omega, by go_num, E.out.symm, by omega, by go_num, by (repeat (first | with_reducible exact Mod.refl _ _ | with_reducible refine Mod.drewN ?_ _ | with_reducible refine Mod.drew ?_ | with_reducible refine Mod.alloc ?_ _ | ((with_reducible refine Mod.setNew ?_ ?_ _ _ _); (rotate_left; omega)) | with_reducible refine Mod.setAt ?_ _ _ _ | with_reducible exact hmod | with_reducible refine Mod.thenNone ?_ hmod ))⟩
        case measure => simp [intOf]; omega
    · have hk' : k = l.length := by omega
      subst hk'
      have hq' := hq.out
      rw [List.take_length] at hq'
      have HQ := hid hq'
      clear hq' hq
      go_wp2
      go_ret
      exact ⟨ret_int (by rw [HQ.out]), hmod⟩

set_option maxRecDepth 100000 in
set_option maxHeartbeats 1000000 in
theorem laysIn_any (l : List Act) (a : Option Addr) (c : Nat) (R S : Nat → Prop) (w : World) (hl : l.length ≤ 1048576) (h : SliceAt (repAct R) 11 S w a l) :
    Calls Try.prog 45 #[.slice a l.length c] w fun e w' => e = .returned (.int .i64 (laysIn l : Nat)) ∧ Mod (fun _ => False) w w' := by
  have H := hid h
  clear h
  go_enter Try.func45, Try.ntmps45
  go_wp2
  go_loopw [3, 8] (fun z i wr => ∃ (k q : Nat), k ≤ l.length ∧ z = .int .i64 (q : Nat) ∧ Hid (q = laysIn (l.take k)) ∧ q ≤ k ∧ i = .int .i64 k ∧ Mod (fun _ => False) w wr) (fun _ i _ => l.length - (intOf i).toNat)
  case atStart => exact ⟨0, 0, by omega, rfl, by show 0 = _; simp [laysIn], by omega, rfl, Mod.refl _ _⟩
  case round =>
    obtain ⟨k, q, hk, rfl, hq, hqk, rfl, hmod⟩ := hrel
    by_cases hlt : k < l.length
    · obtain ⟨b, o, x, r, rfl, hb, hbw, hx, hr, hrl, hc⟩ := (H.out.mod hmod (fun _ _ f => f) (fun _ _ h => h.mod hmod (fun _ _ f => f))).get hlt
      obtain ⟨a2, c2, rfl, hs2⟩ := hr
      have c0 := hc 0 _ rfl
      have c1 := hc 1 _ rfl
      have c2 := hc 2 _ rfl
      have c3 := hc 3 _ rfl
      have c4 := hc 4 _ rfl
      have c5 := hc 5 _ rfl
      have c6 := hc 6 _ rfl
      have c7 := hc 7 _ rfl
      have c8 := hc 8 _ rfl
      have c9 := hc 9 _ rfl
      have c10 := hc 10 _ rfl
      simp only [Nat.add_zero] at c0
      clear hc hrl hs2
      have e := laysIn_succ hx
      by_cases h7 : x.kind = 7
      · rw [if_pos h7, ← hq.out] at e
        have h7' : (x.kind == 7) = true := by simpa using h7
        have E := hid e
        clear e h7
        go_wp2
        go_roundw
        case rel => exact ⟨k + 1, q + 1, by omega, by go_num, E.out.symm, by omega, by go_num, by (repeat (first | with_reducible exact Mod.refl _ _ | with_reducible refine Mod.drewN ?_ _ | with_reducible refine Mod.drew ?_ | with_reducible refine Mod.alloc ?_ _ | ((with_reducible refine Mod.setNew ?_ ?_ _ _ _); (rotate_left; omega)) | with_reducible refine Mod.setAt ?_ _ _ _ | with_reducible exact hmod | with_reducible refine Mod.thenNone ?_ hmod ))⟩
        case measure => simp [intOf]; omega
      · rw [if_neg h7, ← hq.out] at e
        have h7' : (x.kind == 7) = false := by simpa using h7
        have E := hid e
        clear e h7
        go_wp2
        go_roundw
        case rel => exact ⟨k + 1, q, by omega, by go_num, E.out.symm, by omega, by go_num, by (repeat (first | with_reducible exact Mod.refl _ _ | with_reducible refine Mod.drewN ?_ _ | with_reducible refine Mod.drew ?_ | with_reducible refine Mod.alloc ?_ _ | ((with_reducible refine Mod.setNew ?_ ?_ _ _ _); (rotate_left; omega)) | with_reducible refine Mod.setAt ?_ _ _ _ | with_reducible exact hmod | with_reducible refine Mod.thenNone ?_ hmod ))⟩
        case measure => simp [intOf]; omega
    · have hk' : k = l.length := by omega
      subst hk'
      have hq' := hq.out
      rw [List.take_length] at hq'
      have HQ := hid hq'
      clear hq' hq
      go_wp2
      go_ret
      exact ⟨ret_int (by rw [HQ.out]), hmod⟩

set_option maxRecDepth 100000 in
set_option maxHeartbeats 4000000 in
theorem exactLaysIn_walk (w : World) (a : Option Addr) (len cap : Nat) (rd : Rd Try.prog w 70 [.slice a len cap]) :
    Calls Try.prog 8 #[.slice a len cap] w fun e w' => e = .returned (.bool true) ∧ Mod (fun _ => False) w w' := by
  obtain ⟨a', l, cap', e, hl, hm, rows, hs0, hs1, hs2⟩ := rd.list (rep := fun w cs x => repAct (fun k => k < w.heap.size) w cs x ∧ x.table.length ≤ 9223372036854775807 ∧ x.key.size ≤ 9223372036854775807) (sz := 11) Try.underlying70 (by kernel_rfl) (by decide) (fun cs h => rd_Act h)
  simp only [List.cons.injEq, Value.slice.injEq, and_true] at e
  obtain ⟨rfl, rfl, rfl⟩ := e
  unfold maxLen at hm
  have hs : SliceAt (repAct (fun k => k < w.heap.size)) 11 (fun k => k < w.heap.size) w a l := ⟨rows, hs0, hs1, fun i r x h1 h2 => (hs2 i r x h1 h2).1⟩
  have hx : ∀ x ∈ l, x.table.length ≤ 9223372036854775807 ∧ x.key.size ≤ 9223372036854775807 := by
    intro x hx
    obtain ⟨i, hi, rfl⟩ := List.mem_iff_getElem.1 hx
    exact (hs2 i _ _ (List.getElem?_eq_getElem (by omega)) (List.getElem?_eq_getElem hi)).2
  have H := hid hs
  clear hs rd hs0 hs1 hs2
  have hsum := actSum_nonneg l
  by_cases hb : (1048576 : Int) < l.length + actSum l
  · go_enter Try.func8, Try.ntmps8
    go_wp2_with fail
    refine (szActS_any l _ _ _ _ _ (by omega) (by omega) (by omega) hx _ H.out).mono ?_
    rintro e w1 ⟨he, hm1⟩
    rcases he with ⟨_, rfl⟩ | ⟨he, _⟩
    · go_wp2
      go_ret
      exact ⟨rfl, hm1⟩
    · omega
  · have hx2 : ∀ x ∈ l, x.table.length ≤ 1048576 := by
      intro x hx
      have := actSum_mem hx
      unfold Act.size at this
      omega
    have hl1 : l.length ≤ 1048576 := by omega
    have Hx := hid hx
    have Hx2 := hid hx2
    clear hx hx2
    go_enter Try.func8, Try.ntmps8
    go_wp2_with fail
    refine (szActS_any l _ _ _ _ _ (by omega) (by omega) (by omega) Hx.out _ H.out).mono ?_
    rintro e w1 ⟨he, hm1⟩
    rcases he with ⟨he, _⟩ | ⟨_, rfl⟩
    · omega
    have b1 : 0 ≤ 1048576 - ((l.length : Int) + actSum l) := by omega
    go_wp2_with fail
    refine (toActS_any l _ _ _ _ w1 hl1 Hx2.out (H.out.mod hm1 (fun _ _ f => f) (fun _ _ h => h.mod hm1 (fun _ _ f => f)))).mono ?_
    rintro e w2 ⟨g2, rfl, hg2, hs2, hm2⟩
    have Hs2 := hid hs2
    clear hs2
    go_wp2_with fail
    refine (slaysIn_any l _ _ _ _ w2 hl1 Hs2.out).mono ?_
    rintro e w3 ⟨rfl, hm3⟩
    have hM3 := (hm1.thenNone hm2).thenNone hm3
    clear hm1 hm2 hm3
    go_wp2_with fail
    refine (toActS_any l _ _ _ _ w3 hl1 Hx2.out (H.out.mod hM3 (fun _ _ f => f) (fun _ _ h => h.mod hM3 (fun _ _ f => f)))).mono ?_
    rintro e w4 ⟨g4, rfl, hg4, hs4, hm4⟩
    have Hs4 := hid hs4
    clear hs4
    go_wp2_with fail
    refine (laysIn_any l _ _ _ _ w4 hl1 Hs4.out).mono ?_
    rintro e w5 ⟨rfl, hm5⟩
    have hM5 := (hM3.thenNone hm4).thenNone hm5
    go_wp2_with fail
    refine (toActS_any l _ _ _ _ w5 hl1 Hx2.out (H.out.mod hM5 (fun _ _ f => f) (fun _ _ h => h.mod hM5 (fun _ _ f => f)))).mono ?_
    rintro e w6 ⟨g6, rfl, hg6, hs6, hm6⟩
    have Hs6 := hid hs6
    clear hs6
    have hm46 := hm5.thenNone hm6
    go_wp2_with fail
    refine (eqActS_any l _ _ _ _ _ _ _ _ w6 hl1 Hx2.out (Hs4.out.mod hm46 (fun _ _ f => f) (fun _ _ h => h.mod hm46 (fun _ _ f => f))) Hs6.out).mono ?_
    rintro e w7 ⟨rfl, hm7⟩
    go_wp2
    go_ret
    exact ⟨rfl, (hM5.thenNone hm6).thenNone hm7⟩

/-! ### The row's frame (the kit's skeleton, turned) -/
namespace fnExactLaysIn
open Go.ChangeShapes Go.WideShapes Go.ChangeAt Go.RowKit
set_option linter.unusedVariables false

theorem own : ownKnob Try.prog.godebug = none := by kernel_rfl
theorem laidOut : laidOutB Try.prog = true := by kernel_rfl

set_option maxRecDepth 100000 in
theorem lifted (os : Os) (started : os.Started) (H : Type) (enc : TypeId × Value → H) :
    ReturnsInHanded {} Try.checked os 8 .any (Rows.fnExactLaysInSpec.pre6 enc Try.prog Try.f8 Rows.fnExactLaysInRow.domain false) (Rows.fnExactLaysInSpec.post enc Try.prog Try.f8 false true false false) := by
  refine returnsInHanded_of_change (C := Try.checked) own started (by kernel_rfl) Try.func8
    (ChangeSpec.witness6 (enc := enc) (C := Try.checked) false ⟨#[], #[.slice none 0 0], []⟩ 8 (by kernel_rfl) (by kernel_rfl) (by kernel_rfl) (by kernel_rfl)) ?_
  intro W base args ds gs before hval0 hW hcnd _
  have hval : ∀ (j : Nat) t v, Try.f8.params[j]? = some t → args[j]? = some v → Value.okWide Try.prog W .any base t v := hval0
  have hW' := hW
  obtain ⟨p, q, hA0, hV, rfl, hfz, hnd⟩ := hW
  have hA : DataW.TrodAll enc Try.prog W 0 (fun _ => true) true Try.f8.params.toList args.toList ds p := hA0
  rw [Try.params8] at hA hval
  obtain ⟨v0, vs0, d0, ds0, p0, q0, hargs, rfl, rfl, h0, r0⟩ := trodAll_cons hA
  obtain ⟨rfl, rfl, rfl⟩ := trodAll_nil r0
  obtain rfl : args = #[v0] := by cases args; simp_all
  obtain ⟨rfl, rfl⟩ := trodVars_none hV
  have k0 := h0
  have lt0 : ∀ x ∈ p0, x.block < W.heap.size := by obtain ⟨m, hm⟩ := k0; exact DataW.trod_lt m _ _ _ hm
  obtain ⟨a0, len0, cap0, rfl⟩ := okWide_slice Try.underlying70 (hval 0 70 v0 rfl rfl)
  have rd0 : Rd Try.prog W 70 [.slice a0 len0 cap0] := by obtain ⟨m, hm⟩ := k0; exact ⟨H, enc, m, _, hm⟩
  clear hA0 hval0
  refine (exactLaysIn_walk W a0 len0 cap0 rd0).mono fun e W' ⟨he, hm⟩ => ?_
  have bel := hm.below (Nat.le_refl _) fun _ _ h => h
  subst he
  exact ⟨_, rfl, _, _, _, [], _, [], hW', trodAll_mk1 (shut_bool Try.underlying4 _), (trodAll_cons_mk (Below.trod laidOut (by kernel_rfl) (of_decide_eq_true (by kernel_rfl)) k0 bel lt0) trodAll_mk0), rfl, bel.frame _, fun h => by cases h⟩

theorem over : Rows.fnExactLaysInRow.holds Try.pinned (OpenSpec.ofChange Rows.fnExactLaysInSpec) :=
  OpenClaim.holds_of_wide 8 Try.f8 rfl rfl rfl rfl rfl rfl rfl ⟨rfl, rfl, rfl, rfl, rfl⟩ rfl rfl rfl rfl rfl (by kernel_rfl) Try.func8 (by kernel_rfl)
    (of_decide_eq_true (by kernel_rfl)) (by unfold Func.isWrapper; first | (rw [if_pos (by decide +kernel)]; kernel_rfl) | (rw [if_neg (by decide +kernel)]; exact ⟨rfl, rfl⟩))
    (fun os started H enc _ => lifted os started H enc)

theorem proved : Rows.FnExactLaysInSaid := over
#print axioms proved
end fnExactLaysIn

end Go.Proofs.Ytpmbobopkfacmaa
