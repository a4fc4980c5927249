/-
  PROVED: PlaceLines: the reference's hands back the plain places in a new slice. Conditions: bounds on the numbers.
-/
import Derived.Test.YtefgjjmnjanleaaPlace
import Derived.Test.YtefgjjmnjanleaaCopy
import Derived.Maps.AppendAt
namespace Go.Proofs.Ytefgjjmnjanleaa
open Go.RowKit

theorem spaces_get (free : Int) (many : Nat) (j : Int) (k : Nat) (hk : k < many) : ∃ sp, Hid ((spaces free many j)[k]? = some sp) ∧ (-2097154 ≤ sp ∧ sp ≤ 2097154) ∧ (k + 1 < many → sp = betweenOf free many j k) := by
  have h := spTo_get free many j (many - 1) k hk
  by_cases h1 : k < many - 1
  · rw [if_pos h1] at h
    exact ⟨_, h, betweenOf_bd _ _ _ _, fun _ => rfl⟩
  · rw [if_neg h1] at h
    exact ⟨_, h, by omega, fun h2 => by omega⟩

set_option maxRecDepth 100000 in
set_option maxHeartbeats 2000000 in
theorem splaceLines_any (l : List Int) (gap inner content : Int) (a : Option Addr) (c : Nat) (R : Nat → Prop) (w : World) (hl : l.length ≤ 1000) (g0 : -1048576 ≤ gap) (g1 : gap ≤ 1048576) (i0' : -1048576 ≤ inner) (i1' : inner ≤ 1048576) (h : IntSlice R w a l) :
    Calls Try.prog 49 #[.slice a l.length c, .int .i64 gap, .int .i64 inner, .int .i64 content] w (NewSlice 3 1 w (places l gap inner content).length ((places l gap inner content).map icell).flatten) := by
  have HL := hid h.low
  have H := hid (h.flatKeep ((Mod.refl _ w).alloc (.cells #[] 3)))
  clear h
  obtain ⟨i0, hi, hz0, hz1, hz2⟩ := info_parts info_int
  have Hi := hid hi
  have Hz0 := hid hz0
  have Hz1 := hid hz1
  have Hz2 := hid hz2
  clear hi hz0 hz1 hz2
  obtain ⟨ct0, ct1⟩ := crossTotal_bd l gap hl g0 g1
  cases hok : acrossOk l gap inner
  · have hp : places l gap inner content = [] := by unfold places; rw [hok]; rfl
    rw [hp]
    clear hp
    go_enter Try.func49, Try.ntmps49
    go_wp2_with (first | (go_at_call 53; refine (sacrossOk_any l gap inner _ _ R _ (by omega) (H.out.flatKeep (by (repeat (first | with_reducible exact Mod.refl _ _ | with_reducible refine Mod.drewN ?_ _ | with_reducible refine Mod.drew ?_ | with_reducible refine Mod.alloc ?_ _ | ((with_reducible refine Mod.setNew ?_ ?_ _ _ _); (rotate_left; omega)) | with_reducible refine Mod.setAt ?_ _ _ _ ))))).mono ?_; rintro e w' ⟨rfl, rfl⟩))
    go_ret
    exact ⟨_, _, rfl, World.ownsRow_made w #[] 0 (Nat.le_refl _) (by unfold maxLen; omega) rfl, (Mod.refl _ w).alloc _⟩
  · obtain ⟨hx1, hl12, ⟨gg0, gg1⟩, _⟩ := acrossOk_bd hok
    have Hx := hid hx1
    have hp : places l gap inner content = placesTo l gap (signedL (inner - crossTotal l gap)) (justOf content) l.length := by unfold places; rw [if_pos hok]
    rw [hp, placesTo_length]
    clear hp hx1
    obtain ⟨f0, f1⟩ := signedL_bd (inner - crossTotal l gap)
    go_enter Try.func49, Try.ntmps49
    go_wp2_with (first | (go_at_call 53; refine (sacrossOk_any l gap inner _ _ R _ (by omega) (H.out.flatKeep (by (repeat (first | with_reducible exact Mod.refl _ _ | with_reducible refine Mod.drewN ?_ _ | with_reducible refine Mod.drew ?_ | with_reducible refine Mod.alloc ?_ _ | ((with_reducible refine Mod.setNew ?_ ?_ _ _ _); (rotate_left; omega)) | with_reducible refine Mod.setAt ?_ _ _ _ ))))).mono ?_; rintro e w' ⟨rfl, rfl⟩) | (go_at_call 51; refine (scrossTotal_any l gap _ _ R _ (by omega) g0 g1 (H.out.flatKeep (by (repeat (first | with_reducible exact Mod.refl _ _ | with_reducible refine Mod.drewN ?_ _ | with_reducible refine Mod.drew ?_ | with_reducible refine Mod.alloc ?_ _ | ((with_reducible refine Mod.setNew ?_ ?_ _ _ _); (rotate_left; omega)) | with_reducible refine Mod.setAt ?_ _ _ _ ))))).mono ?_; rintro e w' ⟨rfl, rfl⟩) | (go_at_call 106; refine (l16Justify_any _ _).mono ?_; rintro e w' ⟨rfl, rfl⟩) | (go_at_call 90; refine (l02Len_any _ _).mono ?_; rintro e w' ⟨rfl, rfl⟩))
    refine (sleadOf_any _ l.length (justOf content) _ f0 f1).mono ?_
    rintro e w1 ⟨rfl, hm1⟩
    generalize signedL (inner - crossTotal l gap) = free at *
    generalize hj : justOf content = j at *
    go_wp2_with (first | (go_at_call 106; refine (l16Justify_any _ _).mono ?_; rintro e w' ⟨rfl, rfl⟩))
    refine (l15Spaces_any free l.length j w1 f0 f1 hl12).mono ?_
    rintro e w2 ⟨a2, c2, rfl, hO2, hm2⟩
    have hs1 := hm1.size
    rw [World.size_alloc] at hs1
    have hO0 := own_mod (own_mod (World.ownsRow_made (e := 3) (size := 1) (base := w.heap.size) w #[] 0 (Nat.le_refl _) (by unfold maxLen; omega) rfl) hm1 (fun _ _ f => f)) hm2 (fun _ _ f => f)
    have hM2 : Mod (fun _ => False) w w2 := ((Mod.refl _ w).alloc _).thenNone hm1 |>.thenNone hm2
    have H2 := hid (H.out.flatKeep (hm1.thenNone hm2))
    have hsl : IntSlice (fun k => w1.heap.size ≤ k) w2 a2 (spaces free l.length j) := by
      have e := spTo_length free l.length j (l.length - 1)
      have hO3 : w2.ownsRow w1.heap.size 3 1 (.slice a2 (spaces free l.length j).length c2) (spaces free l.length j).length ((spaces free l.length j).map icell).flatten := by
        rw [show (spaces free l.length j).length = l.length from e]; exact hO2
      exact own_slice (cells := icell) hO3 (fun _ => rfl) (by decide)
    have hsle : (spaces free l.length j).length = l.length := spTo_length free l.length j (l.length - 1)
    have hsl2 : IntSlice (fun k => w1.heap.size ≤ k ∧ k < w2.heap.size) w2 a2 (spaces free l.length j) := by
      obtain ⟨rows, p1, p2⟩ := hsl
      exact ⟨rows, p1.weaken fun k hk h => ⟨h, hk⟩, p2⟩
    have HE := hid hsle
    clear hO2 hsl hsle hm1 hm2 hj
    go_wp2
    go_loopw [9, 11, 13] (fun v z i wr => ∃ (k : Nat) (a' : Option Addr) (c' : Nat) (y : Int), k ≤ l.length ∧ i = .int .i64 k ∧ z = .int .i64 y ∧ (k < l.length → y = atTo l gap free j k) ∧ v = .slice a' k c' ∧ wr.ownsRow w.heap.size 3 1 (.slice a' k c') k ((placesTo l gap free j k).map icell).flatten ∧ (∀ b, (Value.slice a' k c').ownBlock = some b → b < w1.heap.size ∨ w2.heap.size ≤ b) ∧ IntSlice (fun k => k < w.heap.size) wr a l ∧ IntSlice (fun k => w1.heap.size ≤ k ∧ k < w2.heap.size) wr a2 (spaces free l.length j) ∧ Mod (fun _ => False) w wr ∧ w2.heap.size ≤ wr.heap.size) (fun _ _ i _ => l.length - (intOf i).toNat)
    case atStart => exact ⟨0, _, _, _, by omega, rfl, rfl, fun _ => rfl, rfl, hO0, fun b hb => by simp only [Value.ownBlock, Option.some.injEq] at hb; omega, HL.out.flatKeep hM2, hsl2, hM2, Nat.le_refl _⟩
    case round =>
      obtain ⟨k, a', c', y, hk, rfl, rfl, hyk, rfl, hO, hD, hL, hS, hM, hsz⟩ := hrel
      by_cases hlt : k < l.length
      · obtain ⟨b, o, x, rfl, _, _, hx, hc⟩ := IntSlice.get hL hlt
        obtain ⟨sp, hsp, ⟨s0, s1⟩, hspb⟩ := spaces_get free l.length j k hlt
        obtain ⟨b2, o2, x2, rfl, hbb2, _, hx2, hc2⟩ := IntSlice.get hS (show k < (spaces free l.length j).length by rw [HE.out]; exact hlt)
        obtain rfl : x2 = sp := by
          have := hx2.out.symm.trans hsp.out
          simpa using this
        obtain ⟨x0, x1⟩ := raised_bd Hx.out hx
        obtain ⟨z0, z1⟩ := atTo_bd Hx.out j gg0 gg1 f0 f1 k
        rw [← hyk hlt] at z0 z1
        have hstep : Hid (k + 1 < l.length → y + x + gap + x2 = atTo l gap free j (k + 1)) := by
          intro h1
          simp only [atTo]
          rw [getD_of hx, ← hspb h1, ← hyk hlt]
          omega
        have Hps := hid (placesTo_succ l gap free j k)
        have Hyk := hid (hyk hlt)
        have h3 : k + 1 ≤ maxLen := by unfold maxLen; omega
        have h4 : (k + 1) * 8 ≤ 140737488355328 := by omega
        clear hyk hspb
        go_wp2_with (first | (at_builtin; refine wpList_append_own_at _ rfl _ _ 37 rfl w.heap.size 3 i0 _ 1 8 Try.underlying37 Hi.out Hz0.out Hz1.out Hz2.out rfl (by decide) _ _ _ rfl (hO.alloc _) ⟨wr.heap.size, 0, none⟩ 1 1 [.int .i64 y] rfl rfl (cells_new _ _ _) (ones_of rfl) h3 h4 (own_room hM _) ?_))
        intro v' w3 hown1 hgrow _ hblk
        obtain ⟨a1, c1', hv⟩ := own_form hown1
        rw [hv] at hown1 hblk ⊢
        have hM1 := hM.appended hO (Nat.le_refl _) hgrow
        have hgm : Mod (fun q => some q = (Value.slice a' k c').ownBlock) wr w3 := ((Mod.refl _ wr).alloc _).trans (grown_mod hgrow)
        have hL3 := hL.flatMod hgm (fun q (hq : q < w.heap.size) e => by have := (hO.lt q e.symm).1; omega)
        have hS3 := hS.flatMod hgm (fun q (hq : w1.heap.size ≤ q ∧ q < w2.heap.size) e => by have := hD q e.symm; omega)
        have hsz3 := hgm.size
        have hD3 : ∀ b, (Value.slice a1 (k + 1) c1').ownBlock = some b → b < w1.heap.size ∨ w2.heap.size ≤ b := by
          intro q hq
          rcases hblk with h | h
          · exact hD q (h ▸ hq)
          · rw [h] at hq
            simp only [World.size_alloc, Option.some.injEq] at hq
            omega
        obtain ⟨_, _, _, e9, _, _, hx9, hc9⟩ := IntSlice.get hL3 hlt
        simp only [Option.some.injEq, Addr.mk.injEq, and_true] at e9
        obtain ⟨rfl, rfl⟩ := e9
        have hx92 := hx9.out.symm.trans hx.out
        simp only [Option.some.injEq] at hx92
        rw [hx92] at hc9
        obtain ⟨_, _, _, e8, _, _, hx8, hc8⟩ := IntSlice.get hS3 (show k < (spaces free l.length j).length by rw [HE.out]; exact hlt)
        simp only [Option.some.injEq, Addr.mk.injEq, and_true] at e8
        obtain ⟨rfl, rfl⟩ := e8
        have hx82 := hx8.out.symm.trans hsp.out
        simp only [Option.some.injEq] at hx82
        rw [hx82] at hc8
        have hle : k < (spaces free l.length j).length := by rw [HE.out]; exact hlt
        clear hv hgrow h3 h4 hblk hgm hL hS hc hc2 hO hD hx92 hx82 hx8 hx2 hx9
        have p1 := hold hc9
        have p2 := hold hc8
        have v1 : IntKind.i64.wrap (y + x) = y + x := IntWalk.i64_in _ (by omega)
        have v2 : IntKind.i64.wrap (y + x + gap) = y + x + gap := IntWalk.i64_in _ (by omega)
        have v3 : IntKind.i64.wrap (y + x + gap + x2) = y + x + gap + x2 := IntWalk.i64_in _ (by omega)
        go_wp2
        refine wp_region_mod_tail 13 (by kernel_rfl) (by kernel_rfl) (by kernel_rfl) ?_
        simp only [List.take_succ_cons, List.take_zero, List.drop_succ_cons, List.drop_zero]
        refine RM.const (v := ?_) (fun _ => rfl) (fun xq wq hSq => ?_) ?_; rotate_left; (focus (go_simp; (first | done | with_reducible rfl))); (try simp only [Act.put, List.setIfInBounds_toArray, List.set_cons_zero, List.set_cons_succ])
        refine RM.const (v := ?_) (fun _ => rfl) (fun xq wq hSq => ?_) ?_; rotate_left; (focus (go_simp; (first | done | with_reducible rfl))); (try simp only [Act.put, List.setIfInBounds_toArray, List.set_cons_zero, List.set_cons_succ])
        refine RM.const (v := ?_) (fun _ => rfl) (fun xq wq hSq => ?_) ?_; rotate_left; (focus (go_simp; (first | done | with_reducible rfl))); (try simp only [Act.put, List.setIfInBounds_toArray, List.set_cons_zero, List.set_cons_succ])
        refine RM.const (v := ?_) (fun _ => rfl) (fun xq wq hSq => ?_) ?_; rotate_left; (focus (go_simp; (first | done | with_reducible rfl))); (try simp only [Act.put, List.setIfInBounds_toArray, List.set_cons_zero, List.set_cons_succ])
        refine RM.const (v := ?_) (fun _ => rfl) (fun xq wq hSq => ?_) ?_; rotate_left; (focus (go_simp; (first | done | with_reducible rfl))); (try simp only [Act.put, List.setIfInBounds_toArray, List.set_cons_zero, List.set_cons_succ])
        refine RM.const (v := ?_) (fun _ => rfl) (fun xq wq hSq => ?_) ?_; rotate_left; (focus (go_simp; (first | done | with_reducible rfl))); (try simp only [Act.put, List.setIfInBounds_toArray, List.set_cons_zero, List.set_cons_succ])
        refine RM.const (v := ?_) (fun _ => rfl) (fun xq wq hSq => ?_) ?_; rotate_left; (focus (go_simp; (first | done | with_reducible rfl))); (try simp only [Act.put, List.setIfInBounds_toArray, List.set_cons_zero, List.set_cons_succ])
        refine RM.const (v := ?_) (fun _ => rfl) (fun xq wq hSq => ?_) ?_; rotate_left; (focus (go_simp; (first | done | with_reducible rfl))); (try simp only [Act.put, List.setIfInBounds_toArray, List.set_cons_zero, List.set_cons_succ])
        refine RM.const (v := ?_) (fun _ => rfl) (fun xq wq hSq => ?_) ?_; rotate_left; (focus (go_simp; (first | done | with_reducible rfl))); (try simp only [Act.put, List.setIfInBounds_toArray, List.set_cons_zero, List.set_cons_succ])
        refine RM.const (v := ?_) (fun _ => rfl) (fun xq wq hSq => ?_) ?_; rotate_left; (focus (go_simp; (first | done | with_reducible rfl))); (try simp only [Act.put, List.setIfInBounds_toArray, List.set_cons_zero, List.set_cons_succ])
        refine RM.const (v := ?_) (fun _ => rfl) (fun xq wq hSq => ?_) ?_; rotate_left; (focus (go_simp; (first | done | with_reducible rfl))); (try simp only [Act.put, List.setIfInBounds_toArray, List.set_cons_zero, List.set_cons_succ])
        refine RM.const (v := ?_) (fun _ => rfl) (fun xq wq hSq => ?_) ?_; rotate_left; (focus (go_simp; (first | done | with_reducible rfl))); (try simp only [Act.put, List.setIfInBounds_toArray, List.set_cons_zero, List.set_cons_succ])
        refine RM.const (v := ?_) (fun _ => rfl) (fun xq wq hSq => ?_) ?_; rotate_left; (focus (go_simp; (first | done | with_reducible rfl))); (try simp only [Act.put, List.setIfInBounds_toArray, List.set_cons_zero, List.set_cons_succ])
        refine RM.done (fun xq wq hSq hUq => ?_)
        clear p1 p2
        go_wp2
        go_roundw
        case rel =>
          have hO4 := own_mod hown1 hSq (fun _ _ f => f)
          refine ⟨k + 1, a1, c1', y + x + gap + x2, by omega, by go_num, by rfl, hstep.out, rfl, ?_, hD3, hL3.flatKeep hSq, hS3.flatKeep hSq, hM1.thenNone hSq, by have := hSq.size; omega⟩
          rw [Hps.out, icells_append, ← Hyk.out]
          simpa [icell] using hO4
        case measure => simp [intOf]; omega
      · obtain rfl : k = l.length := by omega
        go_wp2
        go_ret
        exact ⟨a', c', rfl, hO, hM⟩

end Go.Proofs.Ytefgjjmnjanleaa
