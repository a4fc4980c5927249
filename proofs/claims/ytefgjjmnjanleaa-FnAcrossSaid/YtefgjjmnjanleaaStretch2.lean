/-
  PROVED: StretchLines: the program's and the reference's hand back the plain list, in memory of the call's own. Conditions: bounds on the numbers.
-/
import Derived.Test.YtefgjjmnjanleaaStretch
import Derived.Test.YtefgjjmnjanleaaRep2
namespace Go.Proofs.Ytefgjjmnjanleaa
open Go.RowKit

/-- Numbers in memory of the call's own. -/
def OwnInts (w : World) (n : Nat) (l : List Int) (e : Ending) (w' : World) : Prop :=
  ∃ (a : Option Addr) (c : Nat), e = .returned (.slice a n c) ∧ w'.ownsRow w.heap.size 3 1 (.slice a n c) n (l.map icell).flatten ∧ Mod (fun _ => False) w w'
theorem stretch_not {l : List Int} {gap inner content : Int} (h : ¬ (acrossOk l gap inner = true ∧ content = 1 ∧ 0 < inner - crossTotal l gap)) : stretch l gap inner content = l := if_neg h
theorem stretch_yes {l : List Int} {gap inner content : Int} (h : acrossOk l gap inner = true ∧ content = 1 ∧ 0 < inner - crossTotal l gap) : stretch l gap inner content = raisedTo l (evenly (inner - crossTotal l gap) l.length) l.length := if_pos h
theorem raised_bd {l : List Int} (hl : ∀ x ∈ l, 0 ≤ x ∧ x ≤ 1048576) {k : Nat} {x : Int} (h : Hid (l[k]? = some x)) : 0 ≤ x ∧ x ≤ 1048576 := hl x (List.mem_of_getElem? h.out)
theorem getD_of {l : List Int} {k : Nat} {x : Int} (h : Hid (l[k]? = some x)) : l.getD k 0 = x := by simp [List.getD, h.out]

set_option maxRecDepth 100000 in
set_option maxHeartbeats 2000000 in
theorem stretchLines_any (l : List Int) (gap inner content : Int) (a : Option Addr) (c : Nat) (R : Nat → Prop) (w : World) (hl : l.length ≤ 1000) (g0 : -1048576 ≤ gap) (g1 : gap ≤ 1048576) (i0' : -1048576 ≤ inner) (i1' : inner ≤ 1048576) (h : IntSlice R w a l) :
    Calls Try.prog 46 #[.slice a l.length c, .int .i64 gap, .int .i64 inner, .int .i64 content] w (OwnInts w l.length (stretch l gap inner content)) := by
  have H := hid h
  clear h
  obtain ⟨i0, hi, hz0, hz1, hz2⟩ := info_parts info_int
  have Hi := hid hi
  have Hz0 := hid hz0
  have Hz1 := hid hz1
  have Hz2 := hid hz2
  clear hi hz0 hz1 hz2
  obtain ⟨ct0, ct1⟩ := crossTotal_bd l gap hl g0 g1
  cases hok : acrossOk l gap inner
  · rw [stretch_not (by rw [hok]; simp)]
    go_enter Try.func46, Try.ntmps46
    go_wp2_with fail
    refine (copyInts_any l a c R w (by omega) H.out).mono ?_
    rintro e w1 ⟨a1, c1, rfl, hO, hm1⟩
    have H1 := hid (H.out.flatKeep hm1)
    go_wp2_with (first | (go_at_call 50; refine (crossTotal_any l gap _ _ R _ (by omega) g0 g1 (H1.out.flatKeep (by (repeat (first | with_reducible exact Mod.refl _ _ | with_reducible refine Mod.drewN ?_ _ | with_reducible refine Mod.drew ?_ | with_reducible refine Mod.alloc ?_ _ | ((with_reducible refine Mod.setNew ?_ ?_ _ _ _); (rotate_left; omega)) | with_reducible refine Mod.setAt ?_ _ _ _ ))))).mono ?_; rintro e w' ⟨rfl, rfl⟩) | (go_at_call 52; refine (acrossOk_any l gap inner _ _ R _ (by omega) (H1.out.flatKeep (by (repeat (first | with_reducible exact Mod.refl _ _ | with_reducible refine Mod.drewN ?_ _ | with_reducible refine Mod.drew ?_ | with_reducible refine Mod.alloc ?_ _ | ((with_reducible refine Mod.setNew ?_ ?_ _ _ _); (rotate_left; omega)) | with_reducible refine Mod.setAt ?_ _ _ _ ))))).mono ?_; rintro e w' ⟨rfl, rfl⟩))
    go_ret
    exact ⟨a1, c1, rfl, hO, hm1⟩
  · by_cases h1 : content = 1
    · subst h1
      by_cases h2 : 0 < inner - crossTotal l gap
      · rw [stretch_yes ⟨hok, rfl, h2⟩]
        go_enter Try.func46, Try.ntmps46
        go_wp2_with fail
        refine (copyInts_any l a c R w (by omega) H.out).mono ?_
        rintro e w1 ⟨a1, c1, rfl, hO, hm1⟩
        have H1 := hid (H.out.flatKeep hm1)
        have hab := acrossOk_bd hok
        obtain ⟨hx1, hl12, _, _⟩ := hab
        have Hx := hid hx1
        have h2' : crossTotal l gap < inner := by omega
        clear hx1
        go_wp2_with (first | (go_at_call 50; refine (crossTotal_any l gap _ _ R _ (by omega) g0 g1 (H1.out.flatKeep (by (repeat (first | with_reducible exact Mod.refl _ _ | with_reducible refine Mod.drewN ?_ _ | with_reducible refine Mod.drew ?_ | with_reducible refine Mod.alloc ?_ _ | ((with_reducible refine Mod.setNew ?_ ?_ _ _ _); (rotate_left; omega)) | with_reducible refine Mod.setAt ?_ _ _ _ ))))).mono ?_; rintro e w' ⟨rfl, rfl⟩) | (go_at_call 52; refine (acrossOk_any l gap inner _ _ R _ (by omega) (H1.out.flatKeep (by (repeat (first | with_reducible exact Mod.refl _ _ | with_reducible refine Mod.drewN ?_ _ | with_reducible refine Mod.drew ?_ | with_reducible refine Mod.alloc ?_ _ | ((with_reducible refine Mod.setNew ?_ ?_ _ _ _); (rotate_left; omega)) | with_reducible refine Mod.setAt ?_ _ _ _ ))))).mono ?_; rintro e w' ⟨rfl, rfl⟩))
        refine (evenly_any (inner - crossTotal l gap) l.length w1).mono ?_
        intro e w2 hr
        obtain ⟨a2, c2, g2, N2, rfl, _, hs2, _, hm2⟩ := NewSlice.use (cells := icell) (sz := 1) hr (fun _ => rfl) (by decide)
        clear hr
        have hel := evenly_len (inner - crossTotal l gap) l.length (by omega) (by omega)
        rw [Int.toNat_natCast] at hel
        obtain ⟨q, q0, q1, hq⟩ := evenly_near (inner - crossTotal l gap) l.length
        have Hq := hid hq
        clear hq
        generalize evenly (inner - crossTotal l gap) l.length = E at *
        have hO1 := own_mod hO hm2 (fun _ _ f => f)
        have hM2 := hm1.thenNone hm2
        have hb1 := hm1.size
        have hOw : ∀ b, a1 = some ⟨b, 0, none⟩ → b < w1.heap.size := by
          intro b hb
          subst hb
          by_cases hz : l.length = 0
          · rcases hO.2 with ⟨hv, _⟩ | ⟨g, cap, cur, hv, _, hh, _⟩
            · cases hv
            · injection hv with hv1
              simp only [Option.some.injEq, Addr.mk.injEq, and_true] at hv1
              subst hv1
              exact (Array.getElem?_eq_some_iff.1 hh).1
          · exact (own_at hO hz).1
        clear hO
        go_wp2
        go_loopw [39] (fun i wr => ∃ k : Nat, k ≤ l.length ∧ i = .int .i64 k ∧ wr.ownsRow w.heap.size 3 1 (.slice a1 l.length c1) l.length ((raisedTo l E k).map icell).flatten ∧ IntSlice (fun j => w1.heap.size ≤ j) wr a2 E ∧ Mod (fun _ => False) w wr) (fun i _ => l.length - (intOf i).toNat)
        case atStart => exact ⟨0, by omega, by first | rfl | simp, by rw [raisedTo_zero]; exact hO1, hs2, hM2⟩
        case round =>
          obtain ⟨k, hk, rfl, hO2, hE, hM⟩ := hrel
          by_cases hlt : k < l.length
          · obtain ⟨b', o', y, rfl, hbR, _, hy, hcy⟩ := IntSlice.get hE (show k < E.length by omega)
            have hx := hid (List.getElem?_eq_getElem hlt)
            obtain ⟨x0, x1⟩ := raised_bd Hx.out hx
            obtain ⟨y0, y1⟩ := Hq.out k y hy.out
            have hr := raisedTo_succ l E k
            rw [getD_of hx, getD_of hy] at hr
            have Hr := hid hr
            obtain ⟨b, rfl⟩ : ∃ b, a1 = some ⟨b, 0, none⟩ := by
              rcases own_parts hO2 with h0 | ⟨b, e, _⟩
              · omega
              · exact ⟨b, e⟩
            have hbw := hOw b rfl
            obtain ⟨hbs, hcl, hfr, hset⟩ := own_at hO2 (by omega)
            have hcx := hcl k (.int .i64 l[k]) (by rw [icells_get, raisedTo_get _ _ _ _ hlt, if_neg (by omega), getD_of hx]; rfl)
            have hzx := hfr k
            have hset1 := hset k (.int .i64 (l[k] + y)) (by rw [icells_length, raisedTo_length]; omega)
            rw [← icells_set, Hr.out] at hset1
            have Hset := hid hset1
            clear hcl hfr hset hr hset1
            generalize l[k] = x at *
            have hEl : k < E.length := by omega
            go_wp2
            go_roundw
            case rel => exact ⟨k + 1, by omega, by go_num, Hset.out, hE.flatMod ((Mod.refl (fun j => j = b) _).setAt _ _ _) (fun j (hj : _ ≤ j) (e : j = b) => by omega), hM.setNew (by have := (own_parts hO2); rcases this with h0 | ⟨b9, e9, h9, _⟩; (· omega); (· simp at e9; omega)) _ _ _⟩
            case measure => simp [intOf]; omega
          · obtain rfl : k = l.length := by omega
            go_wp2
            go_ret
            exact ⟨a1, c1, rfl, hO2, hM⟩
      · rw [stretch_not (by omega)]
        have h2' : inner - crossTotal l gap ≤ 0 := by omega
        go_enter Try.func46, Try.ntmps46
        go_wp2_with fail
        refine (copyInts_any l a c R w (by omega) H.out).mono ?_
        rintro e w1 ⟨a1, c1, rfl, hO, hm1⟩
        have H1 := hid (H.out.flatKeep hm1)
        go_wp2_with (first | (go_at_call 50; refine (crossTotal_any l gap _ _ R _ (by omega) g0 g1 (H1.out.flatKeep (by (repeat (first | with_reducible exact Mod.refl _ _ | with_reducible refine Mod.drewN ?_ _ | with_reducible refine Mod.drew ?_ | with_reducible refine Mod.alloc ?_ _ | ((with_reducible refine Mod.setNew ?_ ?_ _ _ _); (rotate_left; omega)) | with_reducible refine Mod.setAt ?_ _ _ _ ))))).mono ?_; rintro e w' ⟨rfl, rfl⟩) | (go_at_call 52; refine (acrossOk_any l gap inner _ _ R _ (by omega) (H1.out.flatKeep (by (repeat (first | with_reducible exact Mod.refl _ _ | with_reducible refine Mod.drewN ?_ _ | with_reducible refine Mod.drew ?_ | with_reducible refine Mod.alloc ?_ _ | ((with_reducible refine Mod.setNew ?_ ?_ _ _ _); (rotate_left; omega)) | with_reducible refine Mod.setAt ?_ _ _ _ ))))).mono ?_; rintro e w' ⟨rfl, rfl⟩))
        go_ret
        exact ⟨a1, c1, rfl, hO, hm1⟩
    · rw [stretch_not (by omega)]
      have h1' : (content != 1) = true := by simpa using h1
      go_enter Try.func46, Try.ntmps46
      go_wp2_with fail
      refine (copyInts_any l a c R w (by omega) H.out).mono ?_
      rintro e w1 ⟨a1, c1, rfl, hO, hm1⟩
      have H1 := hid (H.out.flatKeep hm1)
      go_wp2_with (first | (go_at_call 50; refine (crossTotal_any l gap _ _ R _ (by omega) g0 g1 (H1.out.flatKeep (by (repeat (first | with_reducible exact Mod.refl _ _ | with_reducible refine Mod.drewN ?_ _ | with_reducible refine Mod.drew ?_ | with_reducible refine Mod.alloc ?_ _ | ((with_reducible refine Mod.setNew ?_ ?_ _ _ _); (rotate_left; omega)) | with_reducible refine Mod.setAt ?_ _ _ _ ))))).mono ?_; rintro e w' ⟨rfl, rfl⟩) | (go_at_call 52; refine (acrossOk_any l gap inner _ _ R _ (by omega) (H1.out.flatKeep (by (repeat (first | with_reducible exact Mod.refl _ _ | with_reducible refine Mod.drewN ?_ _ | with_reducible refine Mod.drew ?_ | with_reducible refine Mod.alloc ?_ _ | ((with_reducible refine Mod.setNew ?_ ?_ _ _ _); (rotate_left; omega)) | with_reducible refine Mod.setAt ?_ _ _ _ ))))).mono ?_; rintro e w' ⟨rfl, rfl⟩))
      go_ret
      exact ⟨a1, c1, rfl, hO, hm1⟩

set_option maxRecDepth 100000 in
set_option maxHeartbeats 2000000 in
theorem sstretchLines_any (l : List Int) (gap inner content : Int) (a : Option Addr) (c : Nat) (R : Nat → Prop) (w : World) (hl : l.length ≤ 1000) (g0 : -1048576 ≤ gap) (g1 : gap ≤ 1048576) (i0' : -1048576 ≤ inner) (i1' : inner ≤ 1048576) (h : IntSlice R w a l) :
    Calls Try.prog 48 #[.slice a l.length c, .int .i64 gap, .int .i64 inner, .int .i64 content] w (OwnInts w l.length (stretch l gap inner content)) := by
  have H := hid h
  clear h
  obtain ⟨i0, hi, hz0, hz1, hz2⟩ := info_parts info_int
  have Hi := hid hi
  have Hz0 := hid hz0
  have Hz1 := hid hz1
  have Hz2 := hid hz2
  clear hi hz0 hz1 hz2
  obtain ⟨ct0, ct1⟩ := crossTotal_bd l gap hl g0 g1
  cases hok : acrossOk l gap inner
  · rw [stretch_not (by rw [hok]; simp)]
    go_enter Try.func48, Try.ntmps48
    go_wp2_with (first | (at_builtin; refine wpList_copy_own (cells := icell) (B := w.heap.size) rfl _ _ ⟨Try.underlying37, Hi.out, Hz0.out, Hz1.out, Hz2.out, by decide⟩ rfl (fun _ => rfl) (fun x u hu => by simp [icell] at hu; subst hu; rfl) rfl rfl (.inr ⟨_, rfl⟩) (World.ownsRow_made w #[] 0 (Nat.le_refl _) (by unfold maxLen; omega) rfl) (by simp) rfl (H.out.flatKeep ((Mod.refl _ w).alloc _)) (by unfold maxLen; omega) (by omega) ?_))
    intro a1 c1 w1 hO hm1a
    have hm1 : Mod (fun _ => False) w w1 := ((Mod.refl _ w).alloc _).thenNone hm1a
    clear hm1a
    have H1 := hid (H.out.flatKeep hm1)
    go_wp2_with (first | (go_at_call 51; refine (scrossTotal_any l gap _ _ R _ (by omega) g0 g1 (H1.out.flatKeep (by (repeat (first | with_reducible exact Mod.refl _ _ | with_reducible refine Mod.drewN ?_ _ | with_reducible refine Mod.drew ?_ | with_reducible refine Mod.alloc ?_ _ | ((with_reducible refine Mod.setNew ?_ ?_ _ _ _); (rotate_left; omega)) | with_reducible refine Mod.setAt ?_ _ _ _ ))))).mono ?_; rintro e w' ⟨rfl, rfl⟩) | (go_at_call 53; refine (sacrossOk_any l gap inner _ _ R _ (by omega) (H1.out.flatKeep (by (repeat (first | with_reducible exact Mod.refl _ _ | with_reducible refine Mod.drewN ?_ _ | with_reducible refine Mod.drew ?_ | with_reducible refine Mod.alloc ?_ _ | ((with_reducible refine Mod.setNew ?_ ?_ _ _ _); (rotate_left; omega)) | with_reducible refine Mod.setAt ?_ _ _ _ ))))).mono ?_; rintro e w' ⟨rfl, rfl⟩))
    go_ret
    exact ⟨a1, c1, rfl, hO, hm1⟩
  · by_cases h1 : content = 1
    · subst h1
      by_cases h2 : 0 < inner - crossTotal l gap
      · rw [stretch_yes ⟨hok, rfl, h2⟩]
        go_enter Try.func48, Try.ntmps48
        go_wp2_with (first | (at_builtin; refine wpList_copy_own (cells := icell) (B := w.heap.size) rfl _ _ ⟨Try.underlying37, Hi.out, Hz0.out, Hz1.out, Hz2.out, by decide⟩ rfl (fun _ => rfl) (fun x u hu => by simp [icell] at hu; subst hu; rfl) rfl rfl (.inr ⟨_, rfl⟩) (World.ownsRow_made w #[] 0 (Nat.le_refl _) (by unfold maxLen; omega) rfl) (by simp) rfl (H.out.flatKeep ((Mod.refl _ w).alloc _)) (by unfold maxLen; omega) (by omega) ?_))
        intro a1 c1 w1 hO hm1a
        have hm1 : Mod (fun _ => False) w w1 := ((Mod.refl _ w).alloc _).thenNone hm1a
        clear hm1a
        have H1 := hid (H.out.flatKeep hm1)
        have hab := acrossOk_bd hok
        obtain ⟨hx1, hl12, _, _⟩ := hab
        have Hx := hid hx1
        have h2' : crossTotal l gap < inner := by omega
        clear hx1
        go_wp2_with (first | (go_at_call 51; refine (scrossTotal_any l gap _ _ R _ (by omega) g0 g1 (H1.out.flatKeep (by (repeat (first | with_reducible exact Mod.refl _ _ | with_reducible refine Mod.drewN ?_ _ | with_reducible refine Mod.drew ?_ | with_reducible refine Mod.alloc ?_ _ | ((with_reducible refine Mod.setNew ?_ ?_ _ _ _); (rotate_left; omega)) | with_reducible refine Mod.setAt ?_ _ _ _ ))))).mono ?_; rintro e w' ⟨rfl, rfl⟩) | (go_at_call 53; refine (sacrossOk_any l gap inner _ _ R _ (by omega) (H1.out.flatKeep (by (repeat (first | with_reducible exact Mod.refl _ _ | with_reducible refine Mod.drewN ?_ _ | with_reducible refine Mod.drew ?_ | with_reducible refine Mod.alloc ?_ _ | ((with_reducible refine Mod.setNew ?_ ?_ _ _ _); (rotate_left; omega)) | with_reducible refine Mod.setAt ?_ _ _ _ ))))).mono ?_; rintro e w' ⟨rfl, rfl⟩))
        refine (sevenly_any (inner - crossTotal l gap) l.length w1).mono ?_
        intro e w2 hr
        rw [sevenly_eq] at hr
        obtain ⟨a2, c2, g2, N2, rfl, _, hs2, _, hm2⟩ := NewSlice.use (cells := icell) (sz := 1) hr (fun _ => rfl) (by decide)
        clear hr
        have hel := evenly_len (inner - crossTotal l gap) l.length (by omega) (by omega)
        rw [Int.toNat_natCast] at hel
        obtain ⟨q, q0, q1, hq⟩ := evenly_near (inner - crossTotal l gap) l.length
        have Hq := hid hq
        clear hq
        generalize evenly (inner - crossTotal l gap) l.length = E at *
        have hO1 := own_mod hO hm2 (fun _ _ f => f)
        have hM2 := hm1.thenNone hm2
        have hb1 := hm1.size
        have hOw : ∀ b, a1 = some ⟨b, 0, none⟩ → b < w1.heap.size := by
          intro b hb
          subst hb
          by_cases hz : l.length = 0
          · rcases hO.2 with ⟨hv, _⟩ | ⟨g, cap, cur, hv, _, hh, _⟩
            · cases hv
            · injection hv with hv1
              simp only [Option.some.injEq, Addr.mk.injEq, and_true] at hv1
              subst hv1
              exact (Array.getElem?_eq_some_iff.1 hh).1
          · exact (own_at hO hz).1
        clear hO
        go_wp2
        go_loopw [12] (fun i wr => ∃ k : Nat, k ≤ l.length ∧ i = .int .i64 k ∧ wr.ownsRow w.heap.size 3 1 (.slice a1 l.length c1) l.length ((raisedTo l E k).map icell).flatten ∧ IntSlice (fun j => w1.heap.size ≤ j) wr a2 E ∧ Mod (fun _ => False) w wr) (fun i _ => l.length - (intOf i).toNat)
        case atStart => exact ⟨0, by omega, by first | rfl | simp, by rw [raisedTo_zero]; exact hO1, hs2, hM2⟩
        case round =>
          obtain ⟨k, hk, rfl, hO2, hE, hM⟩ := hrel
          by_cases hlt : k < l.length
          · obtain ⟨b', o', y, rfl, hbR, _, hy, hcy⟩ := IntSlice.get hE (show k < E.length by omega)
            have hx := hid (List.getElem?_eq_getElem hlt)
            obtain ⟨x0, x1⟩ := raised_bd Hx.out hx
            obtain ⟨y0, y1⟩ := Hq.out k y hy.out
            have hr := raisedTo_succ l E k
            rw [getD_of hx, getD_of hy] at hr
            have Hr := hid hr
            obtain ⟨b, rfl⟩ : ∃ b, a1 = some ⟨b, 0, none⟩ := by
              rcases own_parts hO2 with h0 | ⟨b, e, _⟩
              · omega
              · exact ⟨b, e⟩
            have hbw := hOw b rfl
            obtain ⟨hbs, hcl, hfr, hset⟩ := own_at hO2 (by omega)
            have hcx := hcl k (.int .i64 l[k]) (by rw [icells_get, raisedTo_get _ _ _ _ hlt, if_neg (by omega), getD_of hx]; rfl)
            have hzx := hfr k
            have hset1 := hset k (.int .i64 (l[k] + y)) (by rw [icells_length, raisedTo_length]; omega)
            rw [← icells_set, Hr.out] at hset1
            have Hset := hid hset1
            clear hcl hfr hset hr hset1
            generalize l[k] = x at *
            have hEl : k < E.length := by omega
            go_wp2
            have p0 := hold hcx
            have p1 := hold hcy
            have v0 : IntKind.i64.wrap (x + y) = x + y := IntWalk.i64_in _ (by omega)
            refine wp_region_mod_tail 11 (by kernel_rfl) (by kernel_rfl) (by kernel_rfl) ?_
            simp only [List.take_succ_cons, List.take_zero, List.drop_succ_cons, List.drop_zero]
            repeat (first | (refine RM.skip (fun _ => rfl) ?_; (try simp only [Act.put, List.setIfInBounds_toArray, List.set_cons_zero, List.set_cons_succ])) | (refine RM.const (v := ?_) (fun _ => rfl) (fun xq wq hSq => ?_) ?_; rotate_left; (focus (go_simp; (first | done | with_reducible rfl))); (try simp only [Act.put, List.setIfInBounds_toArray, List.set_cons_zero, List.set_cons_succ])) | (refine RM.callc (v := ?_) (f := ?_) (args := ?_) (fun _ => rfl) (fun xq wq hSq => ?_) (fun wq hSq => ?_) ?_; rotate_left 3; (focus (go_simp; (refine ⟨?_, ?_⟩ <;> with_reducible rfl))); (focus (fail)); (try simp only [Act.put, List.setIfInBounds_toArray, List.set_cons_zero, List.set_cons_succ])) | (refine RM.lit (n := ?_) (vals := ?_) (e := ?_) (fun _ => rfl) (fun xq wq hSq => ?_) ?_; rotate_left 3; (focus (go_simp; (first | done | with_reducible rfl | (refine ⟨?_, ?_⟩ <;> with_reducible rfl)))); (try simp only [Act.put, List.setIfInBounds_toArray, List.set_cons_zero, List.set_cons_succ])))
            refine RM.done (fun xq wq hSq hUq => ?_)
            clear p0 p1
            have hcx2 := hSq.keep _ _ hcx
            have hzx2 : wq.frozen? ⟨b, k, none⟩ = false := by rw [World.frozen?_of_block (hSq.block b hbs (fun f => f))]; exact hzx
            have Hset2 := hid (own_keep hO2 hSq (fun _ _ f => f))
            go_wp2
            go_roundw
            case rel => exact ⟨k + 1, by omega, by go_num, by have q := (own_at (own_keep hO2 hSq (fun _ _ f => f)) (by omega)).2.2.2 k (.int .i64 (x + y)) (by rw [icells_length, raisedTo_length]; omega); rw [← icells_set, Hr.out] at q; exact q, (hE.flatKeep hSq).flatMod ((Mod.refl (fun j => j = b) _).setAt _ _ _) (fun j (hj : _ ≤ j) (e : j = b) => by omega), (hM.thenNone hSq).setNew (by have := (own_parts hO2); rcases this with h0 | ⟨b9, e9, h9, _⟩; (· omega); (· simp at e9; omega)) _ _ _⟩
            case measure => simp [intOf]; omega
          · obtain rfl : k = l.length := by omega
            go_wp2
            go_ret
            exact ⟨a1, c1, rfl, hO2, hM⟩
      · rw [stretch_not (by omega)]
        have h2' : inner - crossTotal l gap ≤ 0 := by omega
        go_enter Try.func48, Try.ntmps48
        go_wp2_with (first | (at_builtin; refine wpList_copy_own (cells := icell) (B := w.heap.size) rfl _ _ ⟨Try.underlying37, Hi.out, Hz0.out, Hz1.out, Hz2.out, by decide⟩ rfl (fun _ => rfl) (fun x u hu => by simp [icell] at hu; subst hu; rfl) rfl rfl (.inr ⟨_, rfl⟩) (World.ownsRow_made w #[] 0 (Nat.le_refl _) (by unfold maxLen; omega) rfl) (by simp) rfl (H.out.flatKeep ((Mod.refl _ w).alloc _)) (by unfold maxLen; omega) (by omega) ?_))
        intro a1 c1 w1 hO hm1a
        have hm1 : Mod (fun _ => False) w w1 := ((Mod.refl _ w).alloc _).thenNone hm1a
        clear hm1a
        have H1 := hid (H.out.flatKeep hm1)
        go_wp2_with (first | (go_at_call 51; refine (scrossTotal_any l gap _ _ R _ (by omega) g0 g1 (H1.out.flatKeep (by (repeat (first | with_reducible exact Mod.refl _ _ | with_reducible refine Mod.drewN ?_ _ | with_reducible refine Mod.drew ?_ | with_reducible refine Mod.alloc ?_ _ | ((with_reducible refine Mod.setNew ?_ ?_ _ _ _); (rotate_left; omega)) | with_reducible refine Mod.setAt ?_ _ _ _ ))))).mono ?_; rintro e w' ⟨rfl, rfl⟩) | (go_at_call 53; refine (sacrossOk_any l gap inner _ _ R _ (by omega) (H1.out.flatKeep (by (repeat (first | with_reducible exact Mod.refl _ _ | with_reducible refine Mod.drewN ?_ _ | with_reducible refine Mod.drew ?_ | with_reducible refine Mod.alloc ?_ _ | ((with_reducible refine Mod.setNew ?_ ?_ _ _ _); (rotate_left; omega)) | with_reducible refine Mod.setAt ?_ _ _ _ ))))).mono ?_; rintro e w' ⟨rfl, rfl⟩))
        go_ret
        exact ⟨a1, c1, rfl, hO, hm1⟩
    · rw [stretch_not (by omega)]
      have h1' : (content != 1) = true := by simpa using h1
      go_enter Try.func48, Try.ntmps48
      go_wp2_with (first | (at_builtin; refine wpList_copy_own (cells := icell) (B := w.heap.size) rfl _ _ ⟨Try.underlying37, Hi.out, Hz0.out, Hz1.out, Hz2.out, by decide⟩ rfl (fun _ => rfl) (fun x u hu => by simp [icell] at hu; subst hu; rfl) rfl rfl (.inr ⟨_, rfl⟩) (World.ownsRow_made w #[] 0 (Nat.le_refl _) (by unfold maxLen; omega) rfl) (by simp) rfl (H.out.flatKeep ((Mod.refl _ w).alloc _)) (by unfold maxLen; omega) (by omega) ?_))
      intro a1 c1 w1 hO hm1a
      have hm1 : Mod (fun _ => False) w w1 := ((Mod.refl _ w).alloc _).thenNone hm1a
      clear hm1a
      have H1 := hid (H.out.flatKeep hm1)
      go_wp2_with (first | (go_at_call 51; refine (scrossTotal_any l gap _ _ R _ (by omega) g0 g1 (H1.out.flatKeep (by (repeat (first | with_reducible exact Mod.refl _ _ | with_reducible refine Mod.drewN ?_ _ | with_reducible refine Mod.drew ?_ | with_reducible refine Mod.alloc ?_ _ | ((with_reducible refine Mod.setNew ?_ ?_ _ _ _); (rotate_left; omega)) | with_reducible refine Mod.setAt ?_ _ _ _ ))))).mono ?_; rintro e w' ⟨rfl, rfl⟩) | (go_at_call 53; refine (sacrossOk_any l gap inner _ _ R _ (by omega) (H1.out.flatKeep (by (repeat (first | with_reducible exact Mod.refl _ _ | with_reducible refine Mod.drewN ?_ _ | with_reducible refine Mod.drew ?_ | with_reducible refine Mod.alloc ?_ _ | ((with_reducible refine Mod.setNew ?_ ?_ _ _ _); (rotate_left; omega)) | with_reducible refine Mod.setAt ?_ _ _ _ ))))).mono ?_; rintro e w' ⟨rfl, rfl⟩))
      go_ret
      exact ⟨a1, c1, rfl, hO, hm1⟩

end Go.Proofs.Ytefgjjmnjanleaa
