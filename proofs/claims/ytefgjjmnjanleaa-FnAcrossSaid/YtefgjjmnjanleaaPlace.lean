/-
  PROVED: PlaceLines: the program's and the reference's hand back the plain places in a new slice. Conditions: bounds on the numbers.
-/
import Derived.Test.YtefgjjmnjanleaaSpaces
namespace Go.Proofs.Ytefgjjmnjanleaa
open Go.RowKit

/-- Where line k begins. -/
def atTo (l : List Int) (gap free j : Int) : Nat → Int
  | 0 => leadOf free l.length j
  | k + 1 => atTo l gap free j k + (l.getD k 0 + gap + betweenOf free l.length j k)
def placesTo (l : List Int) (gap free j : Int) (k : Nat) : List Int := (List.range k).map (atTo l gap free j)
def places (l : List Int) (gap inner content : Int) : List Int :=
  if acrossOk l gap inner = true then placesTo l gap (signedL (inner - crossTotal l gap)) (justOf content) l.length else []
theorem placesTo_length (l : List Int) (gap free j : Int) (k : Nat) : (placesTo l gap free j k).length = k := by simp [placesTo]
theorem placesTo_succ (l : List Int) (gap free j : Int) (k : Nat) : placesTo l gap free j (k + 1) = placesTo l gap free j k ++ [atTo l gap free j k] := by simp [placesTo, List.range_succ]
theorem leadOf_bd (free many j : Int) (f0 : -1048576 ≤ free) (f1 : free ≤ 1048576) : -1048577 ≤ leadOf free many j ∧ leadOf free many j ≤ 1048577 := by
  have h1 := elemAt_bd free (2 * many) 0
  have h2 := elemAt_bd free (many + 1) 0
  have h3 : -1048576 ≤ fdiv free 2 ∧ fdiv free 2 ≤ 1048576 := by unfold fdiv; rw [if_neg (by omega)]; omega
  unfold leadOf
  repeat' split
  all_goals omega
theorem betweenOf_bd (free many j i : Int) : -2097154 ≤ betweenOf free many j i ∧ betweenOf free many j i ≤ 2097154 := by
  have h1 := elemAt_bd free (many - 1) i
  have h2 := elemAt_bd free (2 * many) (2 * i + 1)
  have h3 := elemAt_bd free (2 * many) (2 * i + 2)
  have h4 := elemAt_bd free (many + 1) (i + 1)
  unfold betweenOf
  repeat' split
  all_goals omega
theorem getD_bd {l : List Int} (hl : ∀ x ∈ l, 0 ≤ x ∧ x ≤ 1048576) (k : Nat) : 0 ≤ l.getD k 0 ∧ l.getD k 0 ≤ 1048576 := by
  by_cases h : k < l.length
  · have := hl l[k] (List.getElem_mem h)
    simpa [List.getD, h] using this
  · simp [List.getD, List.getElem?_eq_none (Nat.le_of_not_lt h)]
theorem atTo_bd {l : List Int} (hl : ∀ x ∈ l, 0 ≤ x ∧ x ≤ 1048576) {gap free : Int} (j : Int) (g0 : 0 ≤ gap) (g1 : gap ≤ 1048576) (f0 : -1048576 ≤ free) (f1 : free ≤ 1048576) (k : Nat) : -1048577 - 5000000 * k ≤ atTo l gap free j k ∧ atTo l gap free j k ≤ 1048577 + 5000000 * k := by
  induction k with
  | zero => have := leadOf_bd free l.length j f0 f1; simp only [atTo]; omega
  | succ k ih =>
    have h1 := getD_bd hl k
    have h2 := betweenOf_bd free l.length j k
    simp only [atTo]
    omega

set_option maxRecDepth 100000 in
set_option maxHeartbeats 2000000 in
theorem placeLines_any (l : List Int) (gap inner content : Int) (a : Option Addr) (c : Nat) (R : Nat → Prop) (w : World) (hl : l.length ≤ 1000) (g0 : -1048576 ≤ gap) (g1 : gap ≤ 1048576) (i0' : -1048576 ≤ inner) (i1' : inner ≤ 1048576) (h : IntSlice R w a l) :
    Calls Try.prog 47 #[.slice a l.length c, .int .i64 gap, .int .i64 inner, .int .i64 content] w (NewSlice 3 1 w (places l gap inner content).length ((places l gap inner content).map icell).flatten) := by
  have H := hid h
  clear h
  obtain ⟨i0, hi, hz0, hz1, hz2⟩ := info_parts info_int
  have Hi := hid hi
  have Hz0 := hid hz0
  have Hz1 := hid hz1
  have Hz2 := hid hz2
  clear hi hz0 hz1 hz2
  obtain ⟨ct0, ct1⟩ := crossTotal_bd l gap hl g0 g1
  cases hok : acrossOk l gap inner
  · have hp : places l gap inner content = [] := by unfold places; rw [hok]; rfl
    rw [hp]
    clear hp
    go_enter Try.func47, Try.ntmps47
    go_wp2_with (first | (go_at_call 52; refine (acrossOk_any l gap inner _ _ R _ (by omega) (H.out.flatKeep (by (repeat (first | with_reducible exact Mod.refl _ _ | with_reducible refine Mod.drewN ?_ _ | with_reducible refine Mod.drew ?_ | with_reducible refine Mod.alloc ?_ _ | ((with_reducible refine Mod.setNew ?_ ?_ _ _ _); (rotate_left; omega)) | with_reducible refine Mod.setAt ?_ _ _ _ ))))).mono ?_; rintro e w' ⟨rfl, rfl⟩))
    go_ret
    exact ⟨_, _, rfl, World.ownsRow_nil _ _ _ _, Mod.refl _ _⟩
  · obtain ⟨hx1, hl12, ⟨gg0, gg1⟩, _⟩ := acrossOk_bd hok
    have Hx := hid hx1
    have hp : places l gap inner content = placesTo l gap (signedL (inner - crossTotal l gap)) (justOf content) l.length := by unfold places; rw [if_pos hok]
    rw [hp, placesTo_length]
    clear hp hx1
    obtain ⟨f0, f1⟩ := signedL_bd (inner - crossTotal l gap)
    go_enter Try.func47, Try.ntmps47
    go_wp2_with (first | (go_at_call 52; refine (acrossOk_any l gap inner _ _ R _ (by omega) (H.out.flatKeep (by (repeat (first | with_reducible exact Mod.refl _ _ | with_reducible refine Mod.drewN ?_ _ | with_reducible refine Mod.drew ?_ | with_reducible refine Mod.alloc ?_ _ | ((with_reducible refine Mod.setNew ?_ ?_ _ _ _); (rotate_left; omega)) | with_reducible refine Mod.setAt ?_ _ _ _ ))))).mono ?_; rintro e w' ⟨rfl, rfl⟩) | (go_at_call 50; refine (crossTotal_any l gap _ _ R _ (by omega) g0 g1 (H.out.flatKeep (by (repeat (first | with_reducible exact Mod.refl _ _ | with_reducible refine Mod.drewN ?_ _ | with_reducible refine Mod.drew ?_ | with_reducible refine Mod.alloc ?_ _ | ((with_reducible refine Mod.setNew ?_ ?_ _ _ _); (rotate_left; omega)) | with_reducible refine Mod.setAt ?_ _ _ _ ))))).mono ?_; rintro e w' ⟨rfl, rfl⟩) | (go_at_call 102; refine (justifyOf_any _ _).mono ?_; rintro e w' ⟨rfl, rfl⟩) | (go_at_call 91; refine (signed_any _ _).mono ?_; rintro e w' ⟨rfl, rfl⟩))
    refine (leadOf_any _ l.length (justOf content) _ f0 f1).mono ?_
    rintro e w1 ⟨rfl, hm1⟩
    generalize signedL (inner - crossTotal l gap) = free at *
    generalize justOf content = j at *
    go_wp2
    go_loopw [12, 13, 37] (fun z v i wr => ∃ (k : Nat) (a' : Option Addr) (c' : Nat), k ≤ l.length ∧ i = .int .i64 k ∧ z = .int .i64 (atTo l gap free j k) ∧ v = .slice a' k c' ∧ wr.ownsRow w.heap.size 3 1 (.slice a' k c') k ((placesTo l gap free j k).map icell).flatten ∧ Mod (fun _ => False) w wr) (fun _ _ i _ => l.length - (intOf i).toNat)
    case atStart => exact ⟨0, _, _, by omega, rfl, rfl, rfl, World.ownsRow_nil _ _ _ _, hm1⟩
    case round =>
      obtain ⟨k, a', c', hk, rfl, rfl, rfl, hO, hM⟩ := hrel
      by_cases hlt : k < l.length
      · obtain ⟨b, o, x, rfl, _, _, hx, hc⟩ := IntSlice.get (H.out.flatKeep hM) hlt
        obtain ⟨x0, x1⟩ := raised_bd Hx.out hx
        obtain ⟨z0, z1⟩ := atTo_bd Hx.out j gg0 gg1 f0 f1 k
        obtain ⟨b0, b1⟩ := betweenOf_bd free l.length j k
        have hat : atTo l gap free j (k + 1) = atTo l gap free j k + (x + gap + betweenOf free l.length j k) := by simp only [atTo]; rw [getD_of hx]
        have hps := placesTo_succ l gap free j k
        have Hat := hid hat
        have Hps := hid hps
        have hbet := fun W => betweenOf_any free l.length j k W f0 f1 (by omega) (by omega) (by omega) (by omega)
        have Hbet := hid hbet
        have h3 : k + 1 ≤ maxLen := by unfold maxLen; omega
        have h4 : (k + 1) * 8 ≤ 140737488355328 := by omega
        clear hat hps hbet
        generalize atTo l gap free j k = z at *
        generalize betweenOf free l.length j k = bt at *
        go_wp2_with (first | (at_builtin; refine wpList_append_own _ rfl _ _ 37 rfl w.heap.size 3 i0 _ 1 8 Try.underlying37 Hi.out Hz0.out Hz1.out Hz2.out rfl (by decide) _ _ _ rfl (hO.alloc _) ⟨wr.heap.size, 0, none⟩ 1 1 [.int .i64 z] rfl rfl (cells_new _ _ _) (ones_of rfl) h3 h4 (own_room hM _) ?_))
        intro v' w2 hown1 hgrow _
        obtain ⟨a1, c1', hv⟩ := own_form hown1
        rw [hv] at hown1 ⊢
        have hM1 := hM.appended hO (Nat.le_refl _) hgrow
        clear hv hgrow h3 h4
        go_wp2_with fail
        refine (Hbet.out _).mono ?_
        rintro e w3 ⟨rfl, hm3⟩
        go_wp2
        go_roundw
        case rel =>
          refine ⟨k + 1, a1, c1', by omega, by go_num, by rw [Hat.out], rfl, ?_, hM1.thenNone hm3⟩
          rw [Hps.out, icells_append]
          have := own_mod hown1 hm3 (fun _ _ f => f)
          simpa [icell] using this
        case measure => simp [intOf]; omega
      · obtain rfl : k = l.length := by omega
        go_wp2
        go_ret
        exact ⟨a', c', rfl, hO, hM⟩

end Go.Proofs.Ytefgjjmnjanleaa
