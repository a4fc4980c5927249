/-
  PROVED: Scaled: the program's and the reference's hand back the plain list in a new slice. No condition but a bound on the lengths.
-/
import Derived.Test.YtefgjjmnjanleaaTotal
import Derived.Test.YtefgjjmnjanleaaReg
namespace Go.Proofs.Ytefgjjmnjanleaa
open Go.RowKit

def scaledTo (l m : List Int) (k : Nat) : List Int := ((l.zip m).take k).map fun p => clampedL p.1 * brought p.2 0 1000
def scaled (l m : List Int) : List Int := (l.zip m).map fun p => clampedL p.1 * brought p.2 0 1000
theorem scaledTo_succ {l m : List Int} {k : Nat} {x y : Int} (hx : Hid (l[k]? = some x)) (hy : Hid (m[k]? = some y)) : scaledTo l m (k + 1) = scaledTo l m k ++ [clampedL x * brought y 0 1000] := by
  have hz : (l.zip m)[k]? = some (x, y) := by rw [List.getElem?_zip_eq_some]; exact ⟨hx.out, hy.out⟩
  unfold scaledTo
  rw [List.take_add_one, hz]
  simp
theorem scaledTo_length {l m : List Int} {k : Nat} (h1 : k ≤ l.length) (h2 : k ≤ m.length) : (scaledTo l m k).length = k := by
  simp [scaledTo]; omega
theorem scaledTo_full (l m : List Int) (k : Nat) (h1 : k ≤ l.length) (h2 : k ≤ m.length) (h : l.length ≤ k ∨ m.length ≤ k) : scaledTo l m k = scaled l m := by
  unfold scaledTo scaled
  rw [List.take_of_length_le (by rw [List.length_zip]; omega)]
theorem scaled_bd (x y : Int) : 0 ≤ clampedL x * brought y 0 1000 ∧ clampedL x * brought y 0 1000 ≤ 1048576000 := by
  obtain ⟨a0, a1⟩ := clampedL_bd x
  obtain ⟨b0, b1⟩ := brought_bd (n := y) (show (0 : Int) ≤ 1000 by omega)
  generalize clampedL x = p at *
  generalize brought y 0 1000 = q at *
  refine ⟨Int.mul_nonneg a0 b0, ?_⟩
  have h1 := Int.mul_le_mul_of_nonneg_right a1 b0
  omega

set_option maxRecDepth 100000 in
set_option maxHeartbeats 400000 in
theorem scaled_any (l m : List Int) (a a' : Option Addr) (c c' : Nat) (R S : Nat → Prop) (w : World) (hl : l.length ≤ 1048576) (_hm : m.length ≤ 1048576) (h : IntSlice R w a l) (h' : IntSlice S w a' m) :
    Calls Try.prog 27 #[.slice a l.length c, .slice a' m.length c'] w (NewSlice 3 1 w (scaled l m).length ((scaled l m).map icell).flatten) := by
  have H := hid h
  have H' := hid h'
  clear h h'
  obtain ⟨i0, hi, hz0, hz1, hz2⟩ := info_parts info_int
  have Hi := hid hi
  have Hz0 := hid hz0
  have Hz1 := hid hz1
  have Hz2 := hid hz2
  clear hi hz0 hz1 hz2
  go_enter Try.func27, Try.ntmps27
  go_wp2
  go_loopw [5, 6] (fun v i wr => ∃ (k : Nat) (b' : Option Addr) (d' : Nat), k ≤ l.length ∧ k ≤ m.length ∧ i = .int .i64 k ∧ v = .slice b' k d' ∧ wr.ownsRow w.heap.size 3 1 (.slice b' k d') k ((scaledTo l m k).map icell).flatten ∧ Mod (fun _ => False) w wr) (fun _ i _ => l.length - (intOf i).toNat)
  case atStart => exact ⟨0, _, _, by omega, by omega, rfl, rfl, World.ownsRow_nil _ _ _ _, Mod.refl _ w⟩
  case round =>
    obtain ⟨k, b', d', hk, hk2, rfl, rfl, hO, hM⟩ := hrel
    by_cases hlt : k < l.length
    · by_cases hlt2 : k < m.length
      · obtain ⟨b, o, x, rfl, _, hbs, hx, hc⟩ := IntSlice.get (H.out.flatKeep hM) hlt
        obtain ⟨b2, o2, y, rfl, _, hbs2, hy, hc2⟩ := IntSlice.get (H'.out.flatKeep hM) hlt2
        have e := hid (scaledTo_succ hx hy)
        have h3 : k + 1 ≤ maxLen := by unfold maxLen; omega
        have h4 : (k + 1) * 8 ≤ 140737488355328 := by omega
        obtain ⟨p0, p1⟩ := scaled_bd x y
        have q0 := hold hc
        have q1 := hold hc2
        have v0 : IntKind.i64.wrap (clampedL x * brought y 0 1000) = clampedL x * brought y 0 1000 := IntWalk.i64_in _ (by omega)
        go_wp2
        refine wp_region_mod_tail 13 (by kernel_rfl) (by kernel_rfl) (by kernel_rfl) ?_
        simp only [List.take_succ_cons, List.take_zero, List.drop_succ_cons, List.drop_zero]
        repeat (first | (refine RM.skip (fun _ => rfl) ?_; (try simp only [Act.put, List.setIfInBounds_toArray, List.set_cons_zero, List.set_cons_succ])) | (refine RM.const (v := ?_) (fun _ => rfl) (fun xq wq hSq => ?_) ?_; rotate_left; (focus (go_simp; (first | done | with_reducible rfl))); (try simp only [Act.put, List.setIfInBounds_toArray, List.set_cons_zero, List.set_cons_succ])) | (refine RM.callc (v := ?_) (f := ?_) (args := ?_) (fun _ => rfl) (fun xq wq hSq => ?_) (fun wq hSq => ?_) ?_; rotate_left 3; (focus (go_simp; (refine ⟨?_, ?_⟩ <;> with_reducible rfl))); (focus ((first | (refine Calls.kept ?_; exact (clamped_any _ _)) | (refine Calls.kept ?_; exact (brought_any _ _ _ _))))); (try simp only [Act.put, List.setIfInBounds_toArray, List.set_cons_zero, List.set_cons_succ])) | (refine RM.lit (n := ?_) (vals := ?_) (e := ?_) (fun _ => rfl) (fun xq wq hSq => ?_) ?_; rotate_left 3; (focus (go_simp; (first | done | with_reducible rfl | (refine ⟨?_, ?_⟩ <;> with_reducible rfl)))); (try simp only [Act.put, List.setIfInBounds_toArray, List.set_cons_zero, List.set_cons_succ])))
        refine RM.done (fun xq wq hSq hUq => ?_)
        clear q0 q1
        obtain ⟨g, hv, hg, hgs, hcl⟩ := (hUq _ List.mem_cons_self).cells
        clear hUq
        simp only at hv
        have hO2 := own_mod hO hSq (fun _ _ f => f)
        have hM2 := hM.thenNone hSq
        have hroom : w.heap.size ≤ wq.heap.size := hM2.size
        simp only [hv]
        go_wp2_with (first | (at_builtin; refine wpList_append_own _ rfl _ _ 37 rfl w.heap.size 3 i0 _ 1 8 Try.underlying37 Hi.out Hz0.out Hz1.out Hz2.out rfl (by decide) _ _ _ rfl hO2 ⟨g, 0, none⟩ 1 1 [.int .i64 (clampedL x * brought y 0 1000)] rfl rfl hcl (ones_of rfl) h3 h4 hroom ?_))
        intro v' w1 hown1 hgrow _
        obtain ⟨a1, c1', hv'⟩ := own_form hown1
        rw [hv'] at hown1 ⊢
        have hM1 := hM2.appendedAt hO2 (Nat.le_refl _) hgrow
        clear hv' hgrow h3 h4
        go_wp2
        go_roundw
        case rel => exact ⟨k + 1, a1, c1', by omega, by omega, by go_num, rfl, by rw [e.out, icells_append]; simpa [icell] using hown1, hM1⟩
        case measure => simp [intOf]; omega
      · have he := scaledTo_full l m k (by omega) (by omega) (.inr (by omega))
        go_wp2
        go_ret
        exact ⟨b', d', by rw [← he, scaledTo_length (by omega) (by omega)]; rfl, by rw [← he, scaledTo_length (by omega) (by omega)]; exact hO, hM⟩
    · have he := scaledTo_full l m k (by omega) (by omega) (.inl (by omega))
      go_wp2
      go_ret
      exact ⟨b', d', by rw [← he, scaledTo_length (by omega) (by omega)]; rfl, by rw [← he, scaledTo_length (by omega) (by omega)]; exact hO, hM⟩

set_option maxRecDepth 100000 in
set_option maxHeartbeats 400000 in
theorem sscaled_any (l m : List Int) (a a' : Option Addr) (c c' : Nat) (R S : Nat → Prop) (w : World) (hl : l.length ≤ 1048576) (_hm : m.length ≤ 1048576) (h : IntSlice R w a l) (h' : IntSlice S w a' m) :
    Calls Try.prog 28 #[.slice a l.length c, .slice a' m.length c'] w (NewSlice 3 1 w (scaled l m).length ((scaled l m).map icell).flatten) := by
  have H := hid h
  have H' := hid h'
  clear h h'
  obtain ⟨i0, hi, hz0, hz1, hz2⟩ := info_parts info_int
  have Hi := hid hi
  have Hz0 := hid hz0
  have Hz1 := hid hz1
  have Hz2 := hid hz2
  clear hi hz0 hz1 hz2
  go_enter Try.func28, Try.ntmps28
  go_wp2
  go_loopw [5, 6] (fun v i wr => ∃ (k : Nat) (b' : Option Addr) (d' : Nat), k ≤ l.length ∧ k ≤ m.length ∧ i = .int .i64 k ∧ v = .slice b' k d' ∧ wr.ownsRow w.heap.size 3 1 (.slice b' k d') k ((scaledTo l m k).map icell).flatten ∧ Mod (fun _ => False) w wr) (fun _ i _ => l.length - (intOf i).toNat)
  case atStart => exact ⟨0, _, _, by omega, by omega, rfl, rfl, World.ownsRow_made w #[] 0 (Nat.le_refl _) (by unfold maxLen; omega) rfl, (Mod.refl _ w).alloc _⟩
  case round =>
    obtain ⟨k, b', d', hk, hk2, rfl, rfl, hO, hM⟩ := hrel
    by_cases hlt : k < l.length
    · by_cases hlt2 : k < m.length
      · obtain ⟨b, o, x, rfl, _, hbs, hx, hc⟩ := IntSlice.get (H.out.flatKeep hM) hlt
        obtain ⟨b2, o2, y, rfl, _, hbs2, hy, hc2⟩ := IntSlice.get (H'.out.flatKeep hM) hlt2
        have e := hid (scaledTo_succ hx hy)
        have h3 : k + 1 ≤ maxLen := by unfold maxLen; omega
        have h4 : (k + 1) * 8 ≤ 140737488355328 := by omega
        obtain ⟨p0, p1⟩ := scaled_bd x y
        have q0 := hold hc
        have q1 := hold hc2
        have v0 : IntKind.i64.wrap (clampedL x * brought y 0 1000) = clampedL x * brought y 0 1000 := IntWalk.i64_in _ (by omega)
        go_wp2
        refine wp_region_mod_tail 13 (by kernel_rfl) (by kernel_rfl) (by kernel_rfl) ?_
        simp only [List.take_succ_cons, List.take_zero, List.drop_succ_cons, List.drop_zero]
        repeat (first | (refine RM.skip (fun _ => rfl) ?_; (try simp only [Act.put, List.setIfInBounds_toArray, List.set_cons_zero, List.set_cons_succ])) | (refine RM.const (v := ?_) (fun _ => rfl) (fun xq wq hSq => ?_) ?_; rotate_left; (focus (go_simp; (first | done | with_reducible rfl))); (try simp only [Act.put, List.setIfInBounds_toArray, List.set_cons_zero, List.set_cons_succ])) | (refine RM.callc (v := ?_) (f := ?_) (args := ?_) (fun _ => rfl) (fun xq wq hSq => ?_) (fun wq hSq => ?_) ?_; rotate_left 3; (focus (go_simp; (refine ⟨?_, ?_⟩ <;> with_reducible rfl))); (focus ((first | (refine Calls.kept ?_; exact (sclamped_any _ _)) | (refine Calls.kept ?_; exact (sbrought_any _ _ _ _))))); (try simp only [Act.put, List.setIfInBounds_toArray, List.set_cons_zero, List.set_cons_succ])) | (refine RM.lit (n := ?_) (vals := ?_) (e := ?_) (fun _ => rfl) (fun xq wq hSq => ?_) ?_; rotate_left 3; (focus (go_simp; (first | done | with_reducible rfl | (refine ⟨?_, ?_⟩ <;> with_reducible rfl)))); (try simp only [Act.put, List.setIfInBounds_toArray, List.set_cons_zero, List.set_cons_succ])))
        refine RM.done (fun xq wq hSq hUq => ?_)
        clear q0 q1
        obtain ⟨g, hv, hg, hgs, hcl⟩ := (hUq _ List.mem_cons_self).cells
        clear hUq
        simp only at hv
        have hO2 := own_mod hO hSq (fun _ _ f => f)
        have hM2 := hM.thenNone hSq
        have hroom : w.heap.size ≤ wq.heap.size := hM2.size
        simp only [hv]
        go_wp2_with (first | (at_builtin; refine wpList_append_own _ rfl _ _ 37 rfl w.heap.size 3 i0 _ 1 8 Try.underlying37 Hi.out Hz0.out Hz1.out Hz2.out rfl (by decide) _ _ _ rfl hO2 ⟨g, 0, none⟩ 1 1 [.int .i64 (clampedL x * brought y 0 1000)] rfl rfl hcl (ones_of rfl) h3 h4 hroom ?_))
        intro v' w1 hown1 hgrow _
        obtain ⟨a1, c1', hv'⟩ := own_form hown1
        rw [hv'] at hown1 ⊢
        have hM1 := hM2.appendedAt hO2 (Nat.le_refl _) hgrow
        clear hv' hgrow h3 h4
        go_wp2
        go_roundw
        case rel => exact ⟨k + 1, a1, c1', by omega, by omega, by go_num, rfl, by rw [e.out, icells_append]; simpa [icell] using hown1, hM1⟩
        case measure => simp [intOf]; omega
      · have he := scaledTo_full l m k (by omega) (by omega) (.inr (by omega))
        go_wp2
        go_ret
        exact ⟨b', d', by rw [← he, scaledTo_length (by omega) (by omega)]; rfl, by rw [← he, scaledTo_length (by omega) (by omega)]; exact hO, hM⟩
    · have he := scaledTo_full l m k (by omega) (by omega) (.inl (by omega))
      go_wp2
      go_ret
      exact ⟨b', d', by rw [← he, scaledTo_length (by omega) (by omega)]; rfl, by rw [← he, scaledTo_length (by omega) (by omega)]; exact hO, hM⟩

end Go.Proofs.Ytefgjjmnjanleaa
