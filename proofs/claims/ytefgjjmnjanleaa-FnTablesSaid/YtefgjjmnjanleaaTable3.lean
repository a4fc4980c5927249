/-
  PROVED: RoomsOf, SameTable and the laws' comparisons of rules: plain functions. No condition but a bound on the length.
-/
import Derived.Test.YtefgjjmnjanleaaTable
import Derived.Test.YtefgjjmnjanleaaInts
namespace Go.Proofs.Ytefgjjmnjanleaa
open Go.RowKit

set_option maxRecDepth 100000 in
set_option maxHeartbeats 4000000 in
theorem roomsOf_any  (l : List Rule) (a : Option Addr) (c : Nat) (R : Nat → Prop) (w : World) (hl : l.length ≤ 1048576) (h : SliceAt (Flat Rule.cells) 3 R w a l) :
    Calls Try.prog 17 #[.agg #[.slice a l.length c]] w (NewSlice 3 1 w (l.map (fun x => x.room)).length ((l.map (fun x => x.room)).map icell).flatten) := by
  have H := hid (h.flatKeep (by (repeat (first | with_reducible exact Mod.refl _ _ | with_reducible refine Mod.drewN ?_ _ | with_reducible refine Mod.drew ?_ | with_reducible refine Mod.alloc ?_ _ | ((with_reducible refine Mod.setNew ?_ ?_ _ _ _); (rotate_left; omega)) | with_reducible refine Mod.setAt ?_ _ _ _ )) : Mod (fun _ => False) w (w.alloc (boxT a l.length c))))
  clear h
  obtain ⟨i0, hi, hz0, hz1, hz2⟩ := info_parts info_int
  have Hi := hid hi
  have Hz0 := hid hz0
  have Hz1 := hid hz1
  have Hz2 := hid hz2
  clear hi hz0 hz1 hz2
  rw [show l.map (fun x => x.room) = l.filterMap (fun x => some (x.room)) from map_fm _ _]
  go_enter Try.func17, Try.ntmps17
  go_wp2_with fail
  go_loopw [3, 9] (fun v i wr => ∃ (k : Nat) (a' : Option Addr) (c' : Nat), k ≤ l.length ∧ i = .int .i64 k ∧ v = .slice a' ((l.take k).filterMap (fun x => some (x.room))).length c' ∧ wr.ownsRow (w.alloc (boxT a l.length c)).heap.size 3 1 (.slice a' ((l.take k).filterMap (fun x => some (x.room))).length c') ((l.take k).filterMap (fun x => some (x.room))).length (((l.take k).filterMap (fun x => some (x.room))).map icell).flatten ∧ Mod (fun _ => False) (w.alloc (boxT a l.length c)) wr) (fun _ i _ => l.length - (intOf i).toNat)
  case atStart =>
    exact ⟨0, _, _, by omega, rfl, rfl, World.ownsRow_nil _ _ _ _, Mod.refl _ _⟩
  case round =>
    obtain ⟨k, a', c', hk, rfl, rfl, hO, hM⟩ := hrel
    have hFl : ((l.take k).filterMap (fun x => some (x.room))).length ≤ k := fm_len _ _ _
    have hb0 : wr.cell? ⟨w.heap.size, 0, none⟩ = some (.slice a l.length c) := hM.keep _ _ (by simp [go_sem])
    have hsz := hM.size
    simp only [World.size_alloc] at hsz
    have hr0 : w.heap.size < wr.heap.size := by omega
    by_cases hlt : k < l.length
    · obtain ⟨b, o, x, r, rfl, hb, hbw, hx, hr, hrl, hc⟩ := (H.out.flatKeep hM).get hlt
      obtain rfl : r = x.cells := hr
      have c0 := hc 0 _ rfl
      have c1 := hc 1 _ rfl
      have c2 := hc 2 _ rfl
      simp only [Nat.add_zero] at c0
      clear hc hrl
      have hg : (fun x => some (x.room)) x = some (x.room) := rfl
      have He := hid (fm_some (fun x => some (x.room)) hx hg)
      generalize ((l.take k).filterMap (fun x => some (x.room))) = F at He hFl hO
      have h3 : F.length + 1 ≤ maxLen := by unfold maxLen; omega
      have h4 : (F.length + 1) * 8 ≤ 140737488355328 := by omega
      go_wp2_with (first | (at_builtin; refine wpList_append_own _ rfl _ _ 37 rfl _ 3 i0 _ 1 8 Try.underlying37 Hi.out Hz0.out Hz1.out Hz2.out rfl (by decide) _ _ _ rfl ((hO.alloc _).alloc _) ⟨wr.heap.size + 1, 0, none⟩ 1 1 [.int .i64 x.room] rfl rfl (cells_new1 _ _ _ _) (ones_of rfl) h3 h4 (own_room (hM.alloc _) _) ?_) | fail)
      intro v' w1 hown1 hgrow _
      obtain ⟨a1, c1', hv⟩ := own_form hown1
      rw [hv] at hown1 ⊢
      have hM1 := (hM.alloc _).appended (hO.alloc _) (Nat.le_refl _) hgrow
      clear hv hgrow h3 h4
      go_wp2_with fail
      go_roundw
      case rel =>
        refine ⟨k + 1, a1, c1', by omega, by go_num, ?_, ?_, hM1⟩
        · rw [He.out, List.length_append]; rfl
        · rw [He.out, List.length_append, List.map_append, List.flatten_append]
          simpa [icell] using hown1
      case measure => simp [intOf]; omega
    · have hk' : k = l.length := by omega
      subst hk'
      rw [List.take_length] at hO
      go_wp2
      go_ret
      rw [List.take_length]
      exact ⟨a', c', rfl, own_base hO (by simp), (by (repeat (first | with_reducible exact Mod.refl _ _ | with_reducible refine Mod.drewN ?_ _ | with_reducible refine Mod.drew ?_ | with_reducible refine Mod.alloc ?_ _ | ((with_reducible refine Mod.setNew ?_ ?_ _ _ _); (rotate_left; omega)) | with_reducible refine Mod.setAt ?_ _ _ _ )) : Mod (fun _ => False) w (w.alloc (boxT a l.length c))).trans hM⟩
set_option maxRecDepth 100000 in
set_option maxHeartbeats 4000000 in
theorem sroomsOf_any  (l : List Rule) (a : Option Addr) (c : Nat) (R : Nat → Prop) (w : World) (hl : l.length ≤ 1048576) (h : SliceAt (Flat Rule.cells) 3 R w a l) :
    Calls Try.prog 18 #[.agg #[.slice a l.length c]] w (NewSlice 3 1 w (l.map (fun x => x.room)).length ((l.map (fun x => x.room)).map icell).flatten) := by
  have H := hid (h.flatKeep (by (repeat (first | with_reducible exact Mod.refl _ _ | with_reducible refine Mod.drewN ?_ _ | with_reducible refine Mod.drew ?_ | with_reducible refine Mod.alloc ?_ _ | ((with_reducible refine Mod.setNew ?_ ?_ _ _ _); (rotate_left; omega)) | with_reducible refine Mod.setAt ?_ _ _ _ )) : Mod (fun _ => False) w (w.alloc (boxT a l.length c))))
  clear h
  obtain ⟨i0, hi, hz0, hz1, hz2⟩ := info_parts info_int
  have Hi := hid hi
  have Hz0 := hid hz0
  have Hz1 := hid hz1
  have Hz2 := hid hz2
  clear hi hz0 hz1 hz2
  rw [show l.map (fun x => x.room) = l.filterMap (fun x => some (x.room)) from map_fm _ _]
  go_enter Try.func18, Try.ntmps18
  go_wp2_with fail
  go_loopw [3, 4] (fun v i wr => ∃ (k : Nat) (a' : Option Addr) (c' : Nat), k ≤ l.length ∧ i = .int .i64 k ∧ v = .slice a' ((l.take k).filterMap (fun x => some (x.room))).length c' ∧ wr.ownsRow (w.alloc (boxT a l.length c)).heap.size 3 1 (.slice a' ((l.take k).filterMap (fun x => some (x.room))).length c') ((l.take k).filterMap (fun x => some (x.room))).length (((l.take k).filterMap (fun x => some (x.room))).map icell).flatten ∧ Mod (fun _ => False) (w.alloc (boxT a l.length c)) wr) (fun _ i _ => l.length - (intOf i).toNat)
  case atStart =>
    exact ⟨0, _, _, by omega, rfl, rfl, by simpa using World.ownsRow_made (w.alloc (boxT a l.length c)) #[] 0 (Nat.le_refl _) (by unfold maxLen; omega) rfl, (Mod.refl _ (w.alloc (boxT a l.length c))).alloc _⟩
  case round =>
    obtain ⟨k, a', c', hk, rfl, rfl, hO, hM⟩ := hrel
    have hFl : ((l.take k).filterMap (fun x => some (x.room))).length ≤ k := fm_len _ _ _
    have hb0 : wr.cell? ⟨w.heap.size, 0, none⟩ = some (.slice a l.length c) := hM.keep _ _ (by simp [go_sem])
    have hsz := hM.size
    simp only [World.size_alloc] at hsz
    have hr0 : w.heap.size < wr.heap.size := by omega
    by_cases hlt : k < l.length
    · obtain ⟨b, o, x, r, rfl, hb, hbw, hx, hr, hrl, hc⟩ := (H.out.flatKeep hM).get hlt
      obtain rfl : r = x.cells := hr
      have c0 := hc 0 _ rfl
      have c1 := hc 1 _ rfl
      have c2 := hc 2 _ rfl
      simp only [Nat.add_zero] at c0
      clear hc hrl
      have hg : (fun x => some (x.room)) x = some (x.room) := rfl
      have He := hid (fm_some (fun x => some (x.room)) hx hg)
      generalize ((l.take k).filterMap (fun x => some (x.room))) = F at He hFl hO
      have h3 : F.length + 1 ≤ maxLen := by unfold maxLen; omega
      have h4 : (F.length + 1) * 8 ≤ 140737488355328 := by omega
      go_wp2_with (first | (at_builtin; refine wpList_append_own _ rfl _ _ 37 rfl _ 3 i0 _ 1 8 Try.underlying37 Hi.out Hz0.out Hz1.out Hz2.out rfl (by decide) _ _ _ rfl (hO.alloc _) ⟨wr.heap.size, 0, none⟩ 1 1 [.int .i64 x.room] rfl rfl (cells_new _ _ _) (ones_of rfl) h3 h4 (own_room hM _) ?_) | fail)
      intro v' w1 hown1 hgrow _
      obtain ⟨a1, c1', hv⟩ := own_form hown1
      rw [hv] at hown1 ⊢
      have hM1 := hM.appended hO (Nat.le_refl _) hgrow
      clear hv hgrow h3 h4
      go_wp2_with fail
      go_roundw
      case rel =>
        refine ⟨k + 1, a1, c1', by omega, by go_num, ?_, ?_, hM1⟩
        · rw [He.out, List.length_append]; rfl
        · rw [He.out, List.length_append, List.map_append, List.flatten_append]
          simpa [icell] using hown1
      case measure => simp [intOf]; omega
    · have hk' : k = l.length := by omega
      subst hk'
      rw [List.take_length] at hO
      go_wp2
      go_ret
      rw [List.take_length]
      exact ⟨a', c', rfl, own_base hO (by simp), (by (repeat (first | with_reducible exact Mod.refl _ _ | with_reducible refine Mod.drewN ?_ _ | with_reducible refine Mod.drew ?_ | with_reducible refine Mod.alloc ?_ _ | ((with_reducible refine Mod.setNew ?_ ?_ _ _ _); (rotate_left; omega)) | with_reducible refine Mod.setAt ?_ _ _ _ )) : Mod (fun _ => False) w (w.alloc (boxT a l.length c))).trans hM⟩

end Go.Proofs.Ytefgjjmnjanleaa
