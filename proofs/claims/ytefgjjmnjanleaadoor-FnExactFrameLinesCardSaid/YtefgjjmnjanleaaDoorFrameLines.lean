/-
  PROVED: FrameLines: the program's and the reference's write one line a frame. Condition: the library's table of powers lies as its text lays it.
-/
import Derived.Test.YtefgjjmnjanleaaDoorFrameS
import Derived.Test.YtefgjjmnjanleaaDoorRep2
namespace Go.Proofs.YtefgjjmnjanleaaDoor
open Go.RowKit

/-- The text of a frame. -/
def frameW (x : Frame) : List UInt8 := spacedOf [x.node, x.x, x.y, x.wide, x.high]

set_option maxRecDepth 100000 in
set_option maxHeartbeats 4000000 in
theorem sframeLines_any  (l : List Frame) (a : Option Addr) (c : Nat) (R : Nat → Prop) (w : World) (hl : l.length ≤ 1048576) (h : SliceAt (Flat Frame.cells) 5 R w a l) (hb : ∀ x ∈ l, x.ok):
    Calls Tryd.prog 23 #[.slice a l.length c] w (NewSlice 9 1 w (l.map frameW).length ((l.map frameW).map tcell).flatten) := by
  have H := hid h
  clear h
  obtain ⟨i0, hi, hz0, hz1, hz2⟩ := info_parts info_string
  have Hi := hid hi
  have Hz0 := hid hz0
  have Hz1 := hid hz1
  have Hz2 := hid hz2
  clear hi hz0 hz1 hz2
  rw [show l.map frameW = l.filterMap (fun x => some (frameW x)) from map_fm _ _]
  have Hb := hid hb
  clear hb
  go_enter Tryd.func23, Tryd.ntmps23
  go_wp2_with fail
  go_loopw [3, 4] (fun v i wr => ∃ (k : Nat) (a' : Option Addr) (c' : Nat), k ≤ l.length ∧ i = .int .i64 k ∧ v = .slice a' ((l.take k).filterMap (fun x => some (frameW x))).length c' ∧ wr.ownsRow w.heap.size 9 1 (.slice a' ((l.take k).filterMap (fun x => some (frameW x))).length c') ((l.take k).filterMap (fun x => some (frameW x))).length (((l.take k).filterMap (fun x => some (frameW x))).map tcell).flatten ∧ Mod (fun _ => False) w wr) (fun _ i _ => l.length - (intOf i).toNat)
  case atStart =>
    exact ⟨0, _, _, by omega, rfl, rfl, World.ownsRow_made w #[] 0 (Nat.le_refl _) (by unfold maxLen; omega) rfl, (Mod.refl _ w).alloc _⟩
  case round =>
    obtain ⟨k, a', c', hk, rfl, rfl, hO, hM⟩ := hrel
    have hFl : ((l.take k).filterMap (fun x => some (frameW x))).length ≤ k := fm_len _ _ _
    by_cases hlt : k < l.length
    · obtain ⟨b, o, x, r, rfl, hb, hbw, hx, hr, hrl, hc⟩ := (H.out.flatKeep hM).get hlt
      obtain rfl : r = x.cells := hr
      have c0 := hc 0 _ rfl
      have c1 := hc 1 _ rfl
      have c2 := hc 2 _ rfl
      have c3 := hc 3 _ rfl
      have c4 := hc 4 _ rfl
      simp only [Nat.add_zero] at c0
      clear hc hrl
      obtain ⟨b0, b1, b2, b3, b4⟩ := Hb.out x (List.mem_of_getElem? hx.out)
      go_wp2_with fail
      refine (sframeLine_any _ _ _ _ _ b0 b1 b2 b3 b4 _).mono ?_
      rintro e w1 ⟨rfl, hm1⟩
      have hM1 := hM.thenNone hm1
      have hO1 := own_mod hO hm1 (fun _ _ f => f)
      clear hm1 b0 b1 b2 b3 b4
      have hg : (fun x => some (frameW x)) x = some (frameW x) := rfl
      have He := hid (fm_some (fun x => some (frameW x)) hx hg)
      generalize ((l.take k).filterMap (fun x => some (frameW x))) = F at He hFl hO hO1
      have h3 : F.length + 1 ≤ maxLen := by unfold maxLen; omega
      have h4 : (F.length + 1) * 16 ≤ 140737488355328 := by omega
      go_wp2_with (first | (at_builtin; refine wpList_append_own _ rfl _ _ 22 rfl w.heap.size 9 i0 _ 1 16 Tryd.underlying22 Hi.out Hz0.out Hz1.out Hz2.out rfl (by decide) _ _ _ rfl (hO1.alloc _) ⟨w1.heap.size, 0, none⟩ 1 1 [.string ⟨(frameW x).toArray⟩] rfl rfl (cells_new _ _ _) (ones_of rfl) h3 h4 (own_room hM1 _) ?_) | fail)
      intro v' w9 hown1 hgrow _
      obtain ⟨a1, c1', hv⟩ := own_form hown1
      rw [hv] at hown1 ⊢
      have hM1 := hM1.appended hO1 (Nat.le_refl _) hgrow
      clear hv hgrow h3 h4
      go_wp2_with fail
      go_roundw
      case rel =>
        refine ⟨k + 1, a1, c1', by omega, by go_num, ?_, ?_, hM1⟩
        · rw [He.out, List.length_append]; rfl
        · rw [He.out, List.length_append, List.map_append, List.flatten_append]
          simpa [tcell] using hown1
      case measure => simp [intOf]; omega
    · have hk' : k = l.length := by omega
      subst hk'
      rw [List.take_length] at hO
      go_wp2
      go_ret
      rw [List.take_length]
      exact ⟨a', c', rfl, hO, hM⟩

set_option maxRecDepth 100000 in
set_option maxHeartbeats 4000000 in
theorem frameLines_any  (l : List Frame) (a : Option Addr) (c : Nat) (R : Nat → Prop) (w : World) (hl : l.length ≤ 1048576) (h : SliceAt (Flat Frame.cells) 5 R w a l) (hb : ∀ x ∈ l, x.ok) (ht : Tab w):
    Calls Tryd.prog 25 #[.slice a l.length c] w (NewSlice 9 1 w (l.map frameW).length ((l.map frameW).map tcell).flatten) := by
  have H := hid h
  clear h
  obtain ⟨i0, hi, hz0, hz1, hz2⟩ := info_parts info_string
  have Hi := hid hi
  have Hz0 := hid hz0
  have Hz1 := hid hz1
  have Hz2 := hid hz2
  clear hi hz0 hz1 hz2
  rw [show l.map frameW = l.filterMap (fun x => some (frameW x)) from map_fm _ _]
  have Hb := hid hb
  have Ht := hid ht
  clear hb ht
  go_enter Tryd.func25, Tryd.ntmps25
  go_wp2_with fail
  go_loopw [3, 8] (fun v i wr => ∃ (k : Nat) (a' : Option Addr) (c' : Nat), k ≤ l.length ∧ i = .int .i64 k ∧ v = .slice a' ((l.take k).filterMap (fun x => some (frameW x))).length c' ∧ wr.ownsRow w.heap.size 9 1 (.slice a' ((l.take k).filterMap (fun x => some (frameW x))).length c') ((l.take k).filterMap (fun x => some (frameW x))).length (((l.take k).filterMap (fun x => some (frameW x))).map tcell).flatten ∧ Mod (fun _ => False) w wr) (fun _ i _ => l.length - (intOf i).toNat)
  case atStart =>
    exact ⟨0, _, _, by omega, rfl, rfl, World.ownsRow_nil _ _ _ _, Mod.refl _ _⟩
  case round =>
    obtain ⟨k, a', c', hk, rfl, rfl, hO, hM⟩ := hrel
    have hFl : ((l.take k).filterMap (fun x => some (frameW x))).length ≤ k := fm_len _ _ _
    by_cases hlt : k < l.length
    · obtain ⟨b, o, x, r, rfl, hb, hbw, hx, hr, hrl, hc⟩ := (H.out.flatKeep hM).get hlt
      obtain rfl : r = x.cells := hr
      have c0 := hc 0 _ rfl
      have c1 := hc 1 _ rfl
      have c2 := hc 2 _ rfl
      have c3 := hc 3 _ rfl
      have c4 := hc 4 _ rfl
      simp only [Nat.add_zero] at c0
      clear hc hrl
      obtain ⟨b0, b1, b2, b3, b4⟩ := Hb.out x (List.mem_of_getElem? hx.out)
      go_wp2_with fail
      refine (frameLine_any _ _ _ _ _ b0 b1 b2 b3 b4 _ (Ht.out.keep (hM.alloc _))).mono ?_
      rintro e w1 ⟨rfl, hm1⟩
      have hM1 := (hM.alloc _).thenNone hm1
      have hO1 := own_mod (hO.alloc _) hm1 (fun _ _ f => f)
      clear hm1 b0 b1 b2 b3 b4
      have hg : (fun x => some (frameW x)) x = some (frameW x) := rfl
      have He := hid (fm_some (fun x => some (frameW x)) hx hg)
      generalize ((l.take k).filterMap (fun x => some (frameW x))) = F at He hFl hO hO1
      have h3 : F.length + 1 ≤ maxLen := by unfold maxLen; omega
      have h4 : (F.length + 1) * 16 ≤ 140737488355328 := by omega
      go_wp2_with (first | (at_builtin; refine wpList_append_own _ rfl _ _ 22 rfl w.heap.size 9 i0 _ 1 16 Tryd.underlying22 Hi.out Hz0.out Hz1.out Hz2.out rfl (by decide) _ _ _ rfl (hO1.alloc _) ⟨w1.heap.size, 0, none⟩ 1 1 [.string ⟨(frameW x).toArray⟩] rfl rfl (cells_new _ _ _) (ones_of rfl) h3 h4 (own_room hM1 _) ?_) | fail)
      intro v' w9 hown1 hgrow _
      obtain ⟨a1, c1', hv⟩ := own_form hown1
      rw [hv] at hown1 ⊢
      have hM1 := hM1.appended hO1 (Nat.le_refl _) hgrow
      clear hv hgrow h3 h4
      go_wp2_with fail
      go_roundw
      case rel =>
        refine ⟨k + 1, a1, c1', by omega, by go_num, ?_, ?_, hM1⟩
        · rw [He.out, List.length_append]; rfl
        · rw [He.out, List.length_append, List.map_append, List.flatten_append]
          simpa [tcell] using hown1
      case measure => simp [intOf]; omega
    · have hk' : k = l.length := by omega
      subst hk'
      rw [List.take_length] at hO
      go_wp2
      go_ret
      rw [List.take_length]
      exact ⟨a', c', rfl, hO, hM⟩

end Go.Proofs.YtefgjjmnjanleaaDoor
