/-
  PROVED: the program's AskedOf and the reference's hand back the elements of one node, in order. No condition but a bound on the length.
-/
import Derived.Test.YtpmbobopkfacmaaAskedS
namespace Go.Proofs.Ytpmbobopkfacmaa
open Go.RowKit

def askedOf (l : List Asked) (n : Int) : List Asked := l.filter fun x => x.node == n

theorem filter_succ {α : Type} {l : List α} {k : Nat} {x : α} (p : α → Bool) (h : Hid (l[k]? = some x)) : (l.take (k + 1)).filter p = (l.take k).filter p ++ (if p x then [x] else []) := by
  rw [List.take_add_one, h.out, List.filter_append]
  simp [List.filter_cons]

set_option maxRecDepth 100000 in
set_option maxHeartbeats 1000000 in
theorem saskedOf_any (l : List Asked) (n : Int) (a : Option Addr) (c : Nat) (R : Nat → Prop) (w : World) (hl : l.length ≤ 1048576) (h : SliceAt (Flat Asked.cells) 6 R w a l) :
    Calls Try.prog 24 #[.slice a l.length c, .int .i64 n] w (NewSlice 88 6 w (askedOf l n).length ((askedOf l n).map Asked.cells).flatten) := by
  have H := hid h
  clear h
  obtain ⟨i0, hi, hz0, hz1, hz2⟩ := info_parts info_Asked
  have Hi := hid hi
  have Hz0 := hid hz0
  have Hz1 := hid hz1
  have Hz2 := hid hz2
  clear hi hz0 hz1 hz2
  go_enter Try.func24, Try.ntmps24
  go_wp2
  go_loopw [5, 6] (fun v i wr => ∃ (k : Nat) (a' : Option Addr) (c' : Nat), k ≤ l.length ∧ i = .int .i64 k ∧ v = .slice a' ((l.take k).filter fun x => x.node == n).length c' ∧ wr.ownsRow w.heap.size 88 6 (.slice a' ((l.take k).filter fun x => x.node == n).length c') ((l.take k).filter fun x => x.node == n).length (((l.take k).filter fun x => x.node == n).map Asked.cells).flatten ∧ Mod (fun _ => False) w wr) (fun _ i _ => l.length - (intOf i).toNat)
  case atStart =>
    exact ⟨0, _, _, by omega, rfl, rfl, World.ownsRow_made w #[] 0 (Nat.le_refl _) (by unfold maxLen; omega) rfl, (Mod.refl _ w).alloc _⟩
  case round =>
    obtain ⟨k, a', c', hk, rfl, rfl, hO, hM⟩ := hrel
    by_cases hlt : k < l.length
    · obtain ⟨b, o, x, r, rfl, hb, hbw, hx, hr, hrl, hc⟩ := (H.out.mod hM (fun _ _ f => f) (fun _ _ h => h)).get hlt
      obtain rfl : r = x.cells := hr
      have c0 := hc 0 _ rfl
      have c1 := hc 1 _ rfl
      have c2 := hc 2 _ rfl
      have c3 := hc 3 _ rfl
      have c4 := hc 4 _ rfl
      have c5 := hc 5 _ rfl
      simp only [Nat.add_zero] at c0
      clear hc hrl
      by_cases hn : (x.node == n) = true
      · have e := filter_succ (fun x => x.node == n) hx
        rw [hn] at e
        simp only [if_true] at e
        have hFl : ((l.take k).filter fun x => x.node == n).length ≤ k := by
          have := List.length_filter_le (fun x : Asked => x.node == n) (l.take k)
          rw [take_length_of_lt hk] at this
          exact this
        have He := hid e
        clear e
        generalize ((l.take k).filter fun x => x.node == n) = F at He hFl hO
        have h3 : F.length + 1 ≤ maxLen := by unfold maxLen; omega
        have h4 : (F.length + 1) * 48 ≤ 140737488355328 := by omega
        go_wp2_with (first | (at_builtin; refine wpList_append_own _ rfl _ _ 40 rfl w.heap.size 88 i0 _ 6 48 Try.underlying40 Hi.out Hz0.out Hz1.out Hz2.out rfl (by decide) _ _ _ rfl (hO.alloc _) ⟨wr.heap.size, 0, none⟩ 1 1 [.int .i64 x.node, .int .i64 x.wide.mode, .int .i64 x.wide.n, .int .i64 x.high.mode, .int .i64 x.high.n, .bool x.rtl] rfl rfl (cells_new _ _ _) (ones_of rfl) h3 h4 (own_room hM _) ?_))
        intro v' w1 hown1 hgrow _
        obtain ⟨a1, c1', hv⟩ := own_form hown1
        rw [hv] at hown1 ⊢
        have hM1 := hM.appended hO (Nat.le_refl _) hgrow
        clear hv hgrow h3 h4
        go_wp2
        go_roundw
        case rel =>
          refine ⟨k + 1, a1, c1', by omega, by go_num, ?_, ?_, hM1⟩
          · rw [He.out, List.length_append]; rfl
          · rw [He.out, List.length_append, List.map_append, List.flatten_append]
            simpa [Asked.cells] using hown1
        case measure => simp [intOf]; omega
      · replace hn : (x.node == n) = false := by simpa using hn
        have e := filter_succ (fun x => x.node == n) hx
        rw [hn] at e
        simp at e
        have He := hid e
        clear e
        go_wp2
        go_roundw
        case rel =>
          refine ⟨k + 1, a', c', by omega, by go_num, ?_, ?_, hM⟩
          · rw [He.out]
          · rw [He.out]; exact hO
        case measure => simp [intOf]; omega
    · have hk' : k = l.length := by omega
      subst hk'
      rw [List.take_length] at hO
      go_wp2
      go_ret
      rw [List.take_length]
      exact ⟨a', c', rfl, hO, hM⟩

set_option maxRecDepth 100000 in
set_option maxHeartbeats 1000000 in
theorem askedOf_any (l : List Asked) (n : Int) (a : Option Addr) (c : Nat) (R : Nat → Prop) (w : World) (hl : l.length ≤ 1048576) (h : SliceAt (Flat Asked.cells) 6 R w a l) :
    Calls Try.prog 26 #[.slice a l.length c, .int .i64 n] w (NewSlice 88 6 w (askedOf l n).length ((askedOf l n).map Asked.cells).flatten) := by
  have H := hid h
  clear h
  obtain ⟨i0, hi, hz0, hz1, hz2⟩ := info_parts info_Asked
  have Hi := hid hi
  have Hz0 := hid hz0
  have Hz1 := hid hz1
  have Hz2 := hid hz2
  clear hi hz0 hz1 hz2
  go_enter Try.func26, Try.ntmps26
  go_wp2
  go_loopw [5, 10] (fun v i wr => ∃ (k : Nat) (a' : Option Addr) (c' : Nat), k ≤ l.length ∧ i = .int .i64 k ∧ v = .slice a' ((l.take k).filter fun x => x.node == n).length c' ∧ wr.ownsRow w.heap.size 88 6 (.slice a' ((l.take k).filter fun x => x.node == n).length c') ((l.take k).filter fun x => x.node == n).length (((l.take k).filter fun x => x.node == n).map Asked.cells).flatten ∧ Mod (fun _ => False) w wr) (fun _ i _ => l.length - (intOf i).toNat)
  case atStart =>
    exact ⟨0, _, _, by omega, rfl, rfl, World.ownsRow_nil _ _ _ _, Mod.refl _ w⟩
  case round =>
    obtain ⟨k, a', c', hk, rfl, rfl, hO, hM⟩ := hrel
    by_cases hlt : k < l.length
    · obtain ⟨b, o, x, r, rfl, hb, hbw, hx, hr, hrl, hc⟩ := (H.out.mod hM (fun _ _ f => f) (fun _ _ h => h)).get hlt
      obtain rfl : r = x.cells := hr
      have c0 := hc 0 _ rfl
      have c1 := hc 1 _ rfl
      have c2 := hc 2 _ rfl
      have c3 := hc 3 _ rfl
      have c4 := hc 4 _ rfl
      have c5 := hc 5 _ rfl
      simp only [Nat.add_zero] at c0
      clear hc hrl
      by_cases hn : (x.node == n) = true
      · have e := filter_succ (fun x => x.node == n) hx
        rw [hn] at e
        simp only [if_true] at e
        have hFl : ((l.take k).filter fun x => x.node == n).length ≤ k := by
          have := List.length_filter_le (fun x : Asked => x.node == n) (l.take k)
          rw [take_length_of_lt hk] at this
          exact this
        have He := hid e
        clear e
        generalize ((l.take k).filter fun x => x.node == n) = F at He hFl hO
        have h3 : F.length + 1 ≤ maxLen := by unfold maxLen; omega
        have h4 : (F.length + 1) * 48 ≤ 140737488355328 := by omega
        go_wp2_with (first | (at_builtin; refine wpList_append_own _ rfl _ _ 40 rfl w.heap.size 88 i0 _ 6 48 Try.underlying40 Hi.out Hz0.out Hz1.out Hz2.out rfl (by decide) _ _ _ rfl ((hO.alloc _).alloc _) ⟨wr.heap.size + 1, 0, none⟩ 1 1 [.int .i64 x.node, .int .i64 x.wide.mode, .int .i64 x.wide.n, .int .i64 x.high.mode, .int .i64 x.high.n, .bool x.rtl] rfl rfl (cells_new1 _ _ _ _) (ones_of rfl) h3 h4 (own_room (hM.alloc _) _) ?_))
        intro v' w1 hown1 hgrow _
        obtain ⟨a1, c1', hv⟩ := own_form hown1
        rw [hv] at hown1 ⊢
        have hM1 := (hM.alloc _).appended (hO.alloc _) (Nat.le_refl _) hgrow
        clear hv hgrow h3 h4
        go_wp2
        go_roundw
        case rel =>
          refine ⟨k + 1, a1, c1', by omega, by go_num, ?_, ?_, hM1⟩
          · rw [He.out, List.length_append]; rfl
          · rw [He.out, List.length_append, List.map_append, List.flatten_append]
            simpa [Asked.cells] using hown1
        case measure => simp [intOf]; omega
      · replace hn : (x.node == n) = false := by simpa using hn
        have e := filter_succ (fun x => x.node == n) hx
        rw [hn] at e
        simp at e
        have He := hid e
        clear e
        go_wp2
        go_roundw
        case rel =>
          refine ⟨k + 1, a', c', by omega, by go_num, ?_, ?_, hM.alloc _⟩
          · rw [He.out]
          · rw [He.out]; exact hO.alloc _
        case measure => simp [intOf]; omega
    · have hk' : k = l.length := by omega
      subst hk'
      rw [List.take_length] at hO
      go_wp2
      go_ret
      rw [List.take_length]
      exact ⟨a', c', rfl, hO, hM⟩

end Go.Proofs.Ytpmbobopkfacmaa
