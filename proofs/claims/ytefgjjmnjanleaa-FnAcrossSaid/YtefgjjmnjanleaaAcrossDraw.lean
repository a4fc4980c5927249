/-
  PROVED: the reference's draw of lines across: some numbers in a new slice, a gap, a room, a way to lay them out. No condition.
-/
import Derived.Test.YtefgjjmnjanleaaEvenDraw
namespace Go.Proofs.Ytefgjjmnjanleaa
open Go.RowKit

def DrewAcross (w : World) (e : Ending) (w' : World) : Prop :=
  ∃ (a : Option Addr) (c : Nat) (l : List Int) (gap inner content : Int), e = .returned (.tuple #[.slice a l.length c, .int .i64 gap, .int .i64 inner, .int .i64 content]) ∧ l.length ≤ 16 ∧ (-1 ≤ gap ∧ gap ≤ 64) ∧ (-1 ≤ inner ∧ inner ≤ 3333) ∧ IntSlice (fun k => w.heap.size ≤ k) w' a l ∧ Mod (fun _ => False) w w'

set_option maxRecDepth 100000 in
set_option maxHeartbeats 4000000 in
theorem l16Case_any (B : Nat) (w : World) (a : Option Addr) (len cap : Nat) (hB : B ≤ w.heap.size) (hl : len ≤ 1048576) (hy : Bytes B w a len) :
    Calls Try.prog 101 #[.slice a len cap] w (DrewAcross w) := by
  obtain ⟨i0, hi, hz0, hz1, hz2⟩ := info_parts info_int
  have Hi := hid hi
  have Hz0 := hid hz0
  have Hz1 := hid hz1
  have Hz2 := hid hz2
  clear hi hz0 hz1 hz2
  go_enter Try.func101, Try.ntmps101
  go_wp2_with fail
  refine (l01New_any B w a len cap hB hl hy).mono ?_
  rintro e w1 ⟨g, hg, rfl, hc1, hm1⟩
  have hgs := hc1.size
  have hs1 := hm1.size
  go_wp2
  go_loopw [7, 8] (fun v i wr => ∃ (k : Nat) (a' : Option Addr) (c' : Nat) (l : List Int), k ≤ 5 ∧ i = .int .i64 k ∧ l.length = k ∧ v = .slice a' k c' ∧ wr.ownsRow w1.heap.size 3 1 (.slice a' k c') k (l.map icell).flatten ∧ Cur B 123 wr g ∧ Mod (fun k => k = g) w1 wr) (fun _ i _ => 5 - (intOf i).toNat)
  case atStart => exact ⟨0, _, _, [], by omega, rfl, rfl, rfl, World.ownsRow_made w1 #[] 0 (Nat.le_refl _) (by unfold maxLen; omega) rfl, hc1.alloc _, (Mod.refl _ w1).alloc _⟩
  case round =>
    obtain ⟨k, a', c', l, hk, rfl, hlk, rfl, hO, hC, hM⟩ := hrel
    have Hlk := hid hlk
    clear hlk
    go_wp2_with fail
    refine (l01Below_any B g wr hC 5 (by omega)).mono ?_
    rintro e w2 ⟨x, hx, rfl, hc2, hm2⟩
    have hO1 := own_mod hO hm2 (fun j hj (e : j = g) => by omega)
    have hM1 := hM.trans hm2
    by_cases hlt : (k : Int) < x
    · go_wp2_with fail
      refine (l01Below_any B g w2 hc2 800 (by omega)).mono ?_
      rintro e w3 ⟨z, hz, rfl, hc3, hm3⟩
      go_wp2_with fail
      refine (l01PickLit_any B g w3 hc3 [0, 64, 100, 33, z] _ rfl _ _ rfl (by simp) (by simp)).mono ?_
      rintro e w4 ⟨y, hy, rfl, hc4, hm4⟩
      have hO3 := own_mod (own_mod hO1 hm3 (fun j hj (e : j = g) => by omega)) hm4 (fun j hj (e : j = g) => by omega)
      have hM3 := (hM1.trans hm3).trans hm4
      have h3 : k + 1 ≤ maxLen := by unfold maxLen; omega
      have h4 : (k + 1) * 8 ≤ 140737488355328 := by omega
      go_wp2_with (first | (at_builtin; refine wpList_append_own _ rfl _ _ 37 rfl w1.heap.size 3 i0 _ 1 8 Try.underlying37 Hi.out Hz0.out Hz1.out Hz2.out rfl (by decide) _ _ _ rfl (hO3.alloc _) ⟨w4.heap.size, 0, none⟩ 1 1 [.int .i64 y] rfl rfl (cells_new _ _ _) (ones_of rfl) h3 h4 (own_room hM3 _) ?_))
      intro v' w5 hown hgrow _
      obtain ⟨a1, c1', hv⟩ := own_form hown
      rw [hv] at hown ⊢
      have hM4 := hM3.appended hO3 (Nat.le_refl _) hgrow
      have hc5 := hc4.appended hO3 hgs hgrow
      clear hv hgrow h3 h4
      go_wp2
      go_roundw
      case rel => exact ⟨k + 1, a1, c1', l ++ [y], by omega, by go_num, by rw [List.length_append, Hlk.out]; rfl, rfl, by rw [icells_append]; simpa [icell] using hown, hc5, hM4⟩
      case measure => simp [intOf]; omega
    · have hx5 : (k : Int) ≤ 6 := by omega
      go_wp2_with fail
      refine (l01Once_any B g w2 hc2 12 (by omega)).mono ?_
      rintro e w3 ⟨b2, rfl, hc3, hm3⟩
      have hO2 := own_mod hO1 hm3 (fun j hj (e : j = g) => by omega)
      have hM2 := hM1.trans hm3
      cases b2
      · go_wp2_with fail
        refine (l01Once_any B g w3 hc3 30 (by omega)).mono ?_
        rintro e wo ⟨bo, rfl, hco, hmo⟩
        have hOo := own_mod hO2 hmo (fun j hj (e : j = g) => by omega)
        have hMo := hM2.trans hmo
        cases bo
        · go_wp2_with fail
          refine (l01PickLit_any B g wo hco [0, 0, 10, 64, -1] _ rfl _ _ rfl (by simp) (by simp)).mono ?_
          rintro e wp ⟨gap, hgap, rfl, hcp, hmp⟩
          go_wp2_with fail
          refine (l01PickLit_any B g wp hcp [0, 640, 1000, 3333, -1] _ rfl _ _ rfl (by simp) (by simp)).mono ?_
          rintro e wi ⟨inner, hinner, rfl, hci, hmi⟩
          go_wp2_with fail
          refine (l01Below_any B g wi hci 8 (by omega)).mono ?_
          rintro e wc ⟨content, hcontent, rfl, hcc, hmc⟩
          have hOp := own_mod (own_mod (own_mod hOo hmp (fun j hj (e : j = g) => by omega)) hmi (fun j hj (e : j = g) => by omega)) hmc (fun j hj (e : j = g) => by omega)
          go_wp2
          obtain rfl := Hlk.out
          refine bodyPost_ret (v := .tuple #[.slice a' (l : List Int).length c', .int .i64 gap, .int .i64 inner, .int .i64 content]) (by simp [results, Try.results101, go_sem]) rfl ⟨a', c', l, gap, inner, content, rfl, by omega, by simp at hgap; omega, by simp at hinner; omega, owned_ints (B := B) (w := w) hOp (by omega), hm1.thenNew (((hMo.trans hmp).trans hmi).trans hmc) hg⟩
        · go_wp2
          go_loopw [7] (fun v wr => ∃ (k : Nat) (a' : Option Addr) (c' : Nat) (l : List Int), k ≤ 16 ∧ l.length = k ∧ v = .slice a' k c' ∧ wr.ownsRow w1.heap.size 3 1 (.slice a' k c') k (l.map icell).flatten ∧ Cur B 123 wr g ∧ Mod (fun k => k = g) w1 wr) (fun v _ => 16 - lenV v)
          case atStart => exact ⟨_, _, _, l, by omega, Hlk.out, rfl, hOo, hco, hMo⟩
          case round =>
            obtain ⟨n, a3, c3, l3, hn, hl3, rfl, hO5, hC5, hM5⟩ := hrel
            have Hl3 := hid hl3
            clear hl3
            go_wp2_with fail
            refine (l01Below_any B g _ hC5 2 (by omega)).mono ?_
            rintro e w6 ⟨x6, hx6, rfl, hc6, hm6⟩
            have hO6 := own_mod hO5 hm6 (fun j hj (e : j = g) => by omega)
            have hM6 := hM5.trans hm6
            have hx6' : 0 ≤ x6 ∧ x6 < 2 := by omega
            obtain ⟨hx60, hx61⟩ := hx6'
            by_cases hlt : (n : Int) < 12 + x6
            · have h3 : n + 1 ≤ maxLen := by unfold maxLen; omega
              have h4 : (n + 1) * 8 ≤ 140737488355328 := by omega
              go_wp2_with (first | (at_builtin; refine wpList_append_own _ rfl _ _ 37 rfl w1.heap.size 3 i0 _ 1 8 Try.underlying37 Hi.out Hz0.out Hz1.out Hz2.out rfl (by decide) _ _ _ rfl (hO6.alloc _) ⟨w6.heap.size, 0, none⟩ 1 1 [.int .i64 1] rfl rfl (cells_new _ _ _) (ones_of rfl) h3 h4 (own_room hM6 _) ?_))
              intro v' w7 hown hgrow _
              obtain ⟨a7, c7, hv⟩ := own_form hown
              rw [hv] at hown ⊢
              have hM7 := hM6.appended hO6 (Nat.le_refl _) hgrow
              have hc7 := hc6.appended hO6 hgs hgrow
              clear hv hgrow h3 h4
              go_wp2
              go_roundw
              case rel => exact ⟨n + 1, a7, c7, l3 ++ [1], by omega, by rw [List.length_append, Hl3.out]; rfl, rfl, by rw [icells_append]; simpa [icell] using hown, hc7, hM7⟩
              case measure => simp [lenV]; omega
            · go_wp2_with fail
              refine (l01PickLit_any B g w6 hc6 [0, 0, 10, 64, -1] _ rfl _ _ rfl (by simp) (by simp)).mono ?_
              rintro e wp ⟨gap, hgap, rfl, hcp, hmp⟩
              go_wp2_with fail
              refine (l01PickLit_any B g wp hcp [0, 640, 1000, 3333, -1] _ rfl _ _ rfl (by simp) (by simp)).mono ?_
              rintro e wi ⟨inner, hinner, rfl, hci, hmi⟩
              go_wp2_with fail
              refine (l01Below_any B g wi hci 8 (by omega)).mono ?_
              rintro e wc ⟨content, hcontent, rfl, hcc, hmc⟩
              have hOp := own_mod (own_mod (own_mod hO6 hmp (fun j hj (e : j = g) => by omega)) hmi (fun j hj (e : j = g) => by omega)) hmc (fun j hj (e : j = g) => by omega)
              go_wp2
              obtain rfl := Hl3.out
              refine bodyPost_ret (v := .tuple #[.slice a3 (l3 : List Int).length c3, .int .i64 gap, .int .i64 inner, .int .i64 content]) (by simp [results, Try.results101, go_sem]) rfl ⟨a3, c3, l3, gap, inner, content, rfl, by omega, by simp at hgap; omega, by simp at hinner; omega, owned_ints (B := B) (w := w) hOp (by omega), hm1.thenNew (((hM6.trans hmp).trans hmi).trans hmc) hg⟩
      · go_wp2_with fail
        refine (l01PickLit_any B g w3 hc3 [-1, 1048576, 1048577] _ rfl _ _ rfl (by simp) (by simp)).mono ?_
        rintro e w4 ⟨y, hy, rfl, hc4, hm4⟩
        have hO3 := own_mod hO2 hm4 (fun j hj (e : j = g) => by omega)
        have hM3 := hM2.trans hm4
        have h3 : k + 1 ≤ maxLen := by unfold maxLen; omega
        have h4 : (k + 1) * 8 ≤ 140737488355328 := by omega
        go_wp2_with (first | (at_builtin; refine wpList_append_own _ rfl _ _ 37 rfl w1.heap.size 3 i0 _ 1 8 Try.underlying37 Hi.out Hz0.out Hz1.out Hz2.out rfl (by decide) _ _ _ rfl (hO3.alloc _) ⟨w4.heap.size, 0, none⟩ 1 1 [.int .i64 y] rfl rfl (cells_new _ _ _) (ones_of rfl) h3 h4 (own_room hM3 _) ?_))
        intro v' w5 hown hgrow _
        obtain ⟨a1, c1', hv⟩ := own_form hown
        rw [hv] at hown ⊢
        have hM4 := hM3.appended hO3 (Nat.le_refl _) hgrow
        have hc5 := hc4.appended hO3 hgs hgrow
        have hO4 : w5.ownsRow w1.heap.size 3 1 (.slice a1 (k + 1) c1') (k + 1) ((l ++ [y]).map icell).flatten := by rw [icells_append]; simpa [icell] using hown
        have Hl4 : Hid ((l ++ [y]).length = k + 1) := by show _ = _; rw [List.length_append, Hlk.out]; rfl
        generalize l ++ [y] = l4 at hO4 Hl4
        generalize hk4 : k + 1 = k4 at hO4 Hl4 ⊢
        have hk5 : k4 ≤ 6 := by omega
        clear hv hgrow h3 h4 hown
        go_wp2_with fail
        refine (l01Once_any B g w5 hc5 30 (by omega)).mono ?_
        rintro e wo ⟨bo, rfl, hco, hmo⟩
        have hOo := own_mod hO4 hmo (fun j hj (e : j = g) => by omega)
        have hMo := hM4.trans hmo
        cases bo
        · go_wp2_with fail
          refine (l01PickLit_any B g wo hco [0, 0, 10, 64, -1] _ rfl _ _ rfl (by simp) (by simp)).mono ?_
          rintro e wp ⟨gap, hgap, rfl, hcp, hmp⟩
          go_wp2_with fail
          refine (l01PickLit_any B g wp hcp [0, 640, 1000, 3333, -1] _ rfl _ _ rfl (by simp) (by simp)).mono ?_
          rintro e wi ⟨inner, hinner, rfl, hci, hmi⟩
          go_wp2_with fail
          refine (l01Below_any B g wi hci 8 (by omega)).mono ?_
          rintro e wc ⟨content, hcontent, rfl, hcc, hmc⟩
          have hOp := own_mod (own_mod (own_mod hOo hmp (fun j hj (e : j = g) => by omega)) hmi (fun j hj (e : j = g) => by omega)) hmc (fun j hj (e : j = g) => by omega)
          go_wp2
          obtain rfl := Hl4.out
          refine bodyPost_ret (v := .tuple #[.slice a1 (l4 : List Int).length c1', .int .i64 gap, .int .i64 inner, .int .i64 content]) (by simp [results, Try.results101, go_sem]) rfl ⟨a1, c1', l4, gap, inner, content, rfl, by omega, by simp at hgap; omega, by simp at hinner; omega, owned_ints (B := B) (w := w) hOp (by omega), hm1.thenNew (((hMo.trans hmp).trans hmi).trans hmc) hg⟩
        · go_wp2
          go_loopw [7] (fun v wr => ∃ (k : Nat) (a' : Option Addr) (c' : Nat) (l : List Int), k ≤ 16 ∧ l.length = k ∧ v = .slice a' k c' ∧ wr.ownsRow w1.heap.size 3 1 (.slice a' k c') k (l.map icell).flatten ∧ Cur B 123 wr g ∧ Mod (fun k => k = g) w1 wr) (fun v _ => 16 - lenV v)
          case atStart => exact ⟨_, _, _, l4, by omega, Hl4.out, rfl, hOo, hco, hMo⟩
          case round =>
            obtain ⟨n, a3, c3, l3, hn, hl3, rfl, hO5, hC5, hM5⟩ := hrel
            have Hl3 := hid hl3
            clear hl3
            go_wp2_with fail
            refine (l01Below_any B g _ hC5 2 (by omega)).mono ?_
            rintro e w6 ⟨x6, hx6, rfl, hc6, hm6⟩
            have hO6 := own_mod hO5 hm6 (fun j hj (e : j = g) => by omega)
            have hM6 := hM5.trans hm6
            have hx6' : 0 ≤ x6 ∧ x6 < 2 := by omega
            obtain ⟨hx60, hx61⟩ := hx6'
            by_cases hlt : (n : Int) < 12 + x6
            · have h3 : n + 1 ≤ maxLen := by unfold maxLen; omega
              have h4 : (n + 1) * 8 ≤ 140737488355328 := by omega
              go_wp2_with (first | (at_builtin; refine wpList_append_own _ rfl _ _ 37 rfl w1.heap.size 3 i0 _ 1 8 Try.underlying37 Hi.out Hz0.out Hz1.out Hz2.out rfl (by decide) _ _ _ rfl (hO6.alloc _) ⟨w6.heap.size, 0, none⟩ 1 1 [.int .i64 1] rfl rfl (cells_new _ _ _) (ones_of rfl) h3 h4 (own_room hM6 _) ?_))
              intro v' w7 hown hgrow _
              obtain ⟨a7, c7, hv⟩ := own_form hown
              rw [hv] at hown ⊢
              have hM7 := hM6.appended hO6 (Nat.le_refl _) hgrow
              have hc7 := hc6.appended hO6 hgs hgrow
              clear hv hgrow h3 h4
              go_wp2
              go_roundw
              case rel => exact ⟨n + 1, a7, c7, l3 ++ [1], by omega, by rw [List.length_append, Hl3.out]; rfl, rfl, by rw [icells_append]; simpa [icell] using hown, hc7, hM7⟩
              case measure => simp [lenV]; omega
            · go_wp2_with fail
              refine (l01PickLit_any B g w6 hc6 [0, 0, 10, 64, -1] _ rfl _ _ rfl (by simp) (by simp)).mono ?_
              rintro e wp ⟨gap, hgap, rfl, hcp, hmp⟩
              go_wp2_with fail
              refine (l01PickLit_any B g wp hcp [0, 640, 1000, 3333, -1] _ rfl _ _ rfl (by simp) (by simp)).mono ?_
              rintro e wi ⟨inner, hinner, rfl, hci, hmi⟩
              go_wp2_with fail
              refine (l01Below_any B g wi hci 8 (by omega)).mono ?_
              rintro e wc ⟨content, hcontent, rfl, hcc, hmc⟩
              have hOp := own_mod (own_mod (own_mod hO6 hmp (fun j hj (e : j = g) => by omega)) hmi (fun j hj (e : j = g) => by omega)) hmc (fun j hj (e : j = g) => by omega)
              go_wp2
              obtain rfl := Hl3.out
              refine bodyPost_ret (v := .tuple #[.slice a3 (l3 : List Int).length c3, .int .i64 gap, .int .i64 inner, .int .i64 content]) (by simp [results, Try.results101, go_sem]) rfl ⟨a3, c3, l3, gap, inner, content, rfl, by omega, by simp at hgap; omega, by simp at hinner; omega, owned_ints (B := B) (w := w) hOp (by omega), hm1.thenNew (((hM6.trans hmp).trans hmi).trans hmc) hg⟩

theorem drawStretchLines_any (B : Nat) (w : World) (a : Option Addr) (len cap : Nat) (hB : B ≤ w.heap.size) (hl : len ≤ 1048576) (hy : Bytes B w a len) :
    Calls Try.prog 45 #[.slice a len cap] w (DrewAcross w) := by
  go_enter Try.func45, Try.ntmps45
  go_wp2_with fail
  refine (l16Case_any B w a len cap hB hl hy).mono ?_
  rintro e w1 ⟨a1, c1, l, gap, inner, content, rfl, h1, h2, h3, hs, hm⟩
  go_wp2
  refine bodyPost_ret (v := .tuple #[.slice a1 l.length c1, .int .i64 gap, .int .i64 inner, .int .i64 content]) (by simp [results, Try.results45, go_sem]) rfl ⟨a1, c1, l, gap, inner, content, rfl, h1, h2, h3, hs, hm⟩

end Go.Proofs.Ytefgjjmnjanleaa
