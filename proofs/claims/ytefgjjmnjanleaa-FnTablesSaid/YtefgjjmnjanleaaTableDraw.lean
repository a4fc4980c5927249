/-
  PROVED: the reference's draws of tables: some rules, in a new slice. No condition.
-/
import Derived.Test.YtefgjjmnjanleaaCurReg
import Derived.Test.YtefgjjmnjanleaaTable2
import Derived.Test.YtefgjjmnjanleaaSharesDraw
import Derived.Test.YtefgjjmnjanleaaEvenDraw
import Derived.Test.YtefgjjmnjanleaaRep2
namespace Go.Proofs.Ytefgjjmnjanleaa
open Go.RowKit

/-- Some rules in a new slice, as a table. -/
def OwnRules (b : Nat) (w' : World) (a : Option Addr) (l : List Rule) (c : Nat) : Prop := w'.ownsRow b 32 3 (.slice a l.length c) l.length (l.map Rule.cells).flatten
def DrewTable (B T g : Nat) (w : World) (least most : Nat) (e : Ending) (w' : World) : Prop :=
  ∃ (a : Option Addr) (c : Nat) (l : List Rule), e = .returned (.agg #[.slice a l.length c]) ∧ least ≤ l.length ∧ l.length ≤ most ∧ OwnRules w.heap.size w' a l c ∧ Cur B T w' g ∧ Mod (fun k => k = g) w w'
theorem rules_append (l : List Rule) (x : Rule) : ((l ++ [x]).map Rule.cells).flatten = (l.map Rule.cells).flatten ++ x.cells := by simp

set_option maxRecDepth 100000 in
set_option maxHeartbeats 4000000 in
theorem l09Table_any (B g : Nat) (w : World) (hc : Cur B 123 w g) :
    Calls Try.prog 116 #[.pointer (some ⟨g, 0, none⟩)] w (DrewTable B 123 g w 1 3) := by
  have hgs := hc.size
  have hbg := hc.base
  have Hc := hid hc
  obtain ⟨i0, hi, hz0, hz1, hz2⟩ := info_parts info_Rule
  have Hi := hid hi
  have Hz0 := hid hz0
  have Hz1 := hid hz1
  have Hz2 := hid hz2
  clear hi hz0 hz1 hz2 hc
  go_enter Try.func116, Try.ntmps116
  go_wp2
  go_loopw [4] (fun i wr => ∃ (k : Nat) (a' : Option Addr) (c' : Nat) (l : List Rule), k ≤ 3 ∧ i = .int .i64 k ∧ l.length = k ∧ wr.heap[w.heap.size + 1]? = some (.cells [.slice a' k c'].toArray 26 (0, 0)) ∧ (∃ z : Option Addr, ∃ y d : Nat, wr.heap[w.heap.size]? = some (.cells [.slice z y d].toArray 26 (0, 0))) ∧ wr.ownsRow (w.heap.size + 2) 32 3 (.slice a' k c') k (l.map Rule.cells).flatten ∧ Cur B 123 wr g ∧ Mod (fun k => k = g) w wr) (fun i _ => 3 - (intOf i).toNat)
  case atStart =>
    have hMa : Mod (fun k => k = g) w (w.alloc (.cells #[.slice none 0 0] 26)) := (Mod.refl _ w).alloc _
    have hx0 : ((w.alloc (.cells #[.slice none 0 0] 26)).alloc (.cells [.slice none 0 0].toArray 26)).heap[w.heap.size + 1]? = some (.cells [.slice none 0 0].toArray 26 (0, 0)) := by
      have := heap_alloc_new (w.alloc (.cells #[.slice none 0 0] 26)) (.cells [.slice none 0 0].toArray 26)
      rwa [World.size_alloc] at this
    have hx1 : ((w.alloc (.cells [.slice none 0 0].toArray 26)).alloc (.cells [.slice none 0 0].toArray 26)).heap[w.heap.size]? = some (.cells [.slice none 0 0].toArray 26 (0, 0)) := by
      rw [Below.heap_alloc _ _ _ (by simp)]
      exact heap_alloc_new w _
    exact ⟨0, none, 0, [], by omega, rfl, rfl, hx0, ⟨none, 0, 0, hx1⟩, World.ownsRow_nil _ _ _ _, (Hc.out.alloc _).alloc _, hMa.alloc _⟩
  case round =>
    obtain ⟨k, a', c', l, hk, rfl, hlk, hb1, ⟨z, y, d, hb0⟩, hO, hC, hM⟩ := hrel
    have Hlk := hid hlk
    clear hlk
    go_wp2_with fail
    refine (l01Below_any B g wr hC 3 (by omega)).mono ?_
    rintro e w1 ⟨x, hx, rfl, hCW, hm1⟩
    have hx' : 0 ≤ x ∧ x < 3 := by omega
    obtain ⟨hx0, hx1⟩ := hx'
    have hM1 := hM.trans hm1
    have hO1 := own_mod hO hm1 (fun j hj (e : j = g) => by omega)
    have hB1 := hm1.blk hb1 (fun (e : _ = g) => by omega)
    have hB0 := hm1.blk hb0 (fun (e : _ = g) => by omega)
    have hgW := hCW.size
    clear hx hb1 hb0 hO hC hM hm1
    by_cases hlt : (k : Int) ≤ x
    · have h3 : k + 1 ≤ maxLen := by unfold maxLen; omega
      have h4 : (k + 1) * 24 ≤ 140737488355328 := by omega
      have q0 := holdC (B := B) (T := 123) (g := g) (blk_cell hB1 (j := 0) rfl) (show w.heap.size + 1 ≠ g by omega)
      go_wp2
      refine wp_region_cur_tail hCW 11 (by kernel_rfl) (by kernel_rfl) (by kernel_rfl) ?_
      simp only [List.take_succ_cons, List.take_zero, List.drop_succ_cons, List.drop_zero]
      refine RC.const (v := ?_) (fun _ => rfl) (fun xq wq hSq => ?_) ?_; rotate_left; (focus (go_simp; (first | done | with_reducible rfl))); (try simp only [Act.put, List.setIfInBounds_toArray, List.set_cons_zero, List.set_cons_succ])
      refine RC.const (v := ?_) (fun _ => rfl) (fun xq wq hSq => ?_) ?_; rotate_left; (focus (go_simp; (first | done | with_reducible rfl))); (try simp only [Act.put, List.setIfInBounds_toArray, List.set_cons_zero, List.set_cons_succ])
      refine RC.const (v := ?_) (fun _ => rfl) (fun xq wq hSq => ?_) ?_; rotate_left; (focus (go_simp; (first | done | with_reducible rfl))); (try simp only [Act.put, List.setIfInBounds_toArray, List.set_cons_zero, List.set_cons_succ])
      refine RC.lit hgW (n := ?_) (vals := ?_) (e := ?_) (fun _ => rfl) (fun xq wq hSq => ?_) ?_; rotate_left 3; (focus (go_simp; (first | done | with_reducible rfl | (refine ⟨?_, ?_⟩ <;> with_reducible rfl)))); (try simp only [Act.put, List.setIfInBounds_toArray, List.set_cons_zero, List.set_cons_succ])
      refine RC.draw [3] (p := ?_) (f := ?_) (args := ?_) (by kernel_rfl) (fun _ => rfl) (fun xq wq hSq hKq => ?_) (fun xq wq hSq hKq => ?_) ?_; rotate_left 3; (focus (go_simp; (refine ⟨?_, ?_⟩ <;> with_reducible rfl))); (focus (exact pickIn hSq hgW (l := [-1, 0, 100, 640, 1000]) (hKq _ List.mem_cons_self (by simp)) rfl (by decide) (by decide))); (try simp only [Act.put, List.setIfInBounds_toArray, List.set_cons_zero, List.set_cons_succ])
      refine RC.const (v := ?_) (fun _ => rfl) (fun xq wq hSq => ?_) ?_; rotate_left; (focus (go_simp; (first | done | with_reducible rfl))); (try simp only [Act.put, List.setIfInBounds_toArray, List.set_cons_zero, List.set_cons_succ])
      refine RC.draw [] (p := ?_) (f := ?_) (args := ?_) (by kernel_rfl) (fun _ => rfl) (fun xq wq hSq hKq => ?_) (fun xq wq hSq hKq => ?_) ?_; rotate_left 3; (focus (go_simp; (refine ⟨?_, ?_⟩ <;> with_reducible rfl))); (focus (exact l01Below_any B g _ hSq.2 1500 (by omega))); (try simp only [Act.put, List.setIfInBounds_toArray, List.set_cons_zero, List.set_cons_succ])
      refine RC.const (v := ?_) (fun _ => rfl) (fun xq wq hSq => ?_) ?_; rotate_left; (focus (go_simp; (first | done | with_reducible rfl))); (try simp only [Act.put, List.setIfInBounds_toArray, List.set_cons_zero, List.set_cons_succ])
      refine RC.draw [] (p := ?_) (f := ?_) (args := ?_) (by kernel_rfl) (fun _ => rfl) (fun xq wq hSq hKq => ?_) (fun xq wq hSq hKq => ?_) ?_; rotate_left 3; (focus (go_simp; (refine ⟨?_, ?_⟩ <;> with_reducible rfl))); (focus (exact l01Below_any B g _ hSq.2 600 (by omega))); (try simp only [Act.put, List.setIfInBounds_toArray, List.set_cons_zero, List.set_cons_succ])
      refine RC.val [4, 6, 8] (v := ?_) (by kernel_rfl) (fun _ => rfl) (fun xq wq hSq hKq => ?_) ?_ ?_; rotate_left; (focus (go_simp; (first | done | with_reducible rfl))); (focus (intro xq yq hq; simp only [hq 4 (by decide), hq 6 (by decide), hq 8 (by decide)])); (try simp only [Act.put, List.setIfInBounds_toArray, List.set_cons_zero, List.set_cons_succ])
      refine RC.litSome [4, 6, 8] hgW (fun vals => ∃ r : Rule, vals = r.cells.toArray) (n := ?_) (vals := ?_) (e := ?_) (by kernel_rfl) (fun _ => rfl) (fun xq wq hSq hKq => ?_) (fun xq wq hKq => ?_) ?_; rotate_left 3; (focus (go_simp; (first | done | with_reducible rfl | (refine ⟨?_, ?_⟩ <;> with_reducible rfl)))); (focus (exact ⟨⟨intOf (xq 4), intOf (xq 6), intOf (xq 8)⟩, rfl⟩)); (try simp only [Act.put, List.setIfInBounds_toArray, List.set_cons_zero, List.set_cons_succ])
      refine RC.done (fun xq wq hSq hUq => ?_)
      clear q0
      obtain ⟨b, vals, hv, hb, hbs, ⟨r, rfl⟩, hcl⟩ := (hUq _ List.mem_cons_self).cells
      clear hUq
      simp only at hv
      have hO2 := own_mod hO1 hSq.m (fun j hj (e : j = g) => by omega)
      have hM2 := hM1.trans hSq.m
      have hB2 := hSq.m.blk hB1 (show w.heap.size + 1 ≠ g by omega)
      have hB3 := hSq.m.blk hB0 (show w.heap.size ≠ g by omega)
      have hC2 := hSq.c
      have hroom : w.heap.size + 2 ≤ wq.heap.size := by have := (Array.getElem?_eq_some_iff.1 hB2).1; omega
      simp only [hv]
      clear hSq hM1 hO1 hB1 hB0 hCW
      go_wp2_with (first | (at_builtin; refine wpList_append_own _ rfl _ _ 24 rfl (w.heap.size + 2) 32 i0 _ 3 24 Try.underlying24 Hi.out Hz0.out Hz1.out Hz2.out rfl (by decide) _ _ _ rfl hO2 ⟨b, 0, none⟩ 1 1 [.int .i64 r.room, .int .i64 r.wide, .int .i64 r.high] rfl rfl hcl (ones_of rfl) h3 h4 hroom ?_))
      intro v' w2 hown hgrow _
      obtain ⟨a1, c1', hv'⟩ := own_form hown
      rw [hv'] at hown ⊢
      have hM4 := hM2.appendedAt hO2 (show w.heap.size ≤ w.heap.size + 2 by omega) hgrow
      have hC4 := hC2.appendedAt hO2 (by omega) hgrow
      have hB4 := grown_blk hO2 hgrow hB2 (by omega)
      have hB5 := grown_blk hO2 hgrow hB3 (by omega)
      clear hv' hgrow h3 h4 hM2 hC2 hB2 hB3 hO2 hcl
      have sc0 := blk_cell hB4 (j := 0) rfl
      have sz0 := blk_free hB4 0
      go_wp2
      go_roundw
      case rel =>
        have hM5 : Mod (fun k => k = w.heap.size + 1) w2 (w2.setCell ⟨w.heap.size + 1, 0, none⟩ (.slice a1 (k + 1) c1')) := (Mod.refl _ w2).setAt _ _ _
        refine ⟨k + 1, a1, c1', l ++ [r], by omega, by go_num, by rw [List.length_append, Hlk.out]; rfl, set_blk hB4, ⟨z, y, d, set_far hB5 (by omega)⟩, ?_, hC4.mod hM5 (fun (e : _ = _) => by omega) (fun j hj (e : j = _) => by omega), hM4.setNew (by omega) _ _ _⟩
        rw [rules_append]
        exact own_mod hown hM5 (fun j hj (e : j = _) => by omega)
      case measure => simp [intOf]; omega
    · skip
      have sc0 := blk_cell hB1 (j := 0) rfl
      have sz0 := blk_free hB1 0
      have zc0 := blk_cell hB0 (j := 0) rfl
      have zz0 := blk_free hB0 0
      obtain rfl := Hlk.out
      have hk1 : 1 ≤ l.length := by omega
      go_wp2
      refine bodyPost_ret (v := .agg #[.slice a' l.length c']) (by simp [results, Try.results116, go_sem, *]) rfl ⟨a', c', l, rfl, hk1, hk, ?_, ?_, ?_⟩
      · exact own_base (own_mod hO1 ((Mod.refl (fun j => j = w.heap.size) w1).setAt _ _ _) (fun j hj (e : j = _) => by omega)) (by omega)
      · exact hCW.mod ((Mod.refl (fun j => j = w.heap.size) w1).setAt _ _ _) (fun (e : _ = _) => by omega) (fun j hj (e : j = _) => by omega)
      · exact hM1.setNew (by omega) _ _ _

def lenAt (w : World) (b : Nat) : Nat := match w.cell? ⟨b, 0, none⟩ with
  | some (.slice _ n _) => n
  | _ => 0

set_option maxRecDepth 100000 in
set_option maxHeartbeats 4000000 in
theorem l09Any_any (B g : Nat) (w : World) (hc : Cur B 123 w g) :
    Calls Try.prog 78 #[.pointer (some ⟨g, 0, none⟩)] w (DrewTable B 123 g w 0 8) := by
  have hgs := hc.size
  have hbg := hc.base
  have hca := hc.alloc (.cells #[.slice none 0 0] 26)
  obtain ⟨i0, hi, hz0, hz1, hz2⟩ := info_parts info_Rule
  have Hi := hid hi
  have Hz0 := hid hz0
  have Hz1 := hid hz1
  have Hz2 := hid hz2
  clear hi hz0 hz1 hz2 hc
  go_enter Try.func78, Try.ntmps78
  go_wp2_with fail
  refine (l09Table_any B g _ hca).mono ?_
  rintro e w0 ⟨a, c, l, rfl, hl1, hl3, hO, hcw, hm0⟩
  have hMw : Mod (fun k => k = g) w w0 := ((Mod.refl _ w).alloc _).trans hm0
  have hBr := hm0.blk (heap_alloc_new w (.cells #[.slice none 0 0] 26)) (show w.heap.size ≠ g by omega)
  have hs0 := hm0.size
  rw [World.size_alloc] at hs0
  have hr0 : w.heap.size < w0.heap.size := by omega
  have hO' : w0.ownsRow (w.heap.size + 1) 32 3 (.slice a l.length c) l.length (l.map Rule.cells).flatten := own_base hO (by simp)
  obtain ⟨b, rfl, hb1, hb2⟩ : ∃ b, a = some ⟨b, 0, none⟩ ∧ w.heap.size + 1 ≤ b ∧ b < w0.heap.size := by
    rcases own_parts hO' with h | ⟨b, e, h1, h2, _⟩
    · omega
    · exact ⟨b, e, h1, h2⟩
  clear hO hca hm0
  go_wp2_with fail
  have hk := hcw.alloc (.cells #[.slice (some ⟨b, 0, none⟩) l.length c] 26)
  refine (l01Below_any B g _ hk 10 (by omega)).mono ?_
  rintro e w1 ⟨x, hx, rfl, hCW, hm1⟩
  have hM1 : Mod (fun k => k = g) w w1 := (hMw.alloc _).trans hm1
  have hcs := hcw.size
  have hB1 := hm1.blk (heap_alloc_new w0 (.cells [.slice (some ⟨b, 0, none⟩) l.length c].toArray 26)) (show w0.heap.size ≠ g by omega)
  have hB0 : w1.heap[w.heap.size]? = some (.cells [.slice none 0 0].toArray 26 (0, 0)) := hm1.blk (by rw [Below.heap_alloc _ _ _ hr0]; exact hBr) (show w.heap.size ≠ g by omega)
  have hO1 := own_mod (own_mod hO' ((Mod.refl (fun _ => False) w0).alloc (.cells #[.slice (some ⟨b, 0, none⟩) l.length c] 26)) (fun _ _ f => f)) hm1 (fun j hj (e : j = g) => by omega)
  have hgW := hCW.size
  have hb3 : b ≠ w0.heap.size := by omega
  have hb4 : w0.heap.size ≠ b := by omega
  have hb5 : b ≠ w.heap.size := by omega
  have hb6 : w.heap.size ≠ b := by omega
  have hs1 := hm1.size
  rw [World.size_alloc] at hs1
  have hr1 : w0.heap.size < w1.heap.size := by omega
  have hr2 : w.heap.size < w1.heap.size := by omega
  obtain ⟨gt, hgt⟩ : ∃ gt, gt = w0.heap.size := ⟨_, rfl⟩
  rw [← hgt] at hB1 hr0 hr1 hs1 hs0 hb2 hb3 hb4 ⊢
  have q0 := holdC (B := B) (T := 123) (g := g) (blk_cell hB1 (j := 0) rfl) (show gt ≠ g by omega)
  clear hMw hBr hk hcw hm1 hO' hcs hgt
  by_cases h0 : x = 0
  · have hz : (x == 0) = true := by simpa using h0
    go_wp2
    refine wp_region_cur_tail hCW 4 (by kernel_rfl) (by kernel_rfl) (by kernel_rfl) ?_
    simp only [List.take_succ_cons, List.take_zero, List.drop_succ_cons, List.drop_zero]
    refine RC.const (v := ?_) (fun _ => rfl) (fun xq wq hSq => ?_) ?_; rotate_left; (focus (go_simp; (first | done | with_reducible rfl))); (try simp only [Act.put, List.setIfInBounds_toArray, List.set_cons_zero, List.set_cons_succ])
    refine RC.const (v := ?_) (fun _ => rfl) (fun xq wq hSq => ?_) ?_; rotate_left; (focus (go_simp; (first | done | with_reducible rfl))); (try simp only [Act.put, List.setIfInBounds_toArray, List.set_cons_zero, List.set_cons_succ])
    refine RC.const (v := ?_) (fun _ => rfl) (fun xq wq hSq => ?_) ?_; rotate_left; (focus (go_simp; (first | done | with_reducible rfl))); (try simp only [Act.put, List.setIfInBounds_toArray, List.set_cons_zero, List.set_cons_succ])
    refine RC.draw [] (p := ?_) (f := ?_) (args := ?_) (by kernel_rfl) (fun _ => rfl) (fun xq wq hSq hKq => ?_) (fun xq wq hSq hKq => ?_) ?_; rotate_left 3; (focus (go_simp; (refine ⟨?_, ?_⟩ <;> with_reducible rfl))); (focus (exact l02Int_any B g _ hSq.c)); (try simp only [Act.put, List.setIfInBounds_toArray, List.set_cons_zero, List.set_cons_succ])
    refine RC.done (fun xq wq hSq hUq => ?_)
    obtain ⟨z, hz1, _⟩ := hUq _ List.mem_cons_self
    simp only at hz1
    simp only [hz1, Dint, intOf]
    have hO2 := own_mod hO1 hSq.m (fun j hj (e : j = g) => by omega)
    have hM2 := hM1.trans hSq.m
    have hB2 := hSq.m.blk hB1 (show gt ≠ g by omega)
    have hB3 := hSq.m.blk hB0 (show w.heap.size ≠ g by omega)
    have hC2 := hSq.c
    clear hSq hM1 hO1 hB1 hB0 hCW hUq hz1
    obtain ⟨r, l', rfl⟩ : ∃ r l', l = r :: l' := by
      cases l with
      | nil => simp at hl1
      | cons r l' => exact ⟨r, l', rfl⟩
    obtain ⟨hbs, hcl, hfr, hset⟩ := own_at hO2 (by simp)
    have c0 := hcl 0 _ rfl
    have z0 := hfr 0
    have sc0 := blk_cell hB2 (j := 0) rfl
    have sz0 := blk_free hB2 0
    have yc0 := blk_cell hB3 (j := 0) rfl
    have yz0 := blk_free hB3 0
    have hset1 := hset 0 (.int .i64 z) (by simp [Rule.cells])
    clear hcl hfr hset
    have hl0 : (0 : Nat) < (r :: l').length := by simp
    go_wp2
    refine bodyPost_ret (v := .agg #[.slice (some ⟨b, 0, none⟩) (r :: l').length c]) (by simp [results, Try.results78, go_sem, *]) rfl ⟨some ⟨b, 0, none⟩, c, ({ r with room := z } : Rule) :: l', rfl, by simp, by simp at hl3 ⊢; omega, ?_, ?_, ?_⟩
    · exact own_base (own_mod hset1 ((Mod.refl (fun j => j = w.heap.size) _).setAt _ _ _) (fun j hj (e : j = _) => by omega)) (by omega)
    · exact (hC2.mod ((Mod.refl (fun j => j = b) wq).setAt _ _ _) (fun (e : _ = _) => by omega) (fun j hj (e : j = _) => by omega)).mod ((Mod.refl (fun j => j = w.heap.size) _).setAt _ _ _) (fun (e : _ = _) => by omega) (fun j hj (e : j = _) => by omega)
    · exact (hM2.setNew (by omega) _ _ _).setNew (by omega) _ _ _
  · have h0' : (x == 0) = false := by simpa using h0
    by_cases h1 : x = 1
    · have hz : (x == 1) = true := by simpa using h1
      go_wp2
      refine wp_region_cur_tail hCW 4 (by kernel_rfl) (by kernel_rfl) (by kernel_rfl) ?_
      simp only [List.take_succ_cons, List.take_zero, List.drop_succ_cons, List.drop_zero]
      refine RC.const (v := ?_) (fun _ => rfl) (fun xq wq hSq => ?_) ?_; rotate_left; (focus (go_simp; (first | done | with_reducible rfl))); (try simp only [Act.put, List.setIfInBounds_toArray, List.set_cons_zero, List.set_cons_succ])
      refine RC.const (v := ?_) (fun _ => rfl) (fun xq wq hSq => ?_) ?_; rotate_left; (focus (go_simp; (first | done | with_reducible rfl))); (try simp only [Act.put, List.setIfInBounds_toArray, List.set_cons_zero, List.set_cons_succ])
      refine RC.const (v := ?_) (fun _ => rfl) (fun xq wq hSq => ?_) ?_; rotate_left; (focus (go_simp; (first | done | with_reducible rfl))); (try simp only [Act.put, List.setIfInBounds_toArray, List.set_cons_zero, List.set_cons_succ])
      refine RC.draw [] (p := ?_) (f := ?_) (args := ?_) (by kernel_rfl) (fun _ => rfl) (fun xq wq hSq hKq => ?_) (fun xq wq hSq hKq => ?_) ?_; rotate_left 3; (focus (go_simp; (refine ⟨?_, ?_⟩ <;> with_reducible rfl))); (focus (exact l02Int_any B g _ hSq.c)); (try simp only [Act.put, List.setIfInBounds_toArray, List.set_cons_zero, List.set_cons_succ])
      refine RC.done (fun xq wq hSq hUq => ?_)
      obtain ⟨z, hz1, _⟩ := hUq _ List.mem_cons_self
      simp only at hz1
      simp only [hz1, Dint, intOf]
      have hO2 := own_mod hO1 hSq.m (fun j hj (e : j = g) => by omega)
      have hM2 := hM1.trans hSq.m
      have hB2 := hSq.m.blk hB1 (show gt ≠ g by omega)
      have hB3 := hSq.m.blk hB0 (show w.heap.size ≠ g by omega)
      have hC2 := hSq.c
      clear hSq hM1 hO1 hB1 hB0 hCW hUq hz1
      obtain ⟨r, l', rfl⟩ : ∃ r l', l = r :: l' := by
        cases l with
        | nil => simp at hl1
        | cons r l' => exact ⟨r, l', rfl⟩
      obtain ⟨hbs, hcl, hfr, hset⟩ := own_at hO2 (by simp)
      have c0 := hcl 1 _ rfl
      have z0 := hfr 1
      have sc0 := blk_cell hB2 (j := 0) rfl
      have sz0 := blk_free hB2 0
      have yc0 := blk_cell hB3 (j := 0) rfl
      have yz0 := blk_free hB3 0
      have hset1 := hset 1 (.int .i64 z) (by simp [Rule.cells])
      clear hcl hfr hset
      have hl0 : (0 : Nat) < (r :: l').length := by simp
      go_wp2
      refine bodyPost_ret (v := .agg #[.slice (some ⟨b, 0, none⟩) (r :: l').length c]) (by simp [results, Try.results78, go_sem, *]) rfl ⟨some ⟨b, 0, none⟩, c, ({ r with wide := z } : Rule) :: l', rfl, by simp, by simp at hl3 ⊢; omega, ?_, ?_, ?_⟩
      · exact own_base (own_mod hset1 ((Mod.refl (fun j => j = w.heap.size) _).setAt _ _ _) (fun j hj (e : j = _) => by omega)) (by omega)
      · exact (hC2.mod ((Mod.refl (fun j => j = b) wq).setAt _ _ _) (fun (e : _ = _) => by omega) (fun j hj (e : j = _) => by omega)).mod ((Mod.refl (fun j => j = w.heap.size) _).setAt _ _ _) (fun (e : _ = _) => by omega) (fun j hj (e : j = _) => by omega)
      · exact (hM2.setNew (by omega) _ _ _).setNew (by omega) _ _ _
    · have h1' : (x == 1) = false := by simpa using h1
      by_cases h2 : x = 2
      · have h2' : (x == 2) = true := by simpa using h2
        have sc0 := blk_cell hB1 (j := 0) rfl
        have sz0 := blk_free hB1 0
        have yc0 := blk_cell hB0 (j := 0) rfl
        have yz0 := blk_free hB0 0
        go_wp2
        refine bodyPost_ret (v := .agg #[.slice (some ⟨w1.heap.size, 0, none⟩) 0 0]) (by simp [results, Try.results78, go_sem, *]) rfl ⟨some ⟨w1.heap.size, 0, none⟩, 0, [], rfl, by simp, by simp, ?_, ?_, ?_⟩
        · have q := World.ownsRow_made (e := 32) (size := 3) (base := w.heap.size) ((w1.setCell ⟨gt, 0, none⟩ (.slice (some ⟨w1.heap.size, 0, none⟩) 0 0)).setCell ⟨w.heap.size, 0, none⟩ (.slice (some ⟨w1.heap.size, 0, none⟩) 0 0)) #[] 0 (by simp; omega) (by unfold maxLen; omega) rfl
          simpa [OwnRules] using q
        · exact ((hCW.mod ((Mod.refl (fun j => j = gt) _).setAt _ _ _) (fun (e : _ = _) => by omega) (fun j hj (e : j = _) => by omega)).mod ((Mod.refl (fun j => j = w.heap.size) _).setAt _ _ _) (fun (e : _ = _) => by omega) (fun j hj (e : j = _) => by omega)).alloc _
        · exact ((hM1.setNew (by omega) _ _ _).setNew (by omega) _ _ _).alloc _
      · have h2' : (x == 2) = false := by simpa using h2
        by_cases h3 : x = 3
        · have h3' : (x == 3) = true := by simpa using h3
          clear q0
          go_wp2
          go_loopw [] (fun wr => ∃ (a' : Option Addr) (c' : Nat) (l : List Rule), l.length ≤ 8 ∧ wr.heap[gt]? = some (.cells [.slice a' l.length c'].toArray 26 (0, 0)) ∧ wr.heap[w.heap.size]? = some (.cells [.slice none 0 0].toArray 26 (0, 0)) ∧ wr.ownsRow (w.heap.size + 1) 32 3 (.slice a' l.length c') l.length (l.map Rule.cells).flatten ∧ Cur B 123 wr g ∧ Mod (fun k => k = g) w wr) (fun wr => 8 - lenAt wr gt)
          case atStart => exact ⟨some ⟨b, 0, none⟩, c, l, by omega, hB1, hB0, hO1, hCW, hM1⟩
          case round =>
            obtain ⟨a2, c2, l2, hl2, hT, hZ, hO2, hC2, hM2⟩ := hrel
            have q1 := holdC (B := B) (T := 123) (g := g) (blk_cell hT (j := 0) rfl) (show gt ≠ g by omega)
            have hCW2 := hC2
            have hgW2 := hC2.size
            have hlen : lenAt wr gt = l2.length := by unfold lenAt; rw [blk_cell hT (j := 0) rfl]
            have Hlen := hid hlen
            clear hlen hCW hgW hC2 hB1 hB0 hO1 hM1
            have hCW := hCW2
            have hgW := hgW2
            clear hCW2 hgW2
            go_wp2
            refine wp_region_cur hCW (by kernel_rfl) (by kernel_rfl) ?_
            refine RC.const (v := ?_) (fun _ => rfl) (fun xq wq hSq => ?_) ?_; rotate_left; (focus (go_simp; (first | done | with_reducible rfl))); (try simp only [Act.put, List.setIfInBounds_toArray, List.set_cons_zero, List.set_cons_succ])
            refine RC.const (v := ?_) (fun _ => rfl) (fun xq wq hSq => ?_) ?_; rotate_left; (focus (go_simp; (first | done | with_reducible rfl))); (try simp only [Act.put, List.setIfInBounds_toArray, List.set_cons_zero, List.set_cons_succ])
            refine RC.const (v := ?_) (fun _ => rfl) (fun xq wq hSq => ?_) ?_; rotate_left; (focus (go_simp; (first | done | with_reducible rfl))); (try simp only [Act.put, List.setIfInBounds_toArray, List.set_cons_zero, List.set_cons_succ])
            refine RC.const (v := ?_) (fun _ => rfl) (fun xq wq hSq => ?_) ?_; rotate_left; (focus (go_simp; (first | done | with_reducible rfl))); (try simp only [Act.put, List.setIfInBounds_toArray, List.set_cons_zero, List.set_cons_succ])
            refine RC.draw [] (p := ?_) (f := ?_) (args := ?_) (by kernel_rfl) (fun _ => rfl) (fun xq wq hSq hKq => ?_) (fun xq wq hSq hKq => ?_) ?_; rotate_left 3; (focus (go_simp; (refine ⟨?_, ?_⟩ <;> with_reducible rfl))); (focus (exact l01Below_any B g _ hSq.c 2 (by omega))); (try simp only [Act.put, List.setIfInBounds_toArray, List.set_cons_zero, List.set_cons_succ])
            refine RC.val [4] (v := ?_) (by kernel_rfl) (fun _ => rfl) (fun xq wq hSq hKq => ?_) ?_ ?_; rotate_left; (focus (go_simp; (first | done | with_reducible rfl))); (focus (intro xq yq hq; simp only [hq 4 (by decide)])); (try simp only [Act.put, List.setIfInBounds_toArray, List.set_cons_zero, List.set_cons_succ])
            refine RC.val [4] (v := ?_) (by kernel_rfl) (fun _ => rfl) (fun xq wq hSq hKq => ?_) ?_ ?_; rotate_left; (focus (go_simp; (first | done | with_reducible rfl))); (focus (intro xq yq hq; simp only [hq 4 (by decide)])); (try simp only [Act.put, List.setIfInBounds_toArray, List.set_cons_zero, List.set_cons_succ])
            refine RC.done (fun xq wq hSq hUq => ?_)
            obtain ⟨z, hz1, hz2⟩ := hUq _ List.mem_cons_self
            simp only at hz1
            have hz3 : 0 ≤ z ∧ z < 2 := by omega
            obtain ⟨hz3, hz4⟩ := hz3
            have hwr : IntKind.i64.wrap (6 + z) = 6 + z := IntWalk.i64_in _ (by omega)
            simp only [hz1, Dint, intOf, hwr]
            have hO3 := own_mod hO2 hSq.m (fun j hj (e : j = g) => by omega)
            have hM3 := hM2.trans hSq.m
            have hT3 := hSq.m.blk hT (show gt ≠ g by omega)
            have hZ3 := hSq.m.blk hZ (show w.heap.size ≠ g by omega)
            have hC3 := hSq.c
            have hs3 := hSq.m.size
            have hr3 : gt < wq.heap.size := by have := (Array.getElem?_eq_some_iff.1 hT3).1; omega
            have hr4 : w.heap.size < wq.heap.size := by omega
            clear hSq hM2 hO2 hT hZ hCW hUq hz1 hz2 q1 hwr
            by_cases hlt : (l2.length : Int) < 6 + z
            · have h3 : l2.length + 1 ≤ maxLen := by unfold maxLen; omega
              have h4 : (l2.length + 1) * 24 ≤ 140737488355328 := by omega
              have sc0 := blk_cell hT3 (j := 0) rfl
              have sz0 := blk_free hT3 0
              go_wp2_with (first | (at_builtin; refine wpList_append_own _ rfl _ _ 24 rfl (w.heap.size + 1) 32 i0 _ 3 24 Try.underlying24 Hi.out Hz0.out Hz1.out Hz2.out rfl (by decide) _ _ _ rfl (hO3.alloc _) ⟨wq.heap.size, 0, none⟩ 1 1 [.int .i64 0, .int .i64 0, .int .i64 0] rfl rfl (cells_new _ _ _) (ones_of rfl) h3 h4 (room_alloc (by omega) _) ?_))
              intro v' w4 hown hgrow _
              obtain ⟨a4, c4, hv'⟩ := own_form hown
              rw [hv'] at hown ⊢
              have hM4 := hM3.appended hO3 (show w.heap.size ≤ w.heap.size + 1 by omega) hgrow
              have hC4 := hC3.appended hO3 (by omega) hgrow
              have hZ4 := grown_blk_at (hO3.alloc _) hgrow (heap_alloc_keep hZ3) (by decide)
              have hT4 := grown_blk_at (hO3.alloc _) hgrow (heap_alloc_keep hT3) (by decide)
              clear hv' hgrow h3 h4 hM3 hC3 hT3 hZ3 hO3
              have vc0 := blk_cell hT4 (j := 0) rfl
              have vz0 := blk_free hT4 0
              go_wp2
              go_roundw
              case rel =>
                have hM5 : Mod (fun j => j = gt) w4 (w4.setCell ⟨gt, 0, none⟩ (.slice a4 (l2.length + 1) c4)) := (Mod.refl _ w4).setAt _ _ _
                have hw4 : w.heap.size < w4.heap.size := by have := (Array.getElem?_eq_some_iff.1 hZ4).1; omega
                refine ⟨a4, c4, l2 ++ [⟨0, 0, 0⟩], by simp; omega, by rw [List.length_append]; exact set_blk hT4, set_far hZ4 (by omega), ?_, hC4.mod hM5 (fun (e : _ = _) => by omega) (fun j hj (e : j = _) => by omega), hM4.setNew (by omega) _ _ _⟩
                rw [rules_append, List.length_append]
                exact own_keep hown hM5 (fun b' e (h : b' = gt) => by subst e; exact own_ne hown hT4 (by decide) h)
              case measure =>
                have e1 : lenAt (w4.setCell ⟨gt, 0, none⟩ (.slice a4 (l2.length + 1) c4)) gt = l2.length + 1 := by unfold lenAt; rw [blk_cell (set_blk hT4) (j := 0) rfl]
                rw [e1, Hlen.out]
                omega
            · skip
              have sc0 := blk_cell hT3 (j := 0) rfl
              have sz0 := blk_free hT3 0
              have yc0 := blk_cell hZ3 (j := 0) rfl
              have yz0 := blk_free hZ3 0
              go_wp2
              refine bodyPost_ret (v := .agg #[.slice a2 l2.length c2]) (by simp [results, Try.results78, go_sem, *]) rfl ⟨a2, c2, l2, rfl, by omega, by omega, ?_, ?_, ?_⟩
              · exact own_base (own_mod hO3 ((Mod.refl (fun j => j = w.heap.size) _).setAt _ _ _) (fun j hj (e : j = _) => by omega)) (by omega)
              · exact hC3.mod ((Mod.refl (fun j => j = w.heap.size) _).setAt _ _ _) (fun (e : _ = _) => by omega) (fun j hj (e : j = _) => by omega)
              · exact hM3.setNew (by omega) _ _ _
        · have h3' : (x == 3) = false := by simpa using h3
          have sc0 := blk_cell hB1 (j := 0) rfl
          have sz0 := blk_free hB1 0
          have yc0 := blk_cell hB0 (j := 0) rfl
          have yz0 := blk_free hB0 0
          go_wp2
          refine bodyPost_ret (v := .agg #[.slice (some ⟨b, 0, none⟩) l.length c]) (by simp [results, Try.results78, go_sem, *]) rfl ⟨some ⟨b, 0, none⟩, c, l, rfl, by omega, by omega, ?_, ?_, ?_⟩
          · exact own_base (own_mod hO1 ((Mod.refl (fun j => j = w.heap.size) _).setAt _ _ _) (fun j hj (e : j = _) => by omega)) (by omega)
          · exact hCW.mod ((Mod.refl (fun j => j = w.heap.size) _).setAt _ _ _) (fun (e : _ = _) => by omega) (fun j hj (e : j = _) => by omega)
          · exact hM1.setNew (by omega) _ _ _

end Go.Proofs.Ytefgjjmnjanleaa
