/-
  PROVED: for every list of bytes the law FnTables returns true. Conditions: none.
-/
import Derived.Test.YtefgjjmnjanleaaTableDraw2
import Derived.Test.YtefgjjmnjanleaaTable3
import Derived.Test.YtefgjjmnjanleaaTable4
import Derived.Test.YtefgjjmnjanleaaBig
import Derived.Test.YtefgjjmnjanleaaSame
import Derived.Test.YtefgjjmnjanleaaRows
import Derived.ProofKit
import Derived.OpenShut
import Derived.ShutString
import Derived.ChangeOld
namespace Go.Proofs.Ytefgjjmnjanleaa
open Go.RowKit

theorem NewSlice.copy {α : Type} {cells : α → List Value} {e sz : Nat} {w w' W : World} {l : List α} {en : Ending} (h : NewSlice e sz w l.length (l.map cells).flatten en w') (hc : ∀ x, (cells x).length = sz) (hsz : sz ≠ 0) (hW : W.heap.size ≤ w.heap.size) :
    ∃ v, en = .returned v ∧ CopyAt cells sz W l w' v ∧ Kept w w' := by
  obtain ⟨a, c, rfl, hO, hm⟩ := h
  obtain ⟨rows, q1, q2⟩ := own_slice hO hc hsz
  exact ⟨_, rfl, ⟨a, c, rfl, rows, q1.weaken fun k _ (hk : _ ≤ k) => Nat.le_trans hW hk, q2⟩, hm⟩
theorem CopyAt.keep {α : Type} {cells : α → List Value} {sz : Nat} {W w w' : World} {l : List α} {v : Value} (h : CopyAt cells sz W l w v) (hm : Kept w w') : CopyAt cells sz W l w' v := by
  obtain ⟨a, c, h1, h2⟩ := h
  exact ⟨a, c, h1, h2.flatKeep hm⟩
theorem wanted50 : wantedOf [⟨100, 80, 10⟩, ⟨0, 40, 20⟩] 50 = (40, 20) := by decide
theorem lit_rules (w : World) (x y : Rule) : RuleSlice (fun k => w.heap.size ≤ k) (w.alloc (.cells #[.int .i64 x.room, .int .i64 x.wide, .int .i64 x.high, .int .i64 y.room, .int .i64 y.wide, .int .i64 y.high] 32)) (some ⟨w.heap.size, 0, none⟩) [x, y] := by
  have hb : (w.alloc (.cells #[.int .i64 x.room, .int .i64 x.wide, .int .i64 x.high, .int .i64 y.room, .int .i64 y.wide, .int .i64 y.high] 32)).heap[w.heap.size]? = some (.cells ([x, y].map Rule.cells).flatten.toArray 32 (0, 0)) := heap_alloc_new w _
  obtain ⟨rows, h1, h2, h3⟩ := flat_of_blk (cells := Rule.cells) (sz := 3) hb (fun _ => rfl)
  exact ⟨rows, h1.weaken fun k _ (hk : k = w.heap.size) => by show w.heap.size ≤ k; omega, h2, h3⟩

set_option maxRecDepth 100000 in
set_option maxHeartbeats 4000000 in
theorem fnTables_walk (w : World) (a : Option Addr) (len cap : Nat) (hlen : len ≤ 9223372036854775807) (hy : Bytes w.heap.size w a len) :
    Calls Try.prog 3 #[.slice a len cap] w fun e w' => e = .returned (.bool true) ∧ Mod (fun _ => False) w w' := by
  by_cases hl : 1048576 < len
  · have hd : decide (1048576 < len) = true := by simpa using hl
    go_enter Try.func3, Try.ntmps3
    go_wp2_with (first | (go_at_call 9; refine (tooBig_any _ _ _ hlen _).mono ?_; rintro e w' ⟨rfl, rfl⟩))
    go_ret
    exact ⟨rfl, Mod.refl _ _⟩
  · have hd : decide (1048576 < len) = false := by simpa using hl
    have Hy := hid hy
    clear hy
    go_enter Try.func3, Try.ntmps3
    go_wp2_with fail
    refine (tooBig_any _ _ _ hlen _).mono ?_
    rintro e w' ⟨rfl, rfl⟩
    go_wp2_with fail
    refine (drawWantedOf_any w.heap.size w a len cap (Nat.le_refl _) (by omega) Hy.out).mono ?_
    rintro e w1 ⟨a1, c1, l, room, rfl, hl1, hs1, hm1⟩
    clear hd hlen
    have H1 := hid (hs1.flatKeep ((Mod.refl _ w1).alloc (boxT a1 l.length c1)))
    have hB1 := heap_alloc_new w1 (.cells [Value.slice a1 l.length c1].toArray 26)
    obtain ⟨q, hq⟩ : ∃ q, q = ruleFor l room := ⟨_, rfl⟩
    have Hq := hid hq
    obtain ⟨⟨x0, x1, x2⟩, ok⟩ := q
    clear hq hs1
    go_wp2_with fail
    refine (wantedOf_any l room a1 c1 _ _ (by omega) H1.out).mono ?_
    rintro e w2 ⟨rfl, hm2⟩
    have H2 := hid (H1.out.flatKeep hm2)
    have hB2 := hm2.blk hB1 (fun f => f)
    have hM2 : Mod (fun _ => False) w w2 := (hm1.alloc _).thenNone hm2
    have hr0 : w1.heap.size < w2.heap.size := (Array.getElem?_eq_some_iff.1 hB2).1
    obtain ⟨gt, hgt⟩ : ∃ gt, gt = w1.heap.size := ⟨_, rfl⟩
    have hgw : w.heap.size ≤ gt := by have := hm1.size; omega
    rw [← hgt] at hB2 hr0 ⊢
    have sc0 := blk_cell hB2 (j := 0) rfl
    have sz0 := blk_free hB2 0
    clear hB1 hm1 hm2 H1 hgt
    go_wp2_with fail
    refine (swantedOf_any l room a1 c1 _ _ (by omega) H2.out).mono ?_
    rintro e w3 ⟨rfl, hm3⟩
    have H3 := hid (H2.out.flatKeep hm3)
    have hB3 := hm3.blk hB2 (fun f => f)
    have hM3 := hM2.thenNone hm3
    have hr1 : gt < w3.heap.size := (Array.getElem?_eq_some_iff.1 hB3).1
    clear hB2 hm3 H2 hM2 hr0 sc0 sz0
    have sc0 := blk_cell hB3 (j := 0) rfl
    have sz0 := blk_free hB3 0
    go_wp2_with fail
    have hcall := ruleFor_any l room a1 c1 _ w3 (by omega) H3.out
    rw [← Hq.out] at hcall
    simp only [Rule.cells] at hcall
    refine hcall.mono ?_
    rintro e w4 ⟨rfl, hm4⟩
    have hR4 := heap_alloc_new w4 (.cells [Value.int .i64 x0, .int .i64 x1, .int .i64 x2].toArray 32)
    have hB4 := heap_alloc_keep (o := .cells [Value.int .i64 x0, .int .i64 x1, .int .i64 x2].toArray 32) (hm4.blk hB3 (fun f => f))
    have hM3' := hM3.thenNone hm4
    have H4 := hid (H3.out.flatKeep (hm4.alloc (.cells [Value.int .i64 x0, .int .i64 x1, .int .i64 x2].toArray 32)))
    have hM4 := (hM3.thenNone hm4).alloc (.cells [Value.int .i64 x0, .int .i64 x1, .int .i64 x2].toArray 32)
    have hlr : (l.map fun x => x.room).length ≤ 8 := by rw [List.length_map]; exact hl1
    have q0 := hold (blk_cell hB4 (j := 0) rfl)
    clear hcall hB3 H3 hM3 hr1 sc0 sz0
    go_wp2
    refine wp_region_mod (by kernel_rfl) (by kernel_rfl) ?_
    refine RM.const (v := ?_) (fun _ => rfl) (fun xq wq hSq => ?_) ?_; rotate_left; (focus (go_simp; (first | done | with_reducible rfl))); (try simp only [Act.put, List.setIfInBounds_toArray, List.set_cons_zero, List.set_cons_succ])
    refine RM.const (v := ?_) (fun _ => rfl) (fun xq wq hSq => ?_) ?_; rotate_left; (focus (go_simp; (first | done | with_reducible rfl))); (try simp only [Act.put, List.setIfInBounds_toArray, List.set_cons_zero, List.set_cons_succ])
    refine RM.const (v := ?_) (fun _ => rfl) (fun xq wq hSq => ?_) ?_; rotate_left; (focus (go_simp; (first | done | with_reducible rfl))); (try simp only [Act.put, List.setIfInBounds_toArray, List.set_cons_zero, List.set_cons_succ])
    refine RM.const (v := ?_) (fun _ => rfl) (fun xq wq hSq => ?_) ?_; rotate_left; (focus (go_simp; (first | done | with_reducible rfl))); (try simp only [Act.put, List.setIfInBounds_toArray, List.set_cons_zero, List.set_cons_succ])
    refine RM.const (v := ?_) (fun _ => rfl) (fun xq wq hSq => ?_) ?_; rotate_left; (focus (go_simp; (first | done | with_reducible rfl))); (try simp only [Act.put, List.setIfInBounds_toArray, List.set_cons_zero, List.set_cons_succ])
    refine RM.const (v := ?_) (fun _ => rfl) (fun xq wq hSq => ?_) ?_; rotate_left; (focus (go_simp; (first | done | with_reducible rfl))); (try simp only [Act.put, List.setIfInBounds_toArray, List.set_cons_zero, List.set_cons_succ])
    refine RM.const (v := ?_) (fun _ => rfl) (fun xq wq hSq => ?_) ?_; rotate_left; (focus (go_simp; (first | done | with_reducible rfl))); (try simp only [Act.put, List.setIfInBounds_toArray, List.set_cons_zero, List.set_cons_succ])
    refine RM.const (v := ?_) (fun _ => rfl) (fun xq wq hSq => ?_) ?_; rotate_left; (focus (go_simp; (first | done | with_reducible rfl))); (try simp only [Act.put, List.setIfInBounds_toArray, List.set_cons_zero, List.set_cons_succ])
    refine RM.const (v := ?_) (fun _ => rfl) (fun xq wq hSq => ?_) ?_; rotate_left; (focus (go_simp; (first | done | with_reducible rfl))); (try simp only [Act.put, List.setIfInBounds_toArray, List.set_cons_zero, List.set_cons_succ])
    refine RM.const (v := ?_) (fun _ => rfl) (fun xq wq hSq => ?_) ?_; rotate_left; (focus (go_simp; (first | done | with_reducible rfl))); (try simp only [Act.put, List.setIfInBounds_toArray, List.set_cons_zero, List.set_cons_succ])
    refine RM.callc (v := ?_) (f := ?_) (args := ?_) (fun _ => rfl) (fun xq wq hSq => ?_) (fun wq hSq => ?_) ?_; rotate_left 3; (focus (go_simp; (refine ⟨?_, ?_⟩ <;> with_reducible rfl))); (focus (exact tableOk_any l a1 c1 _ _ (by omega) (H4.out.flatKeep hSq))); (try simp only [Act.put, List.setIfInBounds_toArray, List.set_cons_zero, List.set_cons_succ])
    refine RM.const (v := ?_) (fun _ => rfl) (fun xq wq hSq => ?_) ?_; rotate_left; (focus (go_simp; (first | done | with_reducible rfl))); (try simp only [Act.put, List.setIfInBounds_toArray, List.set_cons_zero, List.set_cons_succ])
    refine RM.callc (v := ?_) (f := ?_) (args := ?_) (fun _ => rfl) (fun xq wq hSq => ?_) (fun wq hSq => ?_) ?_; rotate_left 3; (focus (go_simp; (refine ⟨?_, ?_⟩ <;> with_reducible rfl))); (focus (exact stableOk_any l a1 c1 _ _ (by omega) (H4.out.flatKeep hSq))); (try simp only [Act.put, List.setIfInBounds_toArray, List.set_cons_zero, List.set_cons_succ])
    refine RM.const (v := ?_) (fun _ => rfl) (fun xq wq hSq => ?_) ?_; rotate_left; (focus (go_simp; (first | done | with_reducible rfl))); (try simp only [Act.put, List.setIfInBounds_toArray, List.set_cons_zero, List.set_cons_succ])
    refine RM.const (v := ?_) (fun _ => rfl) (fun xq wq hSq => ?_) ?_; rotate_left; (focus (go_simp; (first | done | with_reducible rfl))); (try simp only [Act.put, List.setIfInBounds_toArray, List.set_cons_zero, List.set_cons_succ])
    refine RM.const (v := ?_) (fun _ => rfl) (fun xq wq hSq => ?_) ?_; rotate_left; (focus (go_simp; (first | done | with_reducible rfl))); (try simp only [Act.put, List.setIfInBounds_toArray, List.set_cons_zero, List.set_cons_succ])
    refine RM.const (v := ?_) (fun _ => rfl) (fun xq wq hSq => ?_) ?_; rotate_left; (focus (go_simp; (first | done | with_reducible rfl))); (try simp only [Act.put, List.setIfInBounds_toArray, List.set_cons_zero, List.set_cons_succ])
    refine RM.new (f := ?_) (args := ?_) [] (CopyAt icell 1 (w4.alloc (.cells [Value.int .i64 x0, .int .i64 x1, .int .i64 x2].toArray 32)) (l.map fun x => x.room)) (by kernel_rfl) (fun _ _ _ h hm => h.keep hm) (fun _ => rfl) (fun xq wq hSq => ?_) (fun xq wq hSq hKq => ?_) ?_; rotate_left 2; (focus (go_simp; (refine ⟨?_, ?_⟩ <;> with_reducible rfl))); (focus (exact (roomsOf_any l a1 c1 _ _ (by omega) (H4.out.flatKeep hSq)).mono fun _ _ h => h.copy (fun _ => rfl) (by decide) hSq.size)); (try simp only [Act.put, List.setIfInBounds_toArray, List.set_cons_zero, List.set_cons_succ])
    refine RM.const (v := ?_) (fun _ => rfl) (fun xq wq hSq => ?_) ?_; rotate_left; (focus (go_simp; (first | done | with_reducible rfl))); (try simp only [Act.put, List.setIfInBounds_toArray, List.set_cons_zero, List.set_cons_succ])
    refine RM.new (f := ?_) (args := ?_) [] (CopyAt icell 1 (w4.alloc (.cells [Value.int .i64 x0, .int .i64 x1, .int .i64 x2].toArray 32)) (l.map fun x => x.room)) (by kernel_rfl) (fun _ _ _ h hm => h.keep hm) (fun _ => rfl) (fun xq wq hSq => ?_) (fun xq wq hSq hKq => ?_) ?_; rotate_left 2; (focus (go_simp; (refine ⟨?_, ?_⟩ <;> with_reducible rfl))); (focus (exact (sroomsOf_any l a1 c1 _ _ (by omega) (H4.out.flatKeep hSq)).mono fun _ _ h => h.copy (fun _ => rfl) (by decide) hSq.size)); (try simp only [Act.put, List.setIfInBounds_toArray, List.set_cons_zero, List.set_cons_succ])
    refine RM.call (v := ?_) (f := ?_) (args := ?_) [17, 19] (by kernel_rfl) (fun _ => rfl) (fun xq wq hSq => ?_) (fun xq wq hSq hKq => ?_) ?_; rotate_left 3; (focus (go_simp; (refine ⟨?_, ?_⟩ <;> with_reducible rfl))); (focus (obtain ⟨a5, c5, h5, s5⟩ := hKq _ (List.mem_cons_of_mem _ List.mem_cons_self) (by simp); obtain ⟨a6, c6, h6, s6⟩ := hKq _ List.mem_cons_self (by simp); simp only at h5 h6; simp only [h5, h6]; have hh := sameInts_any _ _ (l.map fun x => x.room) (l.map fun x => x.room) c5 c6 _ (IntSlice.at s5) (IntSlice.at s6) (by omega) (by omega); refine hh.mono ?_; rintro e w5 ⟨rfl, hm5⟩; rw [decide_eq_true rfl]; refine ⟨?_, hm5⟩; with_reducible rfl)); (try simp only [Act.put, List.setIfInBounds_toArray, List.set_cons_zero, List.set_cons_succ])
    refine RM.const (v := ?_) (fun _ => rfl) (fun xq wq hSq => ?_) ?_; rotate_left; (focus (go_simp; (first | done | with_reducible rfl))); (try simp only [Act.put, List.setIfInBounds_toArray, List.set_cons_zero, List.set_cons_succ])
    refine RM.const (v := ?_) (fun _ => rfl) (fun xq wq hSq => ?_) ?_; rotate_left; (focus (go_simp; (first | done | with_reducible rfl))); (try simp only [Act.put, List.setIfInBounds_toArray, List.set_cons_zero, List.set_cons_succ])
    refine RM.done (fun xq wq hSq hUq => ?_)
    obtain ⟨gr, hgr⟩ : ∃ gr, gr = w4.heap.size := ⟨_, rfl⟩
    have hM5 := hM4.thenNone hSq
    have H5 := hid (H4.out.flatKeep hSq)
    have hB5 := hSq.blk hB4 (fun f => f)
    have hR5 := hSq.blk hR4 (fun f => f)
    rw [← hgr] at hR5 ⊢
    have hgr2 : w.heap.size ≤ gr := by have := hM3'.size; omega
    clear hUq hSq hM4 H4 hB4 hR4 hm4 q0 hgr
    go_wp2
    go_loopw [11] (fun i wr => ∃ k : Nat, k ≤ l.length ∧ i = .int .i64 k ∧ AllIn (fun r => !fits room r) l k ∧ Mod (fun _ => False) wq wr) (fun i _ => l.length - (intOf i).toNat)
    case atStart => exact ⟨0, by omega, rfl, rfl, Mod.refl _ _⟩
    case round =>
      obtain ⟨k, hk, rfl, hall, hM⟩ := hrel
      have hB6 := hM.blk hB5 (fun f => f)
      have hR6 := hM.blk hR5 (fun f => f)
      have hM6 := hM5.thenNone hM
      have sc0 := blk_cell hB6 (j := 0) rfl
      have sz0 := blk_free hB6 0
      by_cases hlt : k < l.length
      · obtain ⟨b, o, x, r, rfl, hb, hbw, hx, hr, hrl, hc⟩ := (H5.out.flatKeep hM).get hlt
        obtain rfl : r = x.cells := hr
        have c0 := hc 0 _ rfl
        have c1 := hc 1 _ rfl
        have c2 := hc 2 _ rfl
        simp only [Nat.add_zero] at c0
        clear hc hrl
        by_cases hf : fits room x = true
        · have hres := ruleFor_some (find_at hall hx hf)
          have hq := Hq.out
          rw [hres] at hq
          obtain ⟨y0, y1, y2⟩ := x
          simp only [Prod.mk.injEq, Rule.mk.injEq] at hq
          obtain ⟨⟨rfl, rfl, rfl⟩, rfl⟩ := hq
          have q1 := hold (blk_cell hR6 (j := 0) rfl)
          have q2 := hold (blk_cell hR6 (j := 1) rfl)
          have q3 := hold (blk_cell hR6 (j := 2) rfl)
          have q4 := hold (blk_cell hB6 (j := 0) rfl)
          have q5 := hold c0
          have q6 := hold c1
          have q7 := hold c2
          by_cases h1 : room = -1
          · have h1' : (room == -1) = true := by simpa using h1
            go_wp2
            refine wp_region_mod (by kernel_rfl) (by kernel_rfl) ?_
            refine RM.const (v := ?_) (fun _ => rfl) (fun xq wq hSq => ?_) ?_; rotate_left; (focus (go_simp; (first | done | with_reducible rfl))); (try simp only [Act.put, List.setIfInBounds_toArray, List.set_cons_zero, List.set_cons_succ])
            refine RM.const (v := ?_) (fun _ => rfl) (fun xq wq hSq => ?_) ?_; rotate_left; (focus (go_simp; (first | done | with_reducible rfl))); (try simp only [Act.put, List.setIfInBounds_toArray, List.set_cons_zero, List.set_cons_succ])
            refine RM.const (v := ?_) (fun _ => rfl) (fun xq wq hSq => ?_) ?_; rotate_left; (focus (go_simp; (first | done | with_reducible rfl))); (try simp only [Act.put, List.setIfInBounds_toArray, List.set_cons_zero, List.set_cons_succ])
            refine RM.const (v := ?_) (fun _ => rfl) (fun xq wq hSq => ?_) ?_; rotate_left; (focus (go_simp; (first | done | with_reducible rfl))); (try simp only [Act.put, List.setIfInBounds_toArray, List.set_cons_zero, List.set_cons_succ])
            refine RM.const (v := ?_) (fun _ => rfl) (fun xq wq hSq => ?_) ?_; rotate_left; (focus (go_simp; (first | done | with_reducible rfl))); (try simp only [Act.put, List.setIfInBounds_toArray, List.set_cons_zero, List.set_cons_succ])
            refine RM.const (v := ?_) (fun _ => rfl) (fun xq wq hSq => ?_) ?_; rotate_left; (focus (go_simp; (first | done | with_reducible rfl))); (try simp only [Act.put, List.setIfInBounds_toArray, List.set_cons_zero, List.set_cons_succ])
            refine RM.const (v := ?_) (fun _ => rfl) (fun xq wq hSq => ?_) ?_; rotate_left; (focus (go_simp; (first | done | with_reducible rfl))); (try simp only [Act.put, List.setIfInBounds_toArray, List.set_cons_zero, List.set_cons_succ])
            refine RM.const (v := ?_) (fun _ => rfl) (fun xq wq hSq => ?_) ?_; rotate_left; (focus (go_simp; (first | done | with_reducible rfl))); (try simp only [Act.put, List.setIfInBounds_toArray, List.set_cons_zero, List.set_cons_succ])
            refine RM.const (v := ?_) (fun _ => rfl) (fun xq wq hSq => ?_) ?_; rotate_left; (focus (go_simp; (first | done | with_reducible rfl))); (try simp only [Act.put, List.setIfInBounds_toArray, List.set_cons_zero, List.set_cons_succ])
            refine RM.const (v := ?_) (fun _ => rfl) (fun xq wq hSq => ?_) ?_; rotate_left; (focus (go_simp; (first | done | with_reducible rfl))); (try simp only [Act.put, List.setIfInBounds_toArray, List.set_cons_zero, List.set_cons_succ])
            refine RM.const (v := ?_) (fun _ => rfl) (fun xq wq hSq => ?_) ?_; rotate_left; (focus (go_simp; (first | done | with_reducible rfl))); (try simp only [Act.put, List.setIfInBounds_toArray, List.set_cons_zero, List.set_cons_succ])
            refine RM.done (fun xq wq hSq hUq => ?_)
            clear q1 q2 q3 q4 q5 q6 q7
            go_wp2
            go_ret
            exact ⟨rfl, hM6.thenNone hSq⟩
          · have h1' : (room == -1) = false := by simpa using h1
            have h2 : x0 ≤ room := by
              unfold fits at hf
              rw [h1'] at hf
              simpa using hf
            go_wp2
            refine wp_region_mod (by kernel_rfl) (by kernel_rfl) ?_
            refine RM.const (v := ?_) (fun _ => rfl) (fun xq wq hSq => ?_) ?_; rotate_left; (focus (go_simp; (first | done | with_reducible rfl))); (try simp only [Act.put, List.setIfInBounds_toArray, List.set_cons_zero, List.set_cons_succ])
            refine RM.const (v := ?_) (fun _ => rfl) (fun xq wq hSq => ?_) ?_; rotate_left; (focus (go_simp; (first | done | with_reducible rfl))); (try simp only [Act.put, List.setIfInBounds_toArray, List.set_cons_zero, List.set_cons_succ])
            refine RM.const (v := ?_) (fun _ => rfl) (fun xq wq hSq => ?_) ?_; rotate_left; (focus (go_simp; (first | done | with_reducible rfl))); (try simp only [Act.put, List.setIfInBounds_toArray, List.set_cons_zero, List.set_cons_succ])
            refine RM.const (v := ?_) (fun _ => rfl) (fun xq wq hSq => ?_) ?_; rotate_left; (focus (go_simp; (first | done | with_reducible rfl))); (try simp only [Act.put, List.setIfInBounds_toArray, List.set_cons_zero, List.set_cons_succ])
            refine RM.const (v := ?_) (fun _ => rfl) (fun xq wq hSq => ?_) ?_; rotate_left; (focus (go_simp; (first | done | with_reducible rfl))); (try simp only [Act.put, List.setIfInBounds_toArray, List.set_cons_zero, List.set_cons_succ])
            refine RM.const (v := ?_) (fun _ => rfl) (fun xq wq hSq => ?_) ?_; rotate_left; (focus (go_simp; (first | done | with_reducible rfl))); (try simp only [Act.put, List.setIfInBounds_toArray, List.set_cons_zero, List.set_cons_succ])
            refine RM.const (v := ?_) (fun _ => rfl) (fun xq wq hSq => ?_) ?_; rotate_left; (focus (go_simp; (first | done | with_reducible rfl))); (try simp only [Act.put, List.setIfInBounds_toArray, List.set_cons_zero, List.set_cons_succ])
            refine RM.const (v := ?_) (fun _ => rfl) (fun xq wq hSq => ?_) ?_; rotate_left; (focus (go_simp; (first | done | with_reducible rfl))); (try simp only [Act.put, List.setIfInBounds_toArray, List.set_cons_zero, List.set_cons_succ])
            refine RM.const (v := ?_) (fun _ => rfl) (fun xq wq hSq => ?_) ?_; rotate_left; (focus (go_simp; (first | done | with_reducible rfl))); (try simp only [Act.put, List.setIfInBounds_toArray, List.set_cons_zero, List.set_cons_succ])
            refine RM.const (v := ?_) (fun _ => rfl) (fun xq wq hSq => ?_) ?_; rotate_left; (focus (go_simp; (first | done | with_reducible rfl))); (try simp only [Act.put, List.setIfInBounds_toArray, List.set_cons_zero, List.set_cons_succ])
            refine RM.const (v := ?_) (fun _ => rfl) (fun xq wq hSq => ?_) ?_; rotate_left; (focus (go_simp; (first | done | with_reducible rfl))); (try simp only [Act.put, List.setIfInBounds_toArray, List.set_cons_zero, List.set_cons_succ])
            refine RM.done (fun xq wq hSq hUq => ?_)
            clear q1 q2 q3 q4 q5 q6 q7
            go_wp2
            go_ret
            exact ⟨rfl, hM6.thenNone hSq⟩
        · have hf' : fits room x = false := by simpa using hf
          have h1 : (room == -1) = false ∧ ¬ x.room ≤ room := by
            unfold fits at hf'
            rw [Bool.or_eq_false_iff] at hf'
            exact ⟨hf'.1, by simpa using hf'.2⟩
          obtain ⟨h1', h2⟩ := h1
          go_wp2
          go_roundw
          case rel => exact ⟨k + 1, by omega, by go_num, hall.succ hx (by rw [hf']; rfl), by (repeat (first | with_reducible exact Mod.refl _ _ | with_reducible refine Mod.drewN ?_ _ | with_reducible refine Mod.drew ?_ | with_reducible refine Mod.alloc ?_ _ | ((with_reducible refine Mod.setNew ?_ ?_ _ _ _); (rotate_left; omega)) | with_reducible refine Mod.setAt ?_ _ _ _ | with_reducible exact hM | with_reducible refine Mod.thenNone ?_ hM ))⟩
          case measure => simp [intOf]; omega
      · obtain rfl : k = l.length := by omega
        have hres := ruleFor_none (find_none hall.full)
        have hq := Hq.out
        rw [hres] at hq
        simp only [Prod.mk.injEq, Rule.mk.injEq] at hq
        obtain ⟨⟨rfl, rfl, rfl⟩, rfl⟩ := hq
        have hsz := hM6.size
        clear hall hres H5 hM hB5 hR5 hB6
        go_wp2_with fail
        refine (drawSameTable_any w.heap.size wr a len cap hsz (by omega) (Hy.out.same fun k hk => hM6.block k hk (fun f => f))).mono ?_
        rintro e w7 ⟨a7, a8, c7, c8, l7, l8, rfl, hl7, hl8, hs7, hs8, hm7⟩
        have hR7 := hm7.blk hR6 (fun f => f)
        have hM7 := hM6.thenNone hm7
        clear hR6 hM6 sc0 sz0 Hy hsz
        have ka : Kept w7 ((w7.alloc (boxT a7 l7.length c7)).alloc (boxT a8 l8.length c8)) := ((Mod.refl _ _).alloc _).alloc _
        have hx0 := heap_alloc_new (w7.alloc (boxT a7 l7.length c7)) (.cells [Value.slice a8 l8.length c8].toArray 26)
        rw [World.size_alloc] at hx0
        have hx1 := heap_alloc_keep (o := .cells [Value.slice a8 l8.length c8].toArray 26) (heap_alloc_new w7 (.cells [Value.slice a7 l7.length c7].toArray 26))
        have hlit := lit_rules ((w7.alloc (boxT a7 l7.length c7)).alloc (boxT a8 l8.length c8)) ⟨100, 80, 10⟩ ⟨0, 40, 20⟩
        simp only [World.size_alloc] at hlit
        have hw := wantedOf_any [⟨100, 80, 10⟩, ⟨0, 40, 20⟩] 50 _ 2 _ _ (by simp) hlit
        rw [wanted50] at hw
        go_wp2_with fail
        refine hw.mono ?_
        rintro e w8 ⟨rfl, hm8⟩
        have kb := (ka.alloc (.cells #[.int .i64 100, .int .i64 80, .int .i64 10, .int .i64 0, .int .i64 40, .int .i64 20] 32)).thenNone hm8
        have hR8 := kb.blk hR7 (fun f => f)
        have hT8 := hm8.blk (heap_alloc_keep (o := .cells #[.int .i64 100, .int .i64 80, .int .i64 10, .int .i64 0, .int .i64 40, .int .i64 20] 32) hx1) (fun f => f)
        have hU8 := hm8.blk (heap_alloc_keep (o := .cells #[.int .i64 100, .int .i64 80, .int .i64 10, .int .i64 0, .int .i64 40, .int .i64 20] 32) hx0) (fun f => f)
        have S7 := hid (hs7.flatKeep kb)
        have S8 := hid (hs8.flatKeep kb)
        have hM8 := hM7.thenNone kb
        have q1 := hold (blk_cell hR8 (j := 0) rfl)
        have q2 := hold (blk_cell hR8 (j := 1) rfl)
        have q3 := hold (blk_cell hR8 (j := 2) rfl)
        have q4 := hold (blk_cell hT8 (j := 0) rfl)
        have q5 := hold (blk_cell hU8 (j := 0) rfl)
        clear hw hlit hx0 hx1 hR7 hs7 hs8 hM7 ka kb hm7 hm8 hR8 hT8 hU8
        go_wp2
        refine wp_region_mod (by kernel_rfl) (by kernel_rfl) ?_
        refine RM.const (v := ?_) (fun _ => rfl) (fun xq wq hSq => ?_) ?_; rotate_left; (focus (go_simp; (first | done | with_reducible rfl))); (try simp only [Act.put, List.setIfInBounds_toArray, List.set_cons_zero, List.set_cons_succ])
        refine RM.const (v := ?_) (fun _ => rfl) (fun xq wq hSq => ?_) ?_; rotate_left; (focus (go_simp; (first | done | with_reducible rfl))); (try simp only [Act.put, List.setIfInBounds_toArray, List.set_cons_zero, List.set_cons_succ])
        refine RM.const (v := ?_) (fun _ => rfl) (fun xq wq hSq => ?_) ?_; rotate_left; (focus (go_simp; (first | done | with_reducible rfl))); (try simp only [Act.put, List.setIfInBounds_toArray, List.set_cons_zero, List.set_cons_succ])
        refine RM.const (v := ?_) (fun _ => rfl) (fun xq wq hSq => ?_) ?_; rotate_left; (focus (go_simp; (first | done | with_reducible rfl))); (try simp only [Act.put, List.setIfInBounds_toArray, List.set_cons_zero, List.set_cons_succ])
        refine RM.const (v := ?_) (fun _ => rfl) (fun xq wq hSq => ?_) ?_; rotate_left; (focus (go_simp; (first | done | with_reducible rfl))); (try simp only [Act.put, List.setIfInBounds_toArray, List.set_cons_zero, List.set_cons_succ])
        refine RM.const (v := ?_) (fun _ => rfl) (fun xq wq hSq => ?_) ?_; rotate_left; (focus (go_simp; (first | done | with_reducible rfl))); (try simp only [Act.put, List.setIfInBounds_toArray, List.set_cons_zero, List.set_cons_succ])
        refine RM.const (v := ?_) (fun _ => rfl) (fun xq wq hSq => ?_) ?_; rotate_left; (focus (go_simp; (first | done | with_reducible rfl))); (try simp only [Act.put, List.setIfInBounds_toArray, List.set_cons_zero, List.set_cons_succ])
        refine RM.const (v := ?_) (fun _ => rfl) (fun xq wq hSq => ?_) ?_; rotate_left; (focus (go_simp; (first | done | with_reducible rfl))); (try simp only [Act.put, List.setIfInBounds_toArray, List.set_cons_zero, List.set_cons_succ])
        refine RM.const (v := ?_) (fun _ => rfl) (fun xq wq hSq => ?_) ?_; rotate_left; (focus (go_simp; (first | done | with_reducible rfl))); (try simp only [Act.put, List.setIfInBounds_toArray, List.set_cons_zero, List.set_cons_succ])
        refine RM.const (v := ?_) (fun _ => rfl) (fun xq wq hSq => ?_) ?_; rotate_left; (focus (go_simp; (first | done | with_reducible rfl))); (try simp only [Act.put, List.setIfInBounds_toArray, List.set_cons_zero, List.set_cons_succ])
        refine RM.callc (v := ?_) (f := ?_) (args := ?_) (fun _ => rfl) (fun xq wq hSq => ?_) (fun wq hSq => ?_) ?_; rotate_left 3; (focus (go_simp; (refine ⟨?_, ?_⟩ <;> with_reducible rfl))); (focus (exact implSameTable_any l7 l8 _ _ _ _ _ _ _ (by omega) (by omega) (S7.out.flatKeep hSq) (S8.out.flatKeep hSq))); (try simp only [Act.put, List.setIfInBounds_toArray, List.set_cons_zero, List.set_cons_succ])
        refine RM.const (v := ?_) (fun _ => rfl) (fun xq wq hSq => ?_) ?_; rotate_left; (focus (go_simp; (first | done | with_reducible rfl))); (try simp only [Act.put, List.setIfInBounds_toArray, List.set_cons_zero, List.set_cons_succ])
        refine RM.const (v := ?_) (fun _ => rfl) (fun xq wq hSq => ?_) ?_; rotate_left; (focus (go_simp; (first | done | with_reducible rfl))); (try simp only [Act.put, List.setIfInBounds_toArray, List.set_cons_zero, List.set_cons_succ])
        refine RM.callc (v := ?_) (f := ?_) (args := ?_) (fun _ => rfl) (fun xq wq hSq => ?_) (fun wq hSq => ?_) ?_; rotate_left 3; (focus (go_simp; (refine ⟨?_, ?_⟩ <;> with_reducible rfl))); (focus (exact sameTable_any l7 l8 _ _ _ _ _ _ _ (by omega) (by omega) (S7.out.flatKeep hSq) (S8.out.flatKeep hSq))); (try simp only [Act.put, List.setIfInBounds_toArray, List.set_cons_zero, List.set_cons_succ])
        refine RM.const (v := ?_) (fun _ => rfl) (fun xq wq hSq => ?_) ?_; rotate_left; (focus (go_simp; (first | done | with_reducible rfl))); (try simp only [Act.put, List.setIfInBounds_toArray, List.set_cons_zero, List.set_cons_succ])
        refine RM.const (v := ?_) (fun _ => rfl) (fun xq wq hSq => ?_) ?_; rotate_left; (focus (go_simp; (first | done | with_reducible rfl))); (try simp only [Act.put, List.setIfInBounds_toArray, List.set_cons_zero, List.set_cons_succ])
        refine RM.const (v := ?_) (fun _ => rfl) (fun xq wq hSq => ?_) ?_; rotate_left; (focus (go_simp; (first | done | with_reducible rfl))); (try simp only [Act.put, List.setIfInBounds_toArray, List.set_cons_zero, List.set_cons_succ])
        refine RM.const (v := ?_) (fun _ => rfl) (fun xq wq hSq => ?_) ?_; rotate_left; (focus (go_simp; (first | done | with_reducible rfl))); (try simp only [Act.put, List.setIfInBounds_toArray, List.set_cons_zero, List.set_cons_succ])
        refine RM.const (v := ?_) (fun _ => rfl) (fun xq wq hSq => ?_) ?_; rotate_left; (focus (go_simp; (first | done | with_reducible rfl))); (try simp only [Act.put, List.setIfInBounds_toArray, List.set_cons_zero, List.set_cons_succ])
        refine RM.const (v := ?_) (fun _ => rfl) (fun xq wq hSq => ?_) ?_; rotate_left; (focus (go_simp; (first | done | with_reducible rfl))); (try simp only [Act.put, List.setIfInBounds_toArray, List.set_cons_zero, List.set_cons_succ])
        refine RM.const (v := ?_) (fun _ => rfl) (fun xq wq hSq => ?_) ?_; rotate_left; (focus (go_simp; (first | done | with_reducible rfl))); (try simp only [Act.put, List.setIfInBounds_toArray, List.set_cons_zero, List.set_cons_succ])
        refine RM.const (v := ?_) (fun _ => rfl) (fun xq wq hSq => ?_) ?_; rotate_left; (focus (go_simp; (first | done | with_reducible rfl))); (try simp only [Act.put, List.setIfInBounds_toArray, List.set_cons_zero, List.set_cons_succ])
        refine RM.const (v := ?_) (fun _ => rfl) (fun xq wq hSq => ?_) ?_; rotate_left; (focus (go_simp; (first | done | with_reducible rfl))); (try simp only [Act.put, List.setIfInBounds_toArray, List.set_cons_zero, List.set_cons_succ])
        refine RM.const (v := ?_) (fun _ => rfl) (fun xq wq hSq => ?_) ?_; rotate_left; (focus (go_simp; (first | done | with_reducible rfl))); (try simp only [Act.put, List.setIfInBounds_toArray, List.set_cons_zero, List.set_cons_succ])
        refine RM.const (v := ?_) (fun _ => rfl) (fun xq wq hSq => ?_) ?_; rotate_left; (focus (go_simp; (first | done | with_reducible rfl))); (try simp only [Act.put, List.setIfInBounds_toArray, List.set_cons_zero, List.set_cons_succ])
        refine RM.done (fun xq wq hSq hUq => ?_)
        clear q1 q2 q3 q4 q5
        go_wp2
        go_ret
        exact ⟨rfl, hM8.thenNone hSq⟩

/-! ### The row's frame (the kit's skeleton, turned) -/
namespace fnTables
open Go.ChangeShapes Go.WideShapes Go.ChangeAt Go.RowKit
set_option linter.unusedVariables false

theorem own : ownKnob Try.prog.godebug = none := by kernel_rfl
theorem laidOut : laidOutB Try.prog = true := by kernel_rfl
def IsRow (k : IntKind) (w : World) (a : Option Addr) (len cap : Nat) (zs : List Int) : Prop :=
  (a = none ∧ len = 0 ∧ cap = 0 ∧ zs = []) ∨
  ∃ x, a = some x ∧ len ≤ cap ∧ cap ≤ maxLen ∧ zs.length = cap ∧ (∀ i, i < zs.length → w.cell? (x.add i) = some (.int k (zs.getD i 0))) ∧ ∀ n ∈ zs, (Lit.int k n).wf = true

theorem walk (a0 : Option Addr) (len0 cap0 : Nat) (z0 : List Int) (w : World) (w0 : IsRow .u8 w a0 len0 cap0 z0) :
    Calls Try.prog 3 #[.slice a0 len0 cap0] w fun e w' => e = .returned (.bool true) ∧ Below w.heap.size w w' := by
  obtain ⟨h1, h2⟩ := bytes_of_row (a := a0) (len := len0) (cap := cap0) (zs := z0) w0
  exact (fnTables_walk w a0 len0 cap0 h1 h2).mono fun e w' ⟨he, hm⟩ => ⟨he, hm.below (Nat.le_refl _) fun _ _ h => h⟩

set_option maxRecDepth 100000 in
theorem lifted (os : Os) (started : os.Started) (H : Type) (enc : TypeId × Value → H) :
    ReturnsInHanded {} Try.checked os 3 .any (Rows.fnTablesSpec.pre6 enc Try.prog Try.f3 Rows.fnTablesRow.domain false) (Rows.fnTablesSpec.post enc Try.prog Try.f3 false true false false) := by
  refine returnsInHanded_of_change (C := Try.checked) own started (by kernel_rfl) Try.func3
    (ChangeSpec.witness6 (enc := enc) (C := Try.checked) false ⟨#[], #[.slice none 0 0], []⟩ 8 (by kernel_rfl) (by kernel_rfl) (by kernel_rfl) (by kernel_rfl)) ?_
  intro W base args ds gs before hval0 hW hcnd _
  have hval : ∀ (j : Nat) t v, Try.f3.params[j]? = some t → args[j]? = some v → Value.okWide Try.prog W .any base t v := hval0
  have hW' := hW
  obtain ⟨p, q, hA0, hV, rfl, hfz, hnd⟩ := hW
  have hA : DataW.TrodAll enc Try.prog W 0 (fun _ => true) true Try.f3.params.toList args.toList ds p := hA0
  rw [Try.params3] at hA hval
  obtain ⟨v0, vs0, d0, ds0, p0, q0, hargs, rfl, rfl, h0, r0⟩ := trodAll_cons hA
  obtain ⟨rfl, rfl, rfl⟩ := trodAll_nil r0
  obtain rfl : args = #[v0] := by cases args; simp_all
  obtain ⟨rfl, rfl⟩ := trodVars_none hV
  obtain ⟨a0, len0, cap0, rfl⟩ := okWide_slice Try.underlying22 (hval 0 22 v0 rfl rfl)
  have k0 := h0
  have lt0 : ∀ x ∈ p0, x.block < W.heap.size := by obtain ⟨m, hm⟩ := k0; exact DataW.trod_lt m _ _ _ hm
  obtain ⟨z0, w0⟩ : ∃ zs, IsRow .u8 W a0 len0 cap0 zs := by
    obtain ⟨fuel, hf⟩ := h0
    rcases open_ints Try.underlying22 Try.underlying5 (by kernel_rfl) hf with ⟨hcs, _⟩ | ⟨x, l, c, zs, hcs, _, hl, hm, hz, _, hcell, hwz⟩
    · simp [Value.cells] at hcs
      obtain ⟨rfl, rfl, rfl⟩ := hcs
      exact ⟨[], .inl ⟨rfl, rfl, rfl, rfl⟩⟩
    · simp [Value.cells] at hcs
      obtain ⟨rfl, rfl, rfl⟩ := hcs
      exact ⟨zs, .inr ⟨_, rfl, hl, hm, by simpa using hz, hcell, hwz⟩⟩
  clear hA0 hval0
  refine (walk a0 len0 cap0 z0 W w0).mono fun e W' ⟨he, bel⟩ => ?_
  subst he
  exact ⟨_, rfl, _, _, _, [], _, [], hW', trodAll_mk1 (shut_bool Try.underlying4 _), (trodAll_cons_mk (Below.trod laidOut (by kernel_rfl) (of_decide_eq_true (by kernel_rfl)) k0 bel lt0) trodAll_mk0), rfl, bel.frame _, fun h => by cases h⟩

theorem over : Rows.fnTablesRow.holds Try.pinned (OpenSpec.ofChange Rows.fnTablesSpec) :=
  OpenClaim.holds_of_wide 3 Try.f3 rfl rfl rfl rfl rfl rfl rfl ⟨rfl, rfl, rfl, rfl, rfl⟩ rfl rfl rfl rfl rfl (by kernel_rfl) Try.func3 (by kernel_rfl)
    (of_decide_eq_true (by kernel_rfl)) (by unfold Func.isWrapper; first | (rw [if_pos (by decide +kernel)]; kernel_rfl) | (rw [if_neg (by decide +kernel)]; exact ⟨rfl, rfl⟩))
    (fun os started H enc _ => lifted os started H enc)

theorem proved : Rows.FnTablesSaid := over
#print axioms proved
end fnTables


end Go.Proofs.Ytefgjjmnjanleaa
