/-
  PROVED: the law's draws of tables: one with a room, two that may be the same. No condition.
-/
import Derived.Test.YtefgjjmnjanleaaTableDraw
import Derived.Test.YtefgjjmnjanleaaStoreReg
namespace Go.Proofs.Ytefgjjmnjanleaa
open Go.RowKit

abbrev RuleSlice (R : Nat → Prop) (w : World) (a : Option Addr) (l : List Rule) : Prop := SliceAt (Flat Rule.cells) 3 R w a l
theorem owned_rules {B : Nat} {w w' : World} {c : Nat} {a : Option Addr} {l : List Rule} (h : OwnRules B w' a l c) (hb : w.heap.size ≤ B) : RuleSlice (fun k => w.heap.size ≤ k) w' a l := by
  obtain ⟨rows, q1, q2, q3⟩ := own_slice (cells := Rule.cells) h (fun _ => rfl) (by decide)
  exact ⟨rows, q1.weaken fun k _ (hk : B ≤ k) => Nat.le_trans hb hk, q2, q3⟩

def DrewCase (w : World) (e : Ending) (w' : World) : Prop :=
  ∃ (a : Option Addr) (c : Nat) (l : List Rule) (room : Int), e = .returned (.tuple #[.agg #[.slice a l.length c], .int .i64 room]) ∧ l.length ≤ 8 ∧ RuleSlice (fun k => w.heap.size ≤ k) w' a l ∧ Mod (fun _ => False) w w'

theorem l09Case_any (B : Nat) (w : World) (a : Option Addr) (len cap : Nat) (hB : B ≤ w.heap.size) (hl : len ≤ 1048576) (hy : Bytes B w a len) :
    Calls Try.prog 71 #[.slice a len cap] w (DrewCase w) := by
  have hy' := hy.same (w' := w.alloc (.cells #[.slice none 0 0] 26)) (fun k hk => Below.heap_alloc _ _ _ (by omega))
  go_enter Try.func71, Try.ntmps71
  go_wp2_with fail
  refine (l01New_any B _ a len cap (by simp; omega) hl hy').mono ?_
  rintro e w1 ⟨g, hg, rfl, hc1, hm1⟩
  have hb1 := hm1.blk (heap_alloc_new w (.cells [.slice none 0 0].toArray 26)) (fun f => f)
  rw [World.size_alloc] at hg
  go_wp2_with fail
  refine (l09Any_any B g w1 hc1).mono ?_
  rintro e w2 ⟨a2, c2, l, rfl, _, hl2, hO2, hc2, hm2⟩
  have hs1 := hm1.size
  rw [World.size_alloc] at hs1
  have hs2 := hm2.size
  have hb2 := hm2.blk hb1 (show w.heap.size ≠ g by omega)
  go_wp2_with fail
  refine (l01PickLit_any B g w2 hc2 [-1, 0, 50, 100, 640, 5000, -2] _ rfl _ _ rfl (by simp) (by simp)).mono ?_
  rintro e w3 ⟨room, _, rfl, hc3, hm3⟩
  have hb3 := hm3.blk hb2 (show w.heap.size ≠ g by omega)
  have sc0 := blk_cell hb3 (j := 0) rfl
  have sz0 := blk_free hb3 0
  have hO3 := own_mod hO2 hm3 (fun j hj (e : j = g) => by have := hc1.size; omega)
  have hO4 := own_mod hO3 ((Mod.refl (fun j => j = w.heap.size) _).setAt 0 none (.slice a2 l.length c2)) (fun j hj (e : j = _) => by omega)
  have hM : Mod (fun _ => False) w w3 := ((Mod.refl _ w).alloc _).thenNone hm1 |>.thenNew (hm2.trans hm3) (by omega)
  clear hb1 hb2 hO2 hO3
  go_wp2
  refine bodyPost_ret (v := .tuple #[.agg #[.slice a2 l.length c2], .int .i64 room]) (by simp [results, Try.results71, go_sem, *]) rfl ⟨a2, c2, l, room, rfl, hl2, owned_rules (w := w) hO4 (by omega), hM.setNew (by omega) _ _ _⟩

theorem drawWantedOf_any (B : Nat) (w : World) (a : Option Addr) (len cap : Nat) (hB : B ≤ w.heap.size) (hl : len ≤ 1048576) (hy : Bytes B w a len) :
    Calls Try.prog 10 #[.slice a len cap] w (DrewCase w) := by
  have hy' := hy.same (w' := w.alloc (.cells #[.slice none 0 0] 26)) (fun k hk => Below.heap_alloc _ _ _ (by omega))
  go_enter Try.func10, Try.ntmps10
  go_wp2_with fail
  refine (l09Case_any B _ a len cap (by simp; omega) hl hy').mono ?_
  rintro e w1 ⟨a2, c2, l, room, rfl, hl2, hs, hm1⟩
  have hb1 := hm1.blk (heap_alloc_new w (.cells [.slice none 0 0].toArray 26)) (fun f => f)
  have sc0 := blk_cell hb1 (j := 0) rfl
  have sz0 := blk_free hb1 0
  have hM : Mod (fun _ => False) w w1 := ((Mod.refl _ w).alloc _).thenNone hm1
  have hs2 : RuleSlice (fun k => w.heap.size + 1 ≤ k) w1 a2 l := by
    obtain ⟨rows, q1, q2⟩ := hs
    exact ⟨rows, q1.weaken fun k _ (hk : _ ≤ k) => by rwa [World.size_alloc] at hk, q2⟩
  clear hs hb1
  go_wp2
  refine bodyPost_ret (v := .tuple #[.agg #[.slice a2 l.length c2], .int .i64 room]) (by simp [results, Try.results10, go_sem, *]) rfl ⟨a2, c2, l, room, rfl, hl2, ?_, hM.setNew (by omega) _ _ _⟩
  obtain ⟨rows, q1, q2⟩ := hs2.flatMod ((Mod.refl (fun j => j = w.heap.size) w1).setAt 0 none (.slice a2 l.length c2)) (fun k (hk : w.heap.size + 1 ≤ k) (e : k = _) => by omega)
  exact ⟨rows, q1.weaken fun k _ (hk : _ ≤ k) => by show w.heap.size ≤ k; omega, q2⟩

def DrewTwo (w : World) (e : Ending) (w' : World) : Prop :=
  ∃ (a a' : Option Addr) (c c' : Nat) (l l' : List Rule), e = .returned (.tuple #[.agg #[.slice a l.length c], .agg #[.slice a' l'.length c']]) ∧ l.length ≤ 8 ∧ l'.length ≤ 8 ∧ RuleSlice (fun k => w.heap.size ≤ k) w' a l ∧ RuleSlice (fun k => w.heap.size ≤ k) w' a' l' ∧ Mod (fun _ => False) w w'
/-- A table drawn in a region. -/
def TableV (W : World) (most : Nat) (w : World) (v : Value) : Prop := ∃ (a : Option Addr) (c : Nat) (l : List Rule), v = .agg #[.slice a l.length c] ∧ l.length ≤ most ∧ RuleSlice (fun k => W.heap.size ≤ k) w a l
theorem TableV.keep {W : World} {most g : Nat} {w w' : World} {v : Value} (h : TableV W most w v) (hm : Mod (fun k => k = g) w w') (hg : g < W.heap.size) : TableV W most w' v := by
  obtain ⟨a5, c5, l5, h1, h2, h3⟩ := h
  exact ⟨a5, c5, l5, h1, h2, h3.flatMod hm fun k (hk : _ ≤ k) (e : k = g) => by omega⟩
theorem DrewTable.value {B T g least most : Nat} {w : World} {e : Ending} {w' : World} (h : DrewTable B T g w least most e w') {W : World} (hW : W.heap.size ≤ w.heap.size) : ∃ v, e = .returned v ∧ TableV W most w' v ∧ Cur B T w' g ∧ Mod (fun k => k = g) w w' := by
  obtain ⟨a, c, l, rfl, _, h2, hO, hC, hM⟩ := h
  exact ⟨_, rfl, ⟨a, c, l, rfl, h2, owned_rules hO hW⟩, hC, hM⟩

set_option maxRecDepth 100000 in
set_option maxHeartbeats 2000000 in
theorem drawSameTable_any (B : Nat) (w : World) (a : Option Addr) (len cap : Nat) (hB : B ≤ w.heap.size) (hl : len ≤ 1048576) (hy : Bytes B w a len) :
    Calls Try.prog 19 #[.slice a len cap] w (DrewTwo w) := by
  have hy' := hy.same (w' := (w.alloc (.cells #[.slice none 0 0] 26)).alloc (.cells #[.slice none 0 0] 26)) (fun k hk => by rw [Below.heap_alloc _ _ _ (by simp; omega), Below.heap_alloc _ _ _ (by omega)])
  obtain ⟨i0, hi, hz0, hz1, hz2⟩ := info_parts info_Rule
  have Hi := hid hi
  have Hz0 := hid hz0
  have Hz1 := hid hz1
  have Hz2 := hid hz2
  clear hi hz0 hz1 hz2
  go_enter Try.func19, Try.ntmps19
  go_wp2_with fail
  refine (l01New_any B _ a len cap (by simp; omega) hl hy').mono ?_
  rintro e w1 ⟨g, hg, rfl, hc1, hm1⟩
  simp only [World.size_alloc] at hg
  have hx0 : ((w.alloc (.cells [.slice none 0 0].toArray 26)).alloc (.cells [.slice none 0 0].toArray 26)).heap[w.heap.size + 1]? = some (.cells [.slice none 0 0].toArray 26 (0, 0)) := by
    have := heap_alloc_new (w.alloc (.cells #[.slice none 0 0] 26)) (.cells [.slice none 0 0].toArray 26)
    rwa [World.size_alloc] at this
  have hb1 := hm1.blk hx0 (fun f => f)
  have hb0 := hm1.blk (heap_alloc_keep (heap_alloc_new w (.cells [.slice none 0 0].toArray 26)) : ((w.alloc _).alloc (.cells #[.slice none 0 0] 26)).heap[w.heap.size]? = _) (fun f => f)
  have hM1 : Mod (fun _ => False) w w1 := (((Mod.refl _ w).alloc _).alloc _).thenNone hm1
  have hs1 := hm1.size
  simp only [World.size_alloc] at hs1
  clear hx0 hm1 hy hy'
  go_wp2_with fail
  refine (l09Any_any B g w1 hc1).mono ?_
  rintro e w2 ⟨a2, c2, l, rfl, _, hl2, hO2, hc2, hm2⟩
  have hs2 := hm2.size
  have hb2 := hm2.blk hb1 (show w.heap.size + 1 ≠ g by omega)
  have hb3 := hm2.blk hb0 (show w.heap.size ≠ g by omega)
  have hM2 : Mod (fun k => k = g) w w2 := (hM1.mono fun _ _ f => f.elim).trans hm2
  have hS2 : RuleSlice (fun k => w1.heap.size ≤ k) w2 a2 l := own_slice (cells := Rule.cells) hO2 (fun _ => rfl) (by decide)
  have hg1 := hc1.size
  clear hb0 hb1 hc1 hM1
  go_wp2_with fail
  have hk := hc2.alloc (.cells #[.slice a2 l.length c2] 26)
  refine (l01Once_any B g _ hk 2 (by omega)).mono ?_
  rintro e w3 ⟨bb, rfl, hCW, hm3⟩
  have hs3 := hm3.size
  simp only [World.size_alloc] at hs3
  have hg2 := hc2.size
  have hb5 := hm3.blk (heap_alloc_new w2 (.cells [.slice a2 l.length c2].toArray 26)) (show w2.heap.size ≠ g by omega)
  have hb6 := hm3.blk (heap_alloc_keep hb2 (o := .cells #[.slice a2 l.length c2] 26)) (show w.heap.size + 1 ≠ g by omega)
  have hb7 := hm3.blk (heap_alloc_keep hb3 (o := .cells #[.slice a2 l.length c2] 26)) (show w.heap.size ≠ g by omega)
  have hM3 : Mod (fun k => k = g) w w3 := (hM2.alloc _).trans hm3
  have hS3 := hS2.flatMod (((Mod.refl (fun k => k = g) w2).alloc (.cells #[.slice a2 l.length c2] 26)).trans hm3) (fun k (hk : _ ≤ k) (e : k = g) => by omega)
  have hgW := hCW.size
  obtain ⟨gt, hgt⟩ : ∃ gt, gt = w2.heap.size := ⟨_, rfl⟩
  rw [← hgt] at hb5 hs3 hg2 hs2 ⊢
  have hr0 : w.heap.size < w3.heap.size := by omega
  have hr1 : w.heap.size + 1 < w3.heap.size := by omega
  have hr2 : gt < w3.heap.size := by omega
  clear hb2 hb3 hM2 hS2 hO2 hc2 hk hm2 hm3 hgt
  have hMn : Mod (fun _ => False) w w3 := ⟨hM3.os, hM3.tape, hM3.output, hM3.size, fun k hk _ => hM3.block k hk (by omega)⟩
  cases bb
  · have q0 := holdC (B := B) (T := 123) (g := g) (blk_cell hb5 (j := 0) rfl) (show gt ≠ g by omega)
    go_wp2
    refine wp_region_cur_tail hCW 3 (by kernel_rfl) (by kernel_rfl) (by kernel_rfl) ?_
    simp only [List.take_succ_cons, List.take_zero, List.drop_succ_cons, List.drop_zero]
    refine RC.const (v := ?_) (fun _ => rfl) (fun xq wq hSq => ?_) ?_; rotate_left; (focus (go_simp; (first | done | with_reducible rfl))); (try simp only [Act.put, List.setIfInBounds_toArray, List.set_cons_zero, List.set_cons_succ])
    refine RC.const (v := ?_) (fun _ => rfl) (fun xq wq hSq => ?_) ?_; rotate_left; (focus (go_simp; (first | done | with_reducible rfl))); (try simp only [Act.put, List.setIfInBounds_toArray, List.set_cons_zero, List.set_cons_succ])
    refine RC.new [] (TableV w3 8) (f := ?_) (args := ?_) (by kernel_rfl) (fun _ _ _ h hm => h.keep hm hgW) (fun _ => rfl) (fun xq wq hSq hKq => ?_) (fun xq wq hSq hKq => ?_) ?_; rotate_left 2; (focus (go_simp; (refine ⟨?_, ?_⟩ <;> with_reducible rfl))); (focus (exact (l09Any_any B g _ hSq.c).mono fun _ _ h => h.value hSq.m.size)); (try simp only [Act.put, List.setIfInBounds_toArray, List.set_cons_zero, List.set_cons_succ])
    refine RC.done (fun xq wq hSq hUq => ?_)
    clear q0
    obtain ⟨a5, c5, l5, hv, hl5, hS5⟩ := hUq _ List.mem_cons_self
    simp only at hv
    simp only [hv]
    have hb8 := hSq.m.blk hb6 (show w.heap.size + 1 ≠ g by omega)
    have hb9 := hSq.m.blk hb7 (show w.heap.size ≠ g by omega)
    have hS6 := hS3.flatMod hSq.m (fun k (hk : _ ≤ k) (e : k = g) => by omega)
    have hM5 := hMn.thenNew hSq.m (by omega)
    clear hSq hUq hb5 hb6 hb7 hS3 hCW
    have sc0 := blk_cell hb8 (j := 0) rfl
    have sz0 := blk_free hb8 0
    have yc0 := blk_cell hb9 (j := 0) rfl
    have yz0 := blk_free hb9 0
    have hne : w.heap.size ≠ w.heap.size + 1 := by omega
    have hne' : w.heap.size + 1 ≠ w.heap.size := by omega
    go_wp2
    refine bodyPost_ret (v := .tuple #[.agg #[.slice a2 l.length c2], .agg #[.slice a5 l5.length c5]]) (by simp [results, Try.results19, go_sem, *]) rfl ⟨a2, a5, c2, c5, l, l5, rfl, hl2, hl5, ?_, ?_, ?_⟩
    · have h1 := (hS6.flatMod ((Mod.refl (fun j => j = w.heap.size) _).setAt 0 none (.slice a2 l.length c2)) (fun k (hk : _ ≤ k) (e : k = _) => by omega)).flatMod ((Mod.refl (fun j => j = w.heap.size + 1) _).setAt 0 none (.slice a5 l5.length c5)) (fun k (hk : _ ≤ k) (e : k = _) => by omega)
      obtain ⟨rows, p1, p2⟩ := h1
      exact ⟨rows, p1.weaken fun k _ (hk : _ ≤ k) => by show w.heap.size ≤ k; omega, p2⟩
    · have h1 := (hS5.flatMod ((Mod.refl (fun j => j = w.heap.size) _).setAt 0 none (.slice a2 l.length c2)) (fun k (hk : _ ≤ k) (e : k = _) => by omega)).flatMod ((Mod.refl (fun j => j = w.heap.size + 1) _).setAt 0 none (.slice a5 l5.length c5)) (fun k (hk : _ ≤ k) (e : k = _) => by omega)
      obtain ⟨rows, p1, p2⟩ := h1
      exact ⟨rows, p1.weaken fun k _ (hk : _ ≤ k) => by show w.heap.size ≤ k; omega, p2⟩
    · exact (hM5.setNew (by omega) _ _ _).setNew (by omega) _ _ _
  · have q0 := holdP (b := w.heap.size) (tg := .cells [.slice a2 l.length c2].toArray 26 (0, 0)) (blk_cell hb5 (j := 0) rfl) (show gt ≠ w.heap.size by omega)
    have hbW := hr0
    have hPut := hb7
    go_wp2
    refine wp_region_put_tail (w.heap.size) (.cells [.slice a2 l.length c2].toArray 26 (0, 0)) 7 (by kernel_rfl) (by kernel_rfl) (by kernel_rfl) ?_
    simp only [List.take_succ_cons, List.take_zero, List.drop_succ_cons, List.drop_zero]
    refine RP.const (v := ?_) (fun _ => rfl) (fun xq wq hSq => ?_) ?_; rotate_left; (focus (go_simp; (first | done | with_reducible rfl))); (try simp only [Act.put, List.setIfInBounds_toArray, List.set_cons_zero, List.set_cons_succ])
    refine RP.lit hbW (n := ?_) (vals := ?_) (e := ?_) (fun _ => rfl) (fun xq wq hSq => ?_) ?_; rotate_left 3; (focus (go_simp; (first | done | with_reducible rfl | (refine ⟨?_, ?_⟩ <;> with_reducible rfl)))); (try simp only [Act.put, List.setIfInBounds_toArray, List.set_cons_zero, List.set_cons_succ])
    refine RP.const (v := ?_) (fun _ => rfl) (fun xq wq hSq => ?_) ?_; rotate_left; (focus (go_simp; (first | done | with_reducible rfl))); (try simp only [Act.put, List.setIfInBounds_toArray, List.set_cons_zero, List.set_cons_succ])
    refine RP.const (v := ?_) (fun _ => rfl) (fun xq wq hSq => ?_) ?_; rotate_left; (focus (go_simp; (first | done | with_reducible rfl))); (try simp only [Act.put, List.setIfInBounds_toArray, List.set_cons_zero, List.set_cons_succ])
    refine RP.copy [1] (Operand.tmp 13) (Operand.tmp 15) ⟨Try.underlying24, Hi.out, Hz0.out, Hz1.out, Hz2.out, by decide⟩ (fun _ => rfl) rfl hbW (hS3) (fun j hj e => by omega) (by unfold maxLen; omega) (by omega) (by kernel_rfl) (fun _ => rfl) (fun xq wq hSq hKq => ?_) (fun _ => rfl) ?_; (focus (obtain ⟨g0, hv0, _⟩ := hKq _ List.mem_cons_self (by simp); exact ⟨_, hv0, .inr ⟨_, rfl⟩⟩)); (try simp only [Act.put, List.setIfInBounds_toArray, List.set_cons_zero, List.set_cons_succ])
    refine RP.vald [4] (v := ?_) (by kernel_rfl) (fun _ => rfl) (fun xq wq hSq hKq => ?_) ?_ ?_; rotate_left; (focus (go_simp; (first | done | with_reducible rfl))); (focus (intro xq yq hq; simp only [hq 4 (by decide)])); (try simp only [Act.put, List.setIfInBounds_toArray, List.set_cons_zero, List.set_cons_succ])
    refine RP.store (T := _) rfl hPut rfl (fun _ => rfl) (fun xq wq uq hcq hfq hSq => ?_) ?_; (focus (go_simp; (first | done | with_reducible rfl))); (try simp only [Act.put, List.setIfInBounds_toArray, List.set_cons_zero, List.set_cons_succ])
    refine RP.done (fun xq wq hSq hUq => ?_)
    clear q0
    have hb9 : wq.heap[w.heap.size]? = some (.cells [.slice a2 l.length c2].toArray 26 (0, 0)) := hUq _ List.mem_cons_self
    obtain ⟨a5, c5, hv, hS5⟩ := hUq _ (List.mem_cons_of_mem _ List.mem_cons_self)
    simp only at hv
    simp only [hv, slA, slC]
    have hb8 := hSq.m.blk hb6 (show w.heap.size + 1 ≠ w.heap.size by omega)
    have hS6 := hS3.flatMod hSq.m (fun k (hk : _ ≤ k) (e : k = _) => by omega)
    have hM5 := hMn.thenNew hSq.m (by omega)
    clear hSq hUq hb5 hb6 hb7 hS3 hCW hPut
    have sc0 := blk_cell hb8 (j := 0) rfl
    have sz0 := blk_free hb8 0
    have yc0 := blk_cell hb9 (j := 0) rfl
    have yz0 := blk_free hb9 0
    have hne : w.heap.size ≠ w.heap.size + 1 := by omega
    have hne' : w.heap.size + 1 ≠ w.heap.size := by omega
    go_wp2
    refine bodyPost_ret (v := .tuple #[.agg #[.slice a2 l.length c2], .agg #[.slice a5 l.length c5]]) (by simp [results, Try.results19, go_sem, *]) rfl ⟨a2, a5, c2, c5, l, l, rfl, hl2, hl2, ?_, ?_, ?_⟩
    · have h1 := hS6.flatMod ((Mod.refl (fun j => j = w.heap.size + 1) _).setAt 0 none (.slice a5 l.length c5)) (fun k (hk : _ ≤ k) (e : k = _) => by omega)
      obtain ⟨rows, p1, p2⟩ := h1
      exact ⟨rows, p1.weaken fun k _ (hk : _ ≤ k) => by show w.heap.size ≤ k; omega, p2⟩
    · have h1 := hS5.flatMod ((Mod.refl (fun j => j = w.heap.size + 1) _).setAt 0 none (.slice a5 l.length c5)) (fun k (hk : _ ≤ k) (e : k = _) => by omega)
      obtain ⟨rows, p1, p2⟩ := h1
      exact ⟨rows, p1.weaken fun k _ (hk : _ ≤ k) => by show w.heap.size ≤ k; omega, p2⟩
    · exact hM5.setNew (by omega) _ _ _

end Go.Proofs.Ytefgjjmnjanleaa
