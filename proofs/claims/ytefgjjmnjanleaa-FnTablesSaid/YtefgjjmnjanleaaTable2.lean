/-
  PROVED: RuleFor, WantedOf: the program's and the reference's give the plain function. No condition but a bound on the length.
-/
import Derived.Test.YtefgjjmnjanleaaTable
import Derived.Test.YtefgjjmnjanleaaTotal
import Derived.Test.YtefgjjmnjanleaaReg
namespace Go.Proofs.Ytefgjjmnjanleaa
open Go.RowKit

def fits (room : Int) (r : Rule) : Bool := room == -1 || decide (r.room ≤ room)
def ruleFor (l : List Rule) (room : Int) : Rule × Bool := match l.find? (fits room) with
  | some r => (r, true)
  | none => (⟨0, 0, 0⟩, false)
theorem find_at {p : Rule → Bool} {l : List Rule} {k : Nat} {x : Rule} (h : AllIn (fun r => !p r) l k) (hx : Hid (l[k]? = some x)) (hp : p x = true) : l.find? p = some x := by
  have hk := (List.getElem?_eq_some_iff.1 hx.out)
  obtain ⟨hlt, he⟩ := hk
  have h1 : (l.take k).find? p = none := by
    rw [List.find?_eq_none]
    intro y hy
    have := List.all_eq_true.1 h y hy
    simpa using this
  rw [← List.take_append_drop k l, List.find?_append, h1, List.drop_eq_getElem_cons hlt, he]
  simp [hp]
theorem find_none {p : Rule → Bool} {l : List Rule} (h : l.all (fun r => !p r) = true) : l.find? p = none := by
  rw [List.find?_eq_none]
  intro y hy
  have := List.all_eq_true.1 h y hy
  simpa using this
theorem ruleFor_some {l : List Rule} {room : Int} {x : Rule} (h : l.find? (fits room) = some x) : ruleFor l room = (x, true) := by unfold ruleFor; rw [h]
theorem ruleFor_none {l : List Rule} {room : Int} (h : l.find? (fits room) = none) : ruleFor l room = (⟨0, 0, 0⟩, false) := by unfold ruleFor; rw [h]
theorem ruleFor_no (l : List Rule) (room : Int) (h : (ruleFor l room).2 = false) : (ruleFor l room).1 = ⟨0, 0, 0⟩ := by
  unfold ruleFor at *
  split
  · rename_i r hr
    rw [hr] at h
    cases h
  · rfl
def wantedOf (l : List Rule) (room : Int) : Int × Int := (clampedL (ruleFor l room).1.wide, clampedL (ruleFor l room).1.high)
theorem wantedOf_eq (l : List Rule) (room : Int) : wantedOf l room = (clampedL (ruleFor l room).1.wide, clampedL (ruleFor l room).1.high) := rfl

set_option maxRecDepth 100000 in
set_option maxHeartbeats 2000000 in
theorem ruleFor_any (l : List Rule) (room : Int) (a : Option Addr) (c : Nat) (R : Nat → Prop) (w : World) (hl : l.length ≤ 1048576) (h : SliceAt (Flat Rule.cells) 3 R w a l) :
    Calls Try.prog 13 #[.agg #[.slice a l.length c], .int .i64 room] w fun e w' => e = .returned (.tuple #[.agg (ruleFor l room).1.cells.toArray, .bool (ruleFor l room).2]) ∧ Mod (fun _ => False) w w' := by
  have H := hid (h.flatKeep (((Mod.refl _ w).alloc (boxT a l.length c)).alloc (.cells #[.int .i64 0, .int .i64 0, .int .i64 0] 32)))
  clear h
  go_enter Try.func13, Try.ntmps13
  go_wp2
  go_loopw [11] (fun i wr => ∃ k : Nat, k ≤ l.length ∧ i = .int .i64 k ∧ AllIn (fun r => !fits room r) l k ∧ Mod (fun _ => False) ((w.alloc (boxT a l.length c)).alloc (.cells #[.int .i64 0, .int .i64 0, .int .i64 0] 32)) wr) (fun i _ => l.length - (intOf i).toNat)
  case atStart => exact ⟨0, by omega, rfl, rfl, Mod.refl _ _⟩
  case round =>
    obtain ⟨k, hk, rfl, hall, hM⟩ := hrel
    have hb0 : wr.cell? ⟨w.heap.size, 0, none⟩ = some (.slice a l.length c) := hM.keep _ _ (by simp [go_sem])
    have hB := hM.blk (heap_alloc_new (w.alloc (boxT a l.length c)) (.cells [.int .i64 0, .int .i64 0, .int .i64 0].toArray 32)) (fun f => f)
    rw [World.size_alloc] at hB
    have hsz := hM.size
    simp only [World.size_alloc] at hsz
    have hr0 : w.heap.size < wr.heap.size := by omega
    have hr1 : w.heap.size + 1 < wr.heap.size := by omega
    have rc0 := blk_cell hB (j := 0) rfl
    have rz0 := blk_free hB 0
    have rc1 := blk_cell hB (j := 1) rfl
    have rz1 := blk_free hB 1
    have rc2 := blk_cell hB (j := 2) rfl
    have rz2 := blk_free hB 2
    have hM0 : Mod (fun _ => False) w wr := (((Mod.refl _ w).alloc _).alloc _).trans hM
    clear hB
    by_cases hlt : k < l.length
    · obtain ⟨b, o, x, r, rfl, hb, hbw, hx, hr, hrl, hc⟩ := (H.out.flatKeep hM).get hlt
      obtain rfl : r = x.cells := hr
      have c0 := hc 0 _ rfl
      have c1 := hc 1 _ rfl
      have c2 := hc 2 _ rfl
      simp only [Nat.add_zero] at c0
      clear hc hrl
      by_cases h1 : room = -1
      · have hf : fits room x = true := by simp [fits, h1]
        have h1' : (room == -1) = true := by simpa using h1
        have hres := hid (find_at hall hx hf)
        clear h1 hf hall
        go_wp2
        refine bodyPost_ret (v := .tuple #[.agg x.cells.toArray, .bool true]) (by simp [results, Try.results13, go_sem, Rule.cells, *]) rfl ⟨?_, by (repeat (first | with_reducible exact Mod.refl _ _ | with_reducible refine Mod.drewN ?_ _ | with_reducible refine Mod.drew ?_ | with_reducible refine Mod.alloc ?_ _ | ((with_reducible refine Mod.setNew ?_ ?_ _ _ _); (rotate_left; omega)) | with_reducible refine Mod.setAt ?_ _ _ _ | with_reducible exact hM0 | with_reducible refine Mod.thenNone ?_ hM0 ))⟩
        rw [ruleFor_some hres.out]
      · have h1' : (room == -1) = false := by simpa using h1
        by_cases h2 : x.room ≤ room
        · have hf : fits room x = true := by simp [fits, h2]
          have hres := hid (find_at hall hx hf)
          clear h1 hf hall
          go_wp2
          refine bodyPost_ret (v := .tuple #[.agg x.cells.toArray, .bool true]) (by simp [results, Try.results13, go_sem, Rule.cells, *]) rfl ⟨?_, by (repeat (first | with_reducible exact Mod.refl _ _ | with_reducible refine Mod.drewN ?_ _ | with_reducible refine Mod.drew ?_ | with_reducible refine Mod.alloc ?_ _ | ((with_reducible refine Mod.setNew ?_ ?_ _ _ _); (rotate_left; omega)) | with_reducible refine Mod.setAt ?_ _ _ _ | with_reducible exact hM0 | with_reducible refine Mod.thenNone ?_ hM0 ))⟩
          rw [ruleFor_some hres.out]
        · have hf : fits room x = false := by simp [fits, h1, h2]
          clear h1
          go_wp2
          go_roundw
          case rel => exact ⟨k + 1, by omega, by go_num, hall.succ hx (by rw [hf]; rfl), by (repeat (first | with_reducible exact Mod.refl _ _ | with_reducible refine Mod.drewN ?_ _ | with_reducible refine Mod.drew ?_ | with_reducible refine Mod.alloc ?_ _ | ((with_reducible refine Mod.setNew ?_ ?_ _ _ _); (rotate_left; omega)) | with_reducible refine Mod.setAt ?_ _ _ _ | with_reducible exact hM | with_reducible refine Mod.thenNone ?_ hM ))⟩
          case measure => simp [intOf]; omega
    · have hk' : k = l.length := by omega
      subst hk'
      have hres := hid (find_none hall.full)
      clear hall
      go_wp2
      refine bodyPost_ret (v := .tuple #[.agg #[.int .i64 0, .int .i64 0, .int .i64 0], .bool false]) (by simp [results, Try.results13, go_sem, *]) rfl ⟨?_, by (repeat (first | with_reducible exact Mod.refl _ _ | with_reducible refine Mod.drewN ?_ _ | with_reducible refine Mod.drew ?_ | with_reducible refine Mod.alloc ?_ _ | ((with_reducible refine Mod.setNew ?_ ?_ _ _ _); (rotate_left; omega)) | with_reducible refine Mod.setAt ?_ _ _ _ | with_reducible exact hM0 | with_reducible refine Mod.thenNone ?_ hM0 ))⟩
      rw [ruleFor_none hres.out]
      rfl

set_option maxRecDepth 100000 in
set_option maxHeartbeats 2000000 in
theorem sruleFor_any (l : List Rule) (room : Int) (a : Option Addr) (c : Nat) (R : Nat → Prop) (w : World) (hl : l.length ≤ 1048576) (h : SliceAt (Flat Rule.cells) 3 R w a l) :
    Calls Try.prog 73 #[.agg #[.slice a l.length c], .int .i64 room] w fun e w' => e = .returned (.tuple #[.agg (ruleFor l room).1.cells.toArray, .bool (ruleFor l room).2]) ∧ Mod (fun _ => False) w w' := by
  have H := hid (h.flatKeep (((Mod.refl _ w).alloc (boxT a l.length c)).alloc (.cells #[.int .i64 0, .int .i64 0, .int .i64 0] 32)))
  clear h
  go_enter Try.func73, Try.ntmps73
  go_wp2
  go_loopw [6] (fun i wr => ∃ k : Nat, k ≤ l.length ∧ i = .int .i64 k ∧ AllIn (fun r => !fits room r) l k ∧ Mod (fun _ => False) ((w.alloc (boxT a l.length c)).alloc (.cells #[.int .i64 0, .int .i64 0, .int .i64 0] 32)) wr) (fun i _ => l.length - (intOf i).toNat)
  case atStart => exact ⟨0, by omega, rfl, rfl, Mod.refl _ _⟩
  case round =>
    obtain ⟨k, hk, rfl, hall, hM⟩ := hrel
    have hb0 : wr.cell? ⟨w.heap.size, 0, none⟩ = some (.slice a l.length c) := hM.keep _ _ (by simp [go_sem])
    have hB := hM.blk (heap_alloc_new (w.alloc (boxT a l.length c)) (.cells [.int .i64 0, .int .i64 0, .int .i64 0].toArray 32)) (fun f => f)
    rw [World.size_alloc] at hB
    have hsz := hM.size
    simp only [World.size_alloc] at hsz
    have hr0 : w.heap.size < wr.heap.size := by omega
    have hr1 : w.heap.size + 1 < wr.heap.size := by omega
    have rc0 := blk_cell hB (j := 0) rfl
    have rz0 := blk_free hB 0
    have rc1 := blk_cell hB (j := 1) rfl
    have rz1 := blk_free hB 1
    have rc2 := blk_cell hB (j := 2) rfl
    have rz2 := blk_free hB 2
    have hM0 : Mod (fun _ => False) w wr := (((Mod.refl _ w).alloc _).alloc _).trans hM
    clear hB
    by_cases hlt : k < l.length
    · obtain ⟨b, o, x, r, rfl, hb, hbw, hx, hr, hrl, hc⟩ := (H.out.flatKeep hM).get hlt
      obtain rfl : r = x.cells := hr
      have c0 := hc 0 _ rfl
      have c1 := hc 1 _ rfl
      have c2 := hc 2 _ rfl
      simp only [Nat.add_zero] at c0
      clear hc hrl
      by_cases h1 : room = -1
      · have hf : fits room x = true := by simp [fits, h1]
        have h1' : (room == -1) = true := by simpa using h1
        have hres := hid (find_at hall hx hf)
        clear h1 hf hall
        go_wp2
        refine bodyPost_ret (v := .tuple #[.agg x.cells.toArray, .bool true]) (by simp [results, Try.results73, go_sem, Rule.cells, *]) rfl ⟨?_, by (repeat (first | with_reducible exact Mod.refl _ _ | with_reducible refine Mod.drewN ?_ _ | with_reducible refine Mod.drew ?_ | with_reducible refine Mod.alloc ?_ _ | ((with_reducible refine Mod.setNew ?_ ?_ _ _ _); (rotate_left; omega)) | with_reducible refine Mod.setAt ?_ _ _ _ | with_reducible exact hM0 | with_reducible refine Mod.thenNone ?_ hM0 ))⟩
        rw [ruleFor_some hres.out]
      · have h1' : (room == -1) = false := by simpa using h1
        by_cases h2 : x.room ≤ room
        · have hf : fits room x = true := by simp [fits, h2]
          have hres := hid (find_at hall hx hf)
          clear h1 hf hall
          go_wp2
          refine bodyPost_ret (v := .tuple #[.agg x.cells.toArray, .bool true]) (by simp [results, Try.results73, go_sem, Rule.cells, *]) rfl ⟨?_, by (repeat (first | with_reducible exact Mod.refl _ _ | with_reducible refine Mod.drewN ?_ _ | with_reducible refine Mod.drew ?_ | with_reducible refine Mod.alloc ?_ _ | ((with_reducible refine Mod.setNew ?_ ?_ _ _ _); (rotate_left; omega)) | with_reducible refine Mod.setAt ?_ _ _ _ | with_reducible exact hM0 | with_reducible refine Mod.thenNone ?_ hM0 ))⟩
          rw [ruleFor_some hres.out]
        · have hf : fits room x = false := by simp [fits, h1, h2]
          clear h1
          go_wp2
          go_roundw
          case rel => exact ⟨k + 1, by omega, by go_num, hall.succ hx (by rw [hf]; rfl), by (repeat (first | with_reducible exact Mod.refl _ _ | with_reducible refine Mod.drewN ?_ _ | with_reducible refine Mod.drew ?_ | with_reducible refine Mod.alloc ?_ _ | ((with_reducible refine Mod.setNew ?_ ?_ _ _ _); (rotate_left; omega)) | with_reducible refine Mod.setAt ?_ _ _ _ | with_reducible exact hM | with_reducible refine Mod.thenNone ?_ hM ))⟩
          case measure => simp [intOf]; omega
    · have hk' : k = l.length := by omega
      subst hk'
      have hres := hid (find_none hall.full)
      clear hall
      go_wp2
      refine bodyPost_ret (v := .tuple #[.agg #[.int .i64 0, .int .i64 0, .int .i64 0], .bool false]) (by simp [results, Try.results73, go_sem, *]) rfl ⟨?_, by (repeat (first | with_reducible exact Mod.refl _ _ | with_reducible refine Mod.drewN ?_ _ | with_reducible refine Mod.drew ?_ | with_reducible refine Mod.alloc ?_ _ | ((with_reducible refine Mod.setNew ?_ ?_ _ _ _); (rotate_left; omega)) | with_reducible refine Mod.setAt ?_ _ _ _ | with_reducible exact hM0 | with_reducible refine Mod.thenNone ?_ hM0 ))⟩
      rw [ruleFor_none hres.out]
      rfl

set_option maxRecDepth 100000 in
set_option maxHeartbeats 2000000 in
theorem wantedOf_any (l : List Rule) (room : Int) (a : Option Addr) (c : Nat) (R : Nat → Prop) (w : World) (hl : l.length ≤ 1048576) (h : SliceAt (Flat Rule.cells) 3 R w a l) :
    Calls Try.prog 11 #[.agg #[.slice a l.length c], .int .i64 room] w fun e w' => e = .returned (.tuple #[.int .i64 (wantedOf l room).1, .int .i64 (wantedOf l room).2]) ∧ Mod (fun _ => False) w w' := by
  have H := hid (h.flatKeep ((Mod.refl _ w).alloc (boxT a l.length c)))
  clear h
  have hno := ruleFor_no l room
  obtain ⟨q, hq⟩ : ∃ q, q = ruleFor l room := ⟨_, rfl⟩
  have hcall := fun W h' => ruleFor_any l room a c R W hl h'
  rw [wantedOf_eq, ← hq]
  simp only [← hq] at hcall hno
  clear hq
  obtain ⟨⟨x0, x1, x2⟩, ok⟩ := q
  simp only [Rule.cells] at hno hcall
  go_enter Try.func11, Try.ntmps11
  go_wp2_with fail
  refine (hcall _ H.out).mono ?_
  rintro e w1 ⟨rfl, hm1⟩
  have hM0 : Mod (fun _ => False) w w1 := ((Mod.refl _ w).alloc _).trans hm1
  clear hm1 hcall
  cases ok
  · have := hno rfl
    simp only [Rule.mk.injEq] at this
    obtain ⟨rfl, rfl, rfl⟩ := this
    go_wp2
    go_ret2
    exact ⟨rfl, by (repeat (first | with_reducible exact Mod.refl _ _ | with_reducible refine Mod.drewN ?_ _ | with_reducible refine Mod.drew ?_ | with_reducible refine Mod.alloc ?_ _ | ((with_reducible refine Mod.setNew ?_ ?_ _ _ _); (rotate_left; omega)) | with_reducible refine Mod.setAt ?_ _ _ _ | with_reducible exact hM0 | with_reducible refine Mod.thenNone ?_ hM0 ))⟩
  · clear hno
    go_wp2
    have q1 : (w1.alloc (.cells #[.int .i64 x0, .int .i64 x1, .int .i64 x2] 32)).cell? ⟨w1.heap.size, 1, none⟩ = some (.int .i64 x1) := by simp [go_sem]
    have q2 : (w1.alloc (.cells #[.int .i64 x0, .int .i64 x1, .int .i64 x2] 32)).cell? ⟨w1.heap.size, 2, none⟩ = some (.int .i64 x2) := by simp [go_sem]
    have r1 := hold q1
    have r2 := hold q2
    clear q1 q2
    refine wp_region_mod (by kernel_rfl) (by kernel_rfl) ?_
    repeat (first | (refine RM.skip (fun _ => rfl) ?_; (try simp only [Act.put, List.setIfInBounds_toArray, List.set_cons_zero, List.set_cons_succ])) | (refine RM.const (v := ?_) (fun _ => rfl) (fun xq wq hSq => ?_) ?_; rotate_left; (focus (go_simp; (first | done | with_reducible rfl))); (try simp only [Act.put, List.setIfInBounds_toArray, List.set_cons_zero, List.set_cons_succ])) | (refine RM.callc (v := ?_) (f := ?_) (args := ?_) (fun _ => rfl) (fun xq wq hSq => ?_) (fun wq hSq => ?_) ?_; rotate_left 3; (focus (go_simp; (refine ⟨?_, ?_⟩ <;> with_reducible rfl))); (focus ((first | (refine Calls.kept ?_; exact (clamped_any _ _))))); (try simp only [Act.put, List.setIfInBounds_toArray, List.set_cons_zero, List.set_cons_succ])) | (refine RM.lit (n := ?_) (vals := ?_) (e := ?_) (fun _ => rfl) (fun xq wq hSq => ?_) ?_; rotate_left 3; (focus (go_simp; (first | done | with_reducible rfl | (refine ⟨?_, ?_⟩ <;> with_reducible rfl)))); (try simp only [Act.put, List.setIfInBounds_toArray, List.set_cons_zero, List.set_cons_succ])))
    refine RM.done (fun xq wq hSq hUq => ?_)
    clear r1 r2
    go_wp2
    go_ret2
    exact ⟨rfl, (hM0.alloc _).thenNone hSq⟩

set_option maxRecDepth 100000 in
set_option maxHeartbeats 2000000 in
theorem swantedOf_any (l : List Rule) (room : Int) (a : Option Addr) (c : Nat) (R : Nat → Prop) (w : World) (hl : l.length ≤ 1048576) (h : SliceAt (Flat Rule.cells) 3 R w a l) :
    Calls Try.prog 12 #[.agg #[.slice a l.length c], .int .i64 room] w fun e w' => e = .returned (.tuple #[.int .i64 (wantedOf l room).1, .int .i64 (wantedOf l room).2]) ∧ Mod (fun _ => False) w w' := by
  have H := hid (h.flatKeep ((Mod.refl _ w).alloc (boxT a l.length c)))
  clear h
  have hno := ruleFor_no l room
  obtain ⟨q, hq⟩ : ∃ q, q = ruleFor l room := ⟨_, rfl⟩
  have hcall := fun W h' => sruleFor_any l room a c R W hl h'
  rw [wantedOf_eq, ← hq]
  simp only [← hq] at hcall hno
  clear hq
  obtain ⟨⟨x0, x1, x2⟩, ok⟩ := q
  simp only [Rule.cells] at hno hcall
  go_enter Try.func12, Try.ntmps12
  go_wp2_with fail
  refine (hcall _ H.out).mono ?_
  rintro e w1 ⟨rfl, hm1⟩
  have hM0 : Mod (fun _ => False) w w1 := ((Mod.refl _ w).alloc _).trans hm1
  clear hm1 hcall
  clear hno
  go_wp2
  have q1 : (w1.alloc (.cells #[.int .i64 x0, .int .i64 x1, .int .i64 x2] 32)).cell? ⟨w1.heap.size, 1, none⟩ = some (.int .i64 x1) := by simp [go_sem]
  have q2 : (w1.alloc (.cells #[.int .i64 x0, .int .i64 x1, .int .i64 x2] 32)).cell? ⟨w1.heap.size, 2, none⟩ = some (.int .i64 x2) := by simp [go_sem]
  have r1 := hold q1
  have r2 := hold q2
  clear q1 q2
  refine wp_region_mod (by kernel_rfl) (by kernel_rfl) ?_
  repeat (first | (refine RM.skip (fun _ => rfl) ?_; (try simp only [Act.put, List.setIfInBounds_toArray, List.set_cons_zero, List.set_cons_succ])) | (refine RM.const (v := ?_) (fun _ => rfl) (fun xq wq hSq => ?_) ?_; rotate_left; (focus (go_simp; (first | done | with_reducible rfl))); (try simp only [Act.put, List.setIfInBounds_toArray, List.set_cons_zero, List.set_cons_succ])) | (refine RM.callc (v := ?_) (f := ?_) (args := ?_) (fun _ => rfl) (fun xq wq hSq => ?_) (fun wq hSq => ?_) ?_; rotate_left 3; (focus (go_simp; (refine ⟨?_, ?_⟩ <;> with_reducible rfl))); (focus ((first | (refine Calls.kept ?_; exact (sclamped_any _ _))))); (try simp only [Act.put, List.setIfInBounds_toArray, List.set_cons_zero, List.set_cons_succ])) | (refine RM.lit (n := ?_) (vals := ?_) (e := ?_) (fun _ => rfl) (fun xq wq hSq => ?_) ?_; rotate_left 3; (focus (go_simp; (first | done | with_reducible rfl | (refine ⟨?_, ?_⟩ <;> with_reducible rfl)))); (try simp only [Act.put, List.setIfInBounds_toArray, List.set_cons_zero, List.set_cons_succ])))
  refine RM.done (fun xq wq hSq hUq => ?_)
  clear r1 r2
  go_wp2
  go_ret2
  exact ⟨rfl, (hM0.alloc _).thenNone hSq⟩

end Go.Proofs.Ytefgjjmnjanleaa
