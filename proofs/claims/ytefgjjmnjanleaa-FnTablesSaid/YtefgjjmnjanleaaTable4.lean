/-
  PROVED: SameTable and the laws' comparisons of rules: they tell whether the lists are the same. No condition but a bound on the length.
-/
import Derived.Test.YtefgjjmnjanleaaTable
import Derived.Test.YtefgjjmnjanleaaInts
namespace Go.Proofs.Ytefgjjmnjanleaa
open Go.RowKit

theorem Rule.eq_iff (x y : Rule) : x = y ↔ x.room = y.room ∧ x.wide = y.wide ∧ x.high = y.high := by
  cases x; cases y; simp
theorem Rule.run_eq (x y : Rule) (w : World) : (Op.equalIn 10000 32 (.agg #[.int .i64 x.room, .int .i64 x.wide, .int .i64 x.high]) (.agg #[.int .i64 y.room, .int .i64 y.wide, .int .i64 y.high])).run Try.prog w = .ok (decide (x = y)) w := by
  rw [show decide (x = y) = decide (x.room = y.room ∧ x.wide = y.wide ∧ x.high = y.high) from decide_eq_decide.2 (Rule.eq_iff x y)]
  obtain ⟨x0, x1, x2⟩ := x
  obtain ⟨y0, y1, y2⟩ := y
  by_cases h0 : x0 = y0 <;> by_cases h1 : x1 = y1 <;> by_cases h2 : x2 = y2 <;> simp [go_sem, *]
@[go_sem high] theorem Rule.run_neq (x y : Rule) (w : World) : (binOp .neq 32 (.agg #[.int .i64 x.room, .int .i64 x.wide, .int .i64 x.high]) (.agg #[.int .i64 y.room, .int .i64 y.wide, .int .i64 y.high])).run Try.prog w = .ok (.bool (!decide (x = y))) w := by
  rw [run_neq_struct, Rule.run_eq]; rfl
@[go_sem high] theorem Rule.run_eql (x y : Rule) (w : World) : (binOp .eql 32 (.agg #[.int .i64 x.room, .int .i64 x.wide, .int .i64 x.high]) (.agg #[.int .i64 y.room, .int .i64 y.wide, .int .i64 y.high])).run Try.prog w = .ok (.bool (decide (x = y))) w := by
  rw [run_eql_struct, Rule.run_eq]; rfl

set_option maxRecDepth 100000 in
set_option maxHeartbeats 1000000 in
theorem sameRules_any (l m : List Rule) (a a' : Option Addr) (c c' : Nat) (R S : Nat → Prop) (w : World) (hl : l.length ≤ 1048576) (_hm : m.length ≤ 1048576) (h : SliceAt (Flat Rule.cells) 3 R w a l) (h' : SliceAt (Flat Rule.cells) 3 S w a' m) :
    Calls Try.prog 80 #[.slice a l.length c, .slice a' m.length c'] w fun e w' => e = .returned (.bool (decide (l = m))) ∧ Mod (fun _ => False) w w' := by
  have H := hid h
  have H' := hid h'
  clear h h'
  by_cases hlen : l.length = m.length
  · have hn0 : ((l.length : Int) != (m.length : Int)) = false := by simp [hlen]
    have hn1 : l.length ≤ m.length := by omega
    have hn2 : m.length ≤ l.length := by omega
    clear hlen
    go_enter Try.func80, Try.ntmps80
    go_wp2
    go_loopw [5] (fun i wr => ∃ k : Nat, k ≤ l.length ∧ i = .int .i64 k ∧ SameTo l m k ∧ Mod (fun _ => False) w wr) (fun i _ => l.length - (intOf i).toNat)
    case atStart => exact ⟨0, by omega, rfl, rfl, Mod.refl _ _⟩
    case round =>
      obtain ⟨k, hk, rfl, hsame, hmod⟩ := hrel
      by_cases hlt : k < l.length
      · obtain ⟨b, o, x, r, rfl, hb, hbw, hx, hr, hrl, hc⟩ := (H.out.flatKeep hmod).get hlt
        obtain rfl : r = x.cells := hr
        obtain ⟨b', o', y, r', rfl, hb', hbw', hy, hr', hrl', hd⟩ := (H'.out.flatKeep hmod).get (show k < m.length by omega)
        obtain rfl : r' = y.cells := hr'
        have hlt2 : k < m.length := by omega
        have c0 := hc 0 _ rfl
        have d0 := hd 0 _ rfl
        have c1 := hc 1 _ rfl
        have d1 := hd 1 _ rfl
        have c2 := hc 2 _ rfl
        have d2 := hd 2 _ rfl
        simp only [Nat.add_zero] at c0 d0
        clear hc hd hrl hrl'
        by_cases hxy : x = y
        · have hne : decide (x = y) = true := decide_eq_true hxy
          have Hxy := hid hxy
          clear hxy
          go_wp2
          go_quiet (fail)
          go_wp2
          go_roundw
          case rel => exact ⟨k + 1, by omega, by go_num, hsame.succ hx (Hxy.out ▸ hy), hmod.drewN _⟩
          case measure => simp [intOf]; omega
        · have hne : decide (x = y) = false := decide_eq_false hxy
          go_wp2
          go_quiet (fail)
          go_wp2
          go_ret
          exact ⟨ret_bool (decide_eq_false (ne_at hx hy hxy)).symm, hmod.drewN _⟩
      · go_wp2
        go_ret
        exact ⟨ret_bool (decide_eq_true (hsame.all (by omega) (by omega))).symm, hmod⟩
  · have hn0 : ((l.length : Int) != (m.length : Int)) = true := by simp; omega
    have hne : l ≠ m := fun h => hlen (by rw [h])
    clear hlen
    go_enter Try.func80, Try.ntmps80
    go_wp2
    go_ret
    exact ⟨ret_bool (decide_eq_false hne).symm, Mod.refl _ _⟩

set_option maxRecDepth 100000 in
theorem sameTable_any (l m : List Rule) (a a' : Option Addr) (c c' : Nat) (R S : Nat → Prop) (w : World) (hl : l.length ≤ 1048576) (hm : m.length ≤ 1048576) (h : SliceAt (Flat Rule.cells) 3 R w a l) (h' : SliceAt (Flat Rule.cells) 3 S w a' m) :
    Calls Try.prog 21 #[.agg #[.slice a l.length c], .agg #[.slice a' m.length c']] w fun e w' => e = .returned (.bool (decide (l = m))) ∧ Mod (fun _ => False) w w' := by
  have hM : Mod (fun _ => False) w ((w.alloc (boxT a l.length c)).alloc (boxT a' m.length c')) := ((Mod.refl _ w).alloc _).alloc _
  have H := hid (h.flatKeep hM)
  have H' := hid (h'.flatKeep hM)
  clear h h'
  go_enter Try.func21, Try.ntmps21
  go_wp2_with fail
  refine (sameRules_any l m _ _ _ _ R S _ hl hm H.out H'.out).mono ?_
  rintro e w1 ⟨rfl, hm1⟩
  go_wp2
  go_ret
  exact ⟨rfl, hM.thenNone hm1⟩

set_option maxRecDepth 100000 in
set_option maxHeartbeats 1000000 in
theorem implSameTable_any (l m : List Rule) (a a' : Option Addr) (c c' : Nat) (R S : Nat → Prop) (w : World) (hl : l.length ≤ 1048576) (_hm : m.length ≤ 1048576) (h : SliceAt (Flat Rule.cells) 3 R w a l) (h' : SliceAt (Flat Rule.cells) 3 S w a' m) :
    Calls Try.prog 20 #[.agg #[.slice a l.length c], .agg #[.slice a' m.length c']] w fun e w' => e = .returned (.bool (decide (l = m))) ∧ Mod (fun _ => False) w w' := by
  have hM : Mod (fun _ => False) w ((w.alloc (boxT a l.length c)).alloc (boxT a' m.length c')) := ((Mod.refl _ w).alloc _).alloc _
  have H := hid (h.flatKeep hM)
  have H' := hid (h'.flatKeep hM)
  clear h h'
  by_cases hlen : l.length = m.length
  · have hn0 : ((l.length : Int) != (m.length : Int)) = false := by simp [hlen]
    have hn1 : l.length ≤ m.length := by omega
    have hn2 : m.length ≤ l.length := by omega
    clear hlen
    go_enter Try.func20, Try.ntmps20
    go_wp2
    go_loopw [16] (fun i wr => ∃ k : Nat, k ≤ l.length ∧ i = .int .i64 k ∧ SameTo l m k ∧ Mod (fun _ => False) ((w.alloc (boxT a l.length c)).alloc (boxT a' m.length c')) wr) (fun i _ => l.length - (intOf i).toNat)
    case atStart => exact ⟨0, by omega, rfl, rfl, Mod.refl _ _⟩
    case round =>
      obtain ⟨k, hk, rfl, hsame, hmod⟩ := hrel
      have hb0 : wr.cell? ⟨w.heap.size, 0, none⟩ = some (.slice a l.length c) := hmod.keep _ _ (by simp [go_sem])
      have hb1 : wr.cell? ⟨w.heap.size + 1, 0, none⟩ = some (.slice a' m.length c') := hmod.keep _ _ (by simp [go_sem])
      by_cases hlt : k < l.length
      · obtain ⟨b, o, x, r, rfl, hb, hbw, hx, hr, hrl, hc⟩ := (H.out.flatKeep hmod).get hlt
        obtain rfl : r = x.cells := hr
        obtain ⟨b', o', y, r', rfl, hb', hbw', hy, hr', hrl', hd⟩ := (H'.out.flatKeep hmod).get (show k < m.length by omega)
        obtain rfl : r' = y.cells := hr'
        have hlt2 : k < m.length := by omega
        have c0 := hc 0 _ rfl
        have d0 := hd 0 _ rfl
        have c1 := hc 1 _ rfl
        have d1 := hd 1 _ rfl
        have c2 := hc 2 _ rfl
        have d2 := hd 2 _ rfl
        simp only [Nat.add_zero] at c0 d0
        clear hc hd hrl hrl'
        by_cases hxy : x = y
        · have hne : decide (x = y) = true := decide_eq_true hxy
          have Hxy := hid hxy
          clear hxy
          go_wp2
          go_quiet (fail)
          go_wp2
          go_roundw
          case rel => exact ⟨k + 1, by omega, by go_num, hsame.succ hx (Hxy.out ▸ hy), hmod.drewN _⟩
          case measure => simp [intOf]; omega
        · have hne : decide (x = y) = false := decide_eq_false hxy
          go_wp2
          go_quiet (fail)
          go_wp2
          go_ret
          exact ⟨ret_bool (decide_eq_false (ne_at hx hy hxy)).symm, hM.trans (hmod.drewN _)⟩
      · go_wp2
        go_ret
        exact ⟨ret_bool (decide_eq_true (hsame.all (by omega) (by omega))).symm, hM.trans hmod⟩
  · have hn0 : ((l.length : Int) != (m.length : Int)) = true := by simp; omega
    have hne : l ≠ m := fun h => hlen (by rw [h])
    clear hlen
    go_enter Try.func20, Try.ntmps20
    go_wp2
    go_ret
    exact ⟨ret_bool (decide_eq_false hne).symm, hM⟩

end Go.Proofs.Ytefgjjmnjanleaa
