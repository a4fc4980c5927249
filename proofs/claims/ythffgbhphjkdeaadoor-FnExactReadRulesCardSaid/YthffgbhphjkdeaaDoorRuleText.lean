/-
  PROVED: RuleText: the program's and the reference's write the same text of a table. Condition: the library's table of powers lies as its text lays it.
-/
import Derived.Test.YthffgbhphjkdeaaDoorFrameLine
import Derived.Test.YthffgbhphjkdeaaDoorTable
namespace Go.Proofs.YthffgbhphjkdeaaDoor
open Go.RowKit

def ruleWord (r : Rule) : List UInt8 := Lib.itoa r.room ++ [58] ++ Lib.itoa r.wide ++ [58] ++ Lib.itoa r.high
def ruleTextOf (l : List Rule) : List UInt8 := if l.length = 0 then [45] else if tableOk l then Lib.join (l.map ruleWord) [44] else []
theorem ruleIn_bounds {r : Rule} (h : ruleIn r = true) : I64 r.room ∧ I64 r.wide ∧ I64 r.high := by
  unfold ruleIn inB at h
  simp only [Bool.and_eq_true, decide_eq_true_eq] at h
  obtain ⟨⟨⟨a, b⟩, c, d⟩, e, f⟩ := h
  exact ⟨⟨by omega, by omega⟩, ⟨by omega, by omega⟩, by omega, by omega⟩
theorem tableOk_parts {l : List Rule} (h : tableOk l = true) : l.length ≤ 6 ∧ ∀ r ∈ l, ruleIn r = true := by
  unfold tableOk inB at h
  simp only [Bool.and_eq_true, decide_eq_true_eq] at h
  exact ⟨by omega, List.all_eq_true.1 h.2⟩
theorem ruleWord_length {r : Rule} (h : ruleIn r = true) : (ruleWord r).length ≤ 65 := by
  obtain ⟨b0, b1, b2⟩ := ruleIn_bounds h
  have l0 := Lib.itoa_length_le _ b0.1 b0.2
  have l1 := Lib.itoa_length_le _ b1.1 b1.2
  have l2 := Lib.itoa_length_le _ b2.1 b2.2
  unfold ruleWord
  simp only [List.length_append, List.length_cons, List.length_nil]
  omega
theorem ruleTail_length {l : List Rule} (h : ∀ r ∈ l, ruleIn r = true) : (Lib.joinTail [44] (l.map ruleWord)).length ≤ l.length * 66 := by
  induction l with
  | nil => simp [Lib.joinTail]
  | cons x l ih =>
    have h1 := ih fun y hy => h y (List.mem_cons_of_mem _ hy)
    have h2 := ruleWord_length (h x List.mem_cons_self)
    unfold Lib.joinTail at h1 ⊢
    simp only [List.map_cons, List.flatten_cons, List.length_append, List.length_cons, List.length_nil] at h1 ⊢
    omega
theorem ruleJoin_length {l : List Rule} (h : ∀ r ∈ l, ruleIn r = true) : (Lib.join (l.map ruleWord) [44]).length ≤ l.length * 66 := by
  cases l with
  | nil => simp [Lib.join, List.intercalate]
  | cons x l =>
    have h1 := ruleTail_length fun y hy => h y (List.mem_cons_of_mem _ hy)
    have h2 := ruleWord_length (h x List.mem_cons_self)
    rw [List.map_cons, Lib.join_cons, List.length_append, List.length_cons]
    omega
theorem join_snoc {l : List (List UInt8)} (hl : l ≠ []) (x sep : List UInt8) : Lib.join (l ++ [x]) sep = Lib.join l sep ++ sep ++ x := by
  cases l with
  | nil => exact (hl rfl).elim
  | cons y l => simp [Lib.join_cons, Lib.joinTail]

set_option maxRecDepth 100000 in
set_option maxHeartbeats 4000000 in
theorem sruleText_any (l : List Rule) (a : Option Addr) (c : Nat) (R : Nat → Prop) (w : World) (hl : l.length ≤ 1048576) (h : SliceAt (Flat Rule.cells) 3 R w a l) :
    Calls Tryd.prog 78 #[.agg #[.slice a l.length c]] w fun e w' => e = .returned (.string ⟨(ruleTextOf l).toArray⟩) ∧ Mod (fun _ => False) w w' := by
  have H := hid (h.flatKeep ((Mod.refl _ w).alloc (boxT a l.length c)))
  clear h
  by_cases h0 : l.length = 0
  · have e : ruleTextOf l = [45] := by unfold ruleTextOf; rw [if_pos h0]
    rw [e, h0]
    clear e hl H h0
    go_enter Tryd.func78, Tryd.ntmps78
    go_wp2
    go_ret
    exact ⟨rfl, by (repeat (first | with_reducible exact Mod.refl _ _ | with_reducible refine Mod.drewN ?_ _ | with_reducible refine Mod.drew ?_ | with_reducible refine Mod.alloc ?_ _ | ((with_reducible refine Mod.setNew ?_ ?_ _ _ _); (rotate_left; omega)) | with_reducible refine Mod.setAt ?_ _ _ _ ))⟩
  · have hne : ((l.length : Int) == 0) = false := by simpa using h0
    have h1 : 1 ≤ l.length := by omega
    have hT := stableOk_any l a c _ _ hl H.out
    cases hok : tableOk l
    · have e : ruleTextOf l = [] := by unfold ruleTextOf; rw [if_neg h0, hok]; rfl
      rw [e]
      rw [hok] at hT
      clear e h0 hok
      go_enter Tryd.func78, Tryd.ntmps78
      go_wp2_with fail
      refine hT.mono ?_
      rintro e w1 ⟨rfl, hm1⟩
      clear hT
      go_wp2
      go_ret
      exact ⟨rfl, ((Mod.refl _ w).alloc _).thenNone hm1⟩
    · have e : ruleTextOf l = Lib.join (l.map ruleWord) [44] := by unfold ruleTextOf; rw [if_neg h0, hok]; rfl
      rw [e]
      rw [hok] at hT
      obtain ⟨hl6, hall⟩ := tableOk_parts hok
      have Hall := hid hall
      have hB := heap_alloc_new w (.cells [Value.slice a l.length c].toArray 60)
      clear e h0 hok hall
      go_enter Tryd.func78, Tryd.ntmps78
      go_wp2_with fail
      refine hT.mono ?_
      rintro e w1 ⟨rfl, hm1⟩
      have hM1 : Mod (fun _ => False) w w1 := ((Mod.refl _ w).alloc _).thenNone hm1
      have hB1 := hm1.blk hB (fun f => f)
      have H1 := hid (H.out.flatKeep hm1)
      have hr0 : w.heap.size < w1.heap.size := (Array.getElem?_eq_some_iff.1 hB1).1
      clear hT hB hm1 H
      go_wp2_with fail
      go_loopw [3, 4] (fun s i wr => ∃ (k : Nat) (t : List UInt8), k ≤ l.length ∧ i = .int .i64 k ∧ s = .string ⟨t.toArray⟩ ∧ Hid (t = Lib.join ((l.take k).map ruleWord) [44]) ∧ Mod (fun _ => False) w1 wr) (fun _ i _ => l.length - (intOf i).toNat)
      case atStart => exact ⟨0, [], by omega, rfl, rfl, rfl, Mod.refl _ _⟩
      case round =>
        obtain ⟨k, t, hk, rfl, rfl, hs, hM⟩ := hrel
        have hBr := hM.blk hB1 (fun f => f)
        have hr1 : w.heap.size < wr.heap.size := (Array.getElem?_eq_some_iff.1 hBr).1
        have sc0 := blk_cell hBr (j := 0) rfl
        have sz0 := blk_free hBr 0
        have ht400 : t.length ≤ 400 := by
          have := ruleJoin_length (l := l.take k) fun r hr => Hall.out r (List.mem_of_mem_take hr)
          rw [← hs.out] at this
          simp only [List.length_take] at this
          omega
        by_cases hlt : k < l.length
        · obtain ⟨b, o, x, r, rfl, hb, hbw, hx, hr, hrl, hc⟩ := (H1.out.flatKeep hM).get hlt
          obtain rfl : r = x.cells := hr
          have c0 := hc 0 _ rfl
          have c1 := hc 1 _ rfl
          have c2 := hc 2 _ rfl
          simp only [Nat.add_zero] at c0
          obtain ⟨b0, b1, b2⟩ := ruleIn_bounds (Hall.out x (List.mem_of_getElem? hx.out))
          have k0 := fun W => sdecimal_any x.room b0.1 b0.2 W
          have k1 := fun W => sdecimal_any x.wide b1.1 b1.2 W
          have k2 := fun W => sdecimal_any x.high b2.1 b2.2 W
          have l0 := Lib.itoa_length_le _ b0.1 b0.2
          have l1 := Lib.itoa_length_le _ b1.1 b1.2
          have l2 := Lib.itoa_length_le _ b2.1 b2.2
          have q0 := hold (W := wr) sc0
          have q1 := hold c0
          have q2 := hold c1
          have q3 := hold c2
          clear hc hrl b0 b1 b2 c0 c1 c2
          by_cases hk0 : k = 0
          · have hk1 : k ≤ 0 := by omega
            have Hk0 := hid hk0
            clear hk0
            go_wp2
            refine wp_region_mod_tail 27 (by kernel_rfl) (by kernel_rfl) (by kernel_rfl) ?_
            simp only [List.take_succ_cons, List.take_zero, List.drop_succ_cons, List.drop_zero]
            refine RM.const (v := ?_) (fun _ => rfl) (fun xq wq hSq => ?_) ?_; rotate_left; (focus (go_simp; (first | done | with_reducible rfl | ((split; (exfalso; omega)); with_reducible rfl)))); (try simp only [Act.put, List.setIfInBounds_toArray, List.set_cons_zero, List.set_cons_succ])
            refine RM.const (v := ?_) (fun _ => rfl) (fun xq wq hSq => ?_) ?_; rotate_left; (focus (go_simp; (first | done | with_reducible rfl | ((split; (exfalso; omega)); with_reducible rfl)))); (try simp only [Act.put, List.setIfInBounds_toArray, List.set_cons_zero, List.set_cons_succ])
            refine RM.const (v := ?_) (fun _ => rfl) (fun xq wq hSq => ?_) ?_; rotate_left; (focus (go_simp; (first | done | with_reducible rfl | ((split; (exfalso; omega)); with_reducible rfl)))); (try simp only [Act.put, List.setIfInBounds_toArray, List.set_cons_zero, List.set_cons_succ])
            refine RM.const (v := ?_) (fun _ => rfl) (fun xq wq hSq => ?_) ?_; rotate_left; (focus (go_simp; (first | done | with_reducible rfl | ((split; (exfalso; omega)); with_reducible rfl)))); (try simp only [Act.put, List.setIfInBounds_toArray, List.set_cons_zero, List.set_cons_succ])
            refine RM.const (v := ?_) (fun _ => rfl) (fun xq wq hSq => ?_) ?_; rotate_left; (focus (go_simp; (first | done | with_reducible rfl | ((split; (exfalso; omega)); with_reducible rfl)))); (try simp only [Act.put, List.setIfInBounds_toArray, List.set_cons_zero, List.set_cons_succ])
            refine RM.const (v := ?_) (fun _ => rfl) (fun xq wq hSq => ?_) ?_; rotate_left; (focus (go_simp; (first | done | with_reducible rfl | ((split; (exfalso; omega)); with_reducible rfl)))); (try simp only [Act.put, List.setIfInBounds_toArray, List.set_cons_zero, List.set_cons_succ])
            refine RM.const (v := ?_) (fun _ => rfl) (fun xq wq hSq => ?_) ?_; rotate_left; (focus (go_simp; (first | done | with_reducible rfl | ((split; (exfalso; omega)); with_reducible rfl)))); (try simp only [Act.put, List.setIfInBounds_toArray, List.set_cons_zero, List.set_cons_succ])
            refine RM.callc (v := ?_) (f := ?_) (args := ?_) (fun _ => rfl) (fun xq wq hSq => ?_) (fun wq hSq => ?_) ?_; rotate_left 3; (focus (go_simp; (refine ⟨?_, ?_⟩ <;> with_reducible rfl))); (focus (exact k0 _)); (try simp only [Act.put, List.setIfInBounds_toArray, List.set_cons_zero, List.set_cons_succ])
            refine RM.const (v := ?_) (fun _ => rfl) (fun xq wq hSq => ?_) ?_; rotate_left; (focus (go_simp; (first | done | with_reducible rfl | ((split; (exfalso; omega)); with_reducible rfl)))); (try simp only [Act.put, List.setIfInBounds_toArray, List.set_cons_zero, List.set_cons_succ])
            refine RM.const (v := ?_) (fun _ => rfl) (fun xq wq hSq => ?_) ?_; rotate_left; (focus (go_simp; (first | done | with_reducible rfl | ((split; (exfalso; omega)); with_reducible rfl)))); (try simp only [Act.put, List.setIfInBounds_toArray, List.set_cons_zero, List.set_cons_succ])
            refine RM.const (v := ?_) (fun _ => rfl) (fun xq wq hSq => ?_) ?_; rotate_left; (focus (go_simp; (first | done | with_reducible rfl | ((split; (exfalso; omega)); with_reducible rfl)))); (try simp only [Act.put, List.setIfInBounds_toArray, List.set_cons_zero, List.set_cons_succ])
            refine RM.const (v := ?_) (fun _ => rfl) (fun xq wq hSq => ?_) ?_; rotate_left; (focus (go_simp; (first | done | with_reducible rfl | ((split; (exfalso; omega)); with_reducible rfl)))); (try simp only [Act.put, List.setIfInBounds_toArray, List.set_cons_zero, List.set_cons_succ])
            refine RM.const (v := ?_) (fun _ => rfl) (fun xq wq hSq => ?_) ?_; rotate_left; (focus (go_simp; (first | done | with_reducible rfl | ((split; (exfalso; omega)); with_reducible rfl)))); (try simp only [Act.put, List.setIfInBounds_toArray, List.set_cons_zero, List.set_cons_succ])
            refine RM.const (v := ?_) (fun _ => rfl) (fun xq wq hSq => ?_) ?_; rotate_left; (focus (go_simp; (first | done | with_reducible rfl | ((split; (exfalso; omega)); with_reducible rfl)))); (try simp only [Act.put, List.setIfInBounds_toArray, List.set_cons_zero, List.set_cons_succ])
            refine RM.const (v := ?_) (fun _ => rfl) (fun xq wq hSq => ?_) ?_; rotate_left; (focus (go_simp; (first | done | with_reducible rfl | ((split; (exfalso; omega)); with_reducible rfl)))); (try simp only [Act.put, List.setIfInBounds_toArray, List.set_cons_zero, List.set_cons_succ])
            refine RM.const (v := ?_) (fun _ => rfl) (fun xq wq hSq => ?_) ?_; rotate_left; (focus (go_simp; (first | done | with_reducible rfl | ((split; (exfalso; omega)); with_reducible rfl)))); (try simp only [Act.put, List.setIfInBounds_toArray, List.set_cons_zero, List.set_cons_succ])
            refine RM.callc (v := ?_) (f := ?_) (args := ?_) (fun _ => rfl) (fun xq wq hSq => ?_) (fun wq hSq => ?_) ?_; rotate_left 3; (focus (go_simp; (refine ⟨?_, ?_⟩ <;> with_reducible rfl))); (focus (exact k1 _)); (try simp only [Act.put, List.setIfInBounds_toArray, List.set_cons_zero, List.set_cons_succ])
            refine RM.const (v := ?_) (fun _ => rfl) (fun xq wq hSq => ?_) ?_; rotate_left; (focus (go_simp; (first | done | with_reducible rfl | ((split; (exfalso; omega)); with_reducible rfl)))); (try simp only [Act.put, List.setIfInBounds_toArray, List.set_cons_zero, List.set_cons_succ])
            refine RM.const (v := ?_) (fun _ => rfl) (fun xq wq hSq => ?_) ?_; rotate_left; (focus (go_simp; (first | done | with_reducible rfl | ((split; (exfalso; omega)); with_reducible rfl)))); (try simp only [Act.put, List.setIfInBounds_toArray, List.set_cons_zero, List.set_cons_succ])
            refine RM.const (v := ?_) (fun _ => rfl) (fun xq wq hSq => ?_) ?_; rotate_left; (focus (go_simp; (first | done | with_reducible rfl | ((split; (exfalso; omega)); with_reducible rfl)))); (try simp only [Act.put, List.setIfInBounds_toArray, List.set_cons_zero, List.set_cons_succ])
            refine RM.const (v := ?_) (fun _ => rfl) (fun xq wq hSq => ?_) ?_; rotate_left; (focus (go_simp; (first | done | with_reducible rfl | ((split; (exfalso; omega)); with_reducible rfl)))); (try simp only [Act.put, List.setIfInBounds_toArray, List.set_cons_zero, List.set_cons_succ])
            refine RM.const (v := ?_) (fun _ => rfl) (fun xq wq hSq => ?_) ?_; rotate_left; (focus (go_simp; (first | done | with_reducible rfl | ((split; (exfalso; omega)); with_reducible rfl)))); (try simp only [Act.put, List.setIfInBounds_toArray, List.set_cons_zero, List.set_cons_succ])
            refine RM.const (v := ?_) (fun _ => rfl) (fun xq wq hSq => ?_) ?_; rotate_left; (focus (go_simp; (first | done | with_reducible rfl | ((split; (exfalso; omega)); with_reducible rfl)))); (try simp only [Act.put, List.setIfInBounds_toArray, List.set_cons_zero, List.set_cons_succ])
            refine RM.const (v := ?_) (fun _ => rfl) (fun xq wq hSq => ?_) ?_; rotate_left; (focus (go_simp; (first | done | with_reducible rfl | ((split; (exfalso; omega)); with_reducible rfl)))); (try simp only [Act.put, List.setIfInBounds_toArray, List.set_cons_zero, List.set_cons_succ])
            refine RM.const (v := ?_) (fun _ => rfl) (fun xq wq hSq => ?_) ?_; rotate_left; (focus (go_simp; (first | done | with_reducible rfl | ((split; (exfalso; omega)); with_reducible rfl)))); (try simp only [Act.put, List.setIfInBounds_toArray, List.set_cons_zero, List.set_cons_succ])
            refine RM.callc (v := ?_) (f := ?_) (args := ?_) (fun _ => rfl) (fun xq wq hSq => ?_) (fun wq hSq => ?_) ?_; rotate_left 3; (focus (go_simp; (refine ⟨?_, ?_⟩ <;> with_reducible rfl))); (focus (exact k2 _)); (try simp only [Act.put, List.setIfInBounds_toArray, List.set_cons_zero, List.set_cons_succ])
            refine RM.const (v := ?_) (fun _ => rfl) (fun xq wq hSq => ?_) ?_; rotate_left; (focus (go_simp; (first | done | with_reducible rfl | ((split; (exfalso; omega)); with_reducible rfl)))); (try simp only [Act.put, List.setIfInBounds_toArray, List.set_cons_zero, List.set_cons_succ])
            refine RM.done (fun xq wq hSq hUq => ?_)
            clear q0 q1 q2 q3
            go_wp2
            go_roundw
            case rel =>
              refine ⟨k + 1, t ++ ruleWord x, by omega, by go_num, ?_, ?_, hM.thenNone hSq⟩
              · simp only [ByteArray.mk_append_mk, ruleWord]
                simp [List.append_assoc]
              · have hk0 := Hk0.out
                subst hk0
                rw [hs.out, List.take_add_one, hx.out]
                simp [Lib.join_one, Lib.join_nil, Hid]
            case measure => simp [intOf]; omega
          · have hk1 : 1 ≤ k := by omega
            go_wp2
            refine wp_region_mod_tail 27 (by kernel_rfl) (by kernel_rfl) (by kernel_rfl) ?_
            simp only [List.take_succ_cons, List.take_zero, List.drop_succ_cons, List.drop_zero]
            refine RM.const (v := ?_) (fun _ => rfl) (fun xq wq hSq => ?_) ?_; rotate_left; (focus (go_simp; (first | done | with_reducible rfl | ((split; (exfalso; omega)); with_reducible rfl)))); (try simp only [Act.put, List.setIfInBounds_toArray, List.set_cons_zero, List.set_cons_succ])
            refine RM.const (v := ?_) (fun _ => rfl) (fun xq wq hSq => ?_) ?_; rotate_left; (focus (go_simp; (first | done | with_reducible rfl | ((split; (exfalso; omega)); with_reducible rfl)))); (try simp only [Act.put, List.setIfInBounds_toArray, List.set_cons_zero, List.set_cons_succ])
            refine RM.const (v := ?_) (fun _ => rfl) (fun xq wq hSq => ?_) ?_; rotate_left; (focus (go_simp; (first | done | with_reducible rfl | ((split; (exfalso; omega)); with_reducible rfl)))); (try simp only [Act.put, List.setIfInBounds_toArray, List.set_cons_zero, List.set_cons_succ])
            refine RM.const (v := ?_) (fun _ => rfl) (fun xq wq hSq => ?_) ?_; rotate_left; (focus (go_simp; (first | done | with_reducible rfl | ((split; (exfalso; omega)); with_reducible rfl)))); (try simp only [Act.put, List.setIfInBounds_toArray, List.set_cons_zero, List.set_cons_succ])
            refine RM.const (v := ?_) (fun _ => rfl) (fun xq wq hSq => ?_) ?_; rotate_left; (focus (go_simp; (first | done | with_reducible rfl | ((split; (exfalso; omega)); with_reducible rfl)))); (try simp only [Act.put, List.setIfInBounds_toArray, List.set_cons_zero, List.set_cons_succ])
            refine RM.const (v := ?_) (fun _ => rfl) (fun xq wq hSq => ?_) ?_; rotate_left; (focus (go_simp; (first | done | with_reducible rfl | ((split; (exfalso; omega)); with_reducible rfl)))); (try simp only [Act.put, List.setIfInBounds_toArray, List.set_cons_zero, List.set_cons_succ])
            refine RM.const (v := ?_) (fun _ => rfl) (fun xq wq hSq => ?_) ?_; rotate_left; (focus (go_simp; (first | done | with_reducible rfl | ((split; (exfalso; omega)); with_reducible rfl)))); (try simp only [Act.put, List.setIfInBounds_toArray, List.set_cons_zero, List.set_cons_succ])
            refine RM.callc (v := ?_) (f := ?_) (args := ?_) (fun _ => rfl) (fun xq wq hSq => ?_) (fun wq hSq => ?_) ?_; rotate_left 3; (focus (go_simp; (refine ⟨?_, ?_⟩ <;> with_reducible rfl))); (focus (exact k0 _)); (try simp only [Act.put, List.setIfInBounds_toArray, List.set_cons_zero, List.set_cons_succ])
            refine RM.const (v := ?_) (fun _ => rfl) (fun xq wq hSq => ?_) ?_; rotate_left; (focus (go_simp; (first | done | with_reducible rfl | ((split; (exfalso; omega)); with_reducible rfl)))); (try simp only [Act.put, List.setIfInBounds_toArray, List.set_cons_zero, List.set_cons_succ])
            refine RM.const (v := ?_) (fun _ => rfl) (fun xq wq hSq => ?_) ?_; rotate_left; (focus (go_simp; (first | done | with_reducible rfl | ((split; (exfalso; omega)); with_reducible rfl)))); (try simp only [Act.put, List.setIfInBounds_toArray, List.set_cons_zero, List.set_cons_succ])
            refine RM.const (v := ?_) (fun _ => rfl) (fun xq wq hSq => ?_) ?_; rotate_left; (focus (go_simp; (first | done | with_reducible rfl | ((split; (exfalso; omega)); with_reducible rfl)))); (try simp only [Act.put, List.setIfInBounds_toArray, List.set_cons_zero, List.set_cons_succ])
            refine RM.const (v := ?_) (fun _ => rfl) (fun xq wq hSq => ?_) ?_; rotate_left; (focus (go_simp; (first | done | with_reducible rfl | ((split; (exfalso; omega)); with_reducible rfl)))); (try simp only [Act.put, List.setIfInBounds_toArray, List.set_cons_zero, List.set_cons_succ])
            refine RM.const (v := ?_) (fun _ => rfl) (fun xq wq hSq => ?_) ?_; rotate_left; (focus (go_simp; (first | done | with_reducible rfl | ((split; (exfalso; omega)); with_reducible rfl)))); (try simp only [Act.put, List.setIfInBounds_toArray, List.set_cons_zero, List.set_cons_succ])
            refine RM.const (v := ?_) (fun _ => rfl) (fun xq wq hSq => ?_) ?_; rotate_left; (focus (go_simp; (first | done | with_reducible rfl | ((split; (exfalso; omega)); with_reducible rfl)))); (try simp only [Act.put, List.setIfInBounds_toArray, List.set_cons_zero, List.set_cons_succ])
            refine RM.const (v := ?_) (fun _ => rfl) (fun xq wq hSq => ?_) ?_; rotate_left; (focus (go_simp; (first | done | with_reducible rfl | ((split; (exfalso; omega)); with_reducible rfl)))); (try simp only [Act.put, List.setIfInBounds_toArray, List.set_cons_zero, List.set_cons_succ])
            refine RM.const (v := ?_) (fun _ => rfl) (fun xq wq hSq => ?_) ?_; rotate_left; (focus (go_simp; (first | done | with_reducible rfl | ((split; (exfalso; omega)); with_reducible rfl)))); (try simp only [Act.put, List.setIfInBounds_toArray, List.set_cons_zero, List.set_cons_succ])
            refine RM.callc (v := ?_) (f := ?_) (args := ?_) (fun _ => rfl) (fun xq wq hSq => ?_) (fun wq hSq => ?_) ?_; rotate_left 3; (focus (go_simp; (refine ⟨?_, ?_⟩ <;> with_reducible rfl))); (focus (exact k1 _)); (try simp only [Act.put, List.setIfInBounds_toArray, List.set_cons_zero, List.set_cons_succ])
            refine RM.const (v := ?_) (fun _ => rfl) (fun xq wq hSq => ?_) ?_; rotate_left; (focus (go_simp; (first | done | with_reducible rfl | ((split; (exfalso; omega)); with_reducible rfl)))); (try simp only [Act.put, List.setIfInBounds_toArray, List.set_cons_zero, List.set_cons_succ])
            refine RM.const (v := ?_) (fun _ => rfl) (fun xq wq hSq => ?_) ?_; rotate_left; (focus (go_simp; (first | done | with_reducible rfl | ((split; (exfalso; omega)); with_reducible rfl)))); (try simp only [Act.put, List.setIfInBounds_toArray, List.set_cons_zero, List.set_cons_succ])
            refine RM.const (v := ?_) (fun _ => rfl) (fun xq wq hSq => ?_) ?_; rotate_left; (focus (go_simp; (first | done | with_reducible rfl | ((split; (exfalso; omega)); with_reducible rfl)))); (try simp only [Act.put, List.setIfInBounds_toArray, List.set_cons_zero, List.set_cons_succ])
            refine RM.const (v := ?_) (fun _ => rfl) (fun xq wq hSq => ?_) ?_; rotate_left; (focus (go_simp; (first | done | with_reducible rfl | ((split; (exfalso; omega)); with_reducible rfl)))); (try simp only [Act.put, List.setIfInBounds_toArray, List.set_cons_zero, List.set_cons_succ])
            refine RM.const (v := ?_) (fun _ => rfl) (fun xq wq hSq => ?_) ?_; rotate_left; (focus (go_simp; (first | done | with_reducible rfl | ((split; (exfalso; omega)); with_reducible rfl)))); (try simp only [Act.put, List.setIfInBounds_toArray, List.set_cons_zero, List.set_cons_succ])
            refine RM.const (v := ?_) (fun _ => rfl) (fun xq wq hSq => ?_) ?_; rotate_left; (focus (go_simp; (first | done | with_reducible rfl | ((split; (exfalso; omega)); with_reducible rfl)))); (try simp only [Act.put, List.setIfInBounds_toArray, List.set_cons_zero, List.set_cons_succ])
            refine RM.const (v := ?_) (fun _ => rfl) (fun xq wq hSq => ?_) ?_; rotate_left; (focus (go_simp; (first | done | with_reducible rfl | ((split; (exfalso; omega)); with_reducible rfl)))); (try simp only [Act.put, List.setIfInBounds_toArray, List.set_cons_zero, List.set_cons_succ])
            refine RM.const (v := ?_) (fun _ => rfl) (fun xq wq hSq => ?_) ?_; rotate_left; (focus (go_simp; (first | done | with_reducible rfl | ((split; (exfalso; omega)); with_reducible rfl)))); (try simp only [Act.put, List.setIfInBounds_toArray, List.set_cons_zero, List.set_cons_succ])
            refine RM.callc (v := ?_) (f := ?_) (args := ?_) (fun _ => rfl) (fun xq wq hSq => ?_) (fun wq hSq => ?_) ?_; rotate_left 3; (focus (go_simp; (refine ⟨?_, ?_⟩ <;> with_reducible rfl))); (focus (exact k2 _)); (try simp only [Act.put, List.setIfInBounds_toArray, List.set_cons_zero, List.set_cons_succ])
            refine RM.const (v := ?_) (fun _ => rfl) (fun xq wq hSq => ?_) ?_; rotate_left; (focus (go_simp; (first | done | with_reducible rfl | ((split; (exfalso; omega)); with_reducible rfl)))); (try simp only [Act.put, List.setIfInBounds_toArray, List.set_cons_zero, List.set_cons_succ])
            refine RM.done (fun xq wq hSq hUq => ?_)
            clear q0 q1 q2 q3
            go_wp2
            go_roundw
            case rel =>
              refine ⟨k + 1, t ++ [44] ++ ruleWord x, by omega, by go_num, ?_, ?_, hM.thenNone hSq⟩
              · simp only [ByteArray.mk_append_mk, ruleWord]
                simp [List.append_assoc]
              · have hne : (l.take k).map ruleWord ≠ [] := by
                  intro h
                  have := congrArg List.length h
                  simp only [List.length_map, List.length_take, List.length_nil] at this
                  omega
                have := join_snoc hne (ruleWord x) [44]
                rw [List.take_add_one, hx.out, List.map_append]
                show _ = Lib.join ((l.take k).map ruleWord ++ [ruleWord x]) [44]
                rw [this, hs.out]
            case measure => simp [intOf]; omega
        · obtain rfl : k = l.length := by omega
          have hs' := hs.out
          rw [List.take_length] at hs'
          have Hs := hid hs'
          clear hs hs'
          go_wp2
          go_ret
          exact ⟨ret_string Hs.out, hM1.thenNone hM⟩

theorem ruleTail_join {w : World} {base n c : Nat} {a : Option Addr} {l : List Rule} (h : w.ownsRow base 9 1 (.slice a n c) n ((l.map ruleWord).map tcell).flatten) (hn : n = l.length) (hl : l.length ≤ 6) (hall : ∀ r ∈ l, ruleIn r = true) :
    Calls Tryd.prog 102 #[.slice a n c, .string ⟨#[44]⟩] w fun e w' => e = .returned (.string ⟨(Lib.join (l.map ruleWord) [44]).toArray⟩) ∧ Mod (fun _ => False) w w' :=
  join_own [44] h (by rw [List.length_map]; exact hn) (by rw [List.length_map]; omega) (by have := ruleJoin_length hall; omega)

set_option maxRecDepth 100000 in
set_option maxHeartbeats 4000000 in
theorem ruleText_any (l : List Rule) (a : Option Addr) (c : Nat) (R : Nat → Prop) (w : World) (hl : l.length ≤ 1048576) (h : SliceAt (Flat Rule.cells) 3 R w a l) (ht : Tab w) :
    Calls Tryd.prog 83 #[.agg #[.slice a l.length c]] w fun e w' => e = .returned (.string ⟨(ruleTextOf l).toArray⟩) ∧ Mod (fun _ => False) w w' := by
  have H := hid (h.flatKeep ((Mod.refl _ w).alloc (boxT a l.length c)))
  have Ht := hid ht
  clear h ht
  by_cases h0 : l.length = 0
  · have e : ruleTextOf l = [45] := by unfold ruleTextOf; rw [if_pos h0]
    rw [e, h0]
    clear e hl H h0
    go_enter Tryd.func83, Tryd.ntmps83
    go_wp2
    go_ret
    exact ⟨rfl, by (repeat (first | with_reducible exact Mod.refl _ _ | with_reducible refine Mod.drewN ?_ _ | with_reducible refine Mod.drew ?_ | with_reducible refine Mod.alloc ?_ _ | ((with_reducible refine Mod.setNew ?_ ?_ _ _ _); (rotate_left; omega)) | with_reducible refine Mod.setAt ?_ _ _ _ ))⟩
  · have hne : ((l.length : Int) == 0) = false := by simpa using h0
    have h1 : 1 ≤ l.length := by omega
    have hT := tableOk_any l a c _ _ hl H.out
    cases hok : tableOk l
    · have e : ruleTextOf l = [] := by unfold ruleTextOf; rw [if_neg h0, hok]; rfl
      rw [e]
      rw [hok] at hT
      clear e h0 hok
      go_enter Tryd.func83, Tryd.ntmps83
      go_wp2_with fail
      refine hT.mono ?_
      rintro e w1 ⟨rfl, hm1⟩
      clear hT
      go_wp2
      go_ret
      exact ⟨rfl, ((Mod.refl _ w).alloc _).thenNone hm1⟩
    · have e : ruleTextOf l = Lib.join (l.map ruleWord) [44] := by unfold ruleTextOf; rw [if_neg h0, hok]; rfl
      rw [e]
      rw [hok] at hT
      obtain ⟨hl6, hall⟩ := tableOk_parts hok
      have Hall := hid hall
      have hB := heap_alloc_new w (.cells [Value.slice a l.length c].toArray 60)
      obtain ⟨i0, hi, hz0, hz1, hz2⟩ := info_parts info_string
      have Hi := hid hi
      have Hz0 := hid hz0
      have Hz1 := hid hz1
      have Hz2 := hid hz2
      clear hi hz0 hz1 hz2
      clear e h0 hok hall
      go_enter Tryd.func83, Tryd.ntmps83
      go_wp2_with fail
      refine hT.mono ?_
      rintro e w1 ⟨rfl, hm1⟩
      have hM1 : Mod (fun _ => False) w w1 := ((Mod.refl _ w).alloc _).thenNone hm1
      have hB1 := hm1.blk hB (fun f => f)
      have H1 := hid (H.out.flatKeep hm1)
      have hr0 : w.heap.size < w1.heap.size := (Array.getElem?_eq_some_iff.1 hB1).1
      have Ht1 := hid (Ht.out.keep hM1)
      clear hT hB hm1 H Ht
      have sc0 := blk_cell hB1 (j := 0) rfl
      have sz0 := blk_free hB1 0
      go_wp2_with fail
      go_loopw [3, 16] (fun v i wr => ∃ (k : Nat) (a' : Option Addr) (c' : Nat), k ≤ l.length ∧ i = .int .i64 k ∧ v = .slice a' ((l.take k).map ruleWord).length c' ∧ wr.ownsRow w1.heap.size 9 1 (.slice a' ((l.take k).map ruleWord).length c') ((l.take k).map ruleWord).length (((l.take k).map ruleWord).map tcell).flatten ∧ Mod (fun _ => False) w1 wr) (fun _ i _ => l.length - (intOf i).toNat)
      case atStart => exact ⟨0, none, 0, by omega, rfl, rfl, World.ownsRow_nil _ _ _ _, Mod.refl _ _⟩
      case round =>
        obtain ⟨k, a', c', hk, rfl, rfl, hO, hM⟩ := hrel
        have hBr := hM.blk hB1 (fun f => f)
        have hr1 : w.heap.size < wr.heap.size := (Array.getElem?_eq_some_iff.1 hBr).1
        have sc0 := blk_cell hBr (j := 0) rfl
        have sz0 := blk_free hBr 0
        have hFl : ((l.take k).map ruleWord).length ≤ k := by rw [List.length_map, List.length_take]; omega
        by_cases hlt : k < l.length
        · obtain ⟨b, o, x, r, rfl, hb, hbw, hx, hr, hrl, hc⟩ := (H1.out.flatKeep hM).get hlt
          obtain rfl : r = x.cells := hr
          have c0 := hc 0 _ rfl
          have c1 := hc 1 _ rfl
          have c2 := hc 2 _ rfl
          simp only [Nat.add_zero] at c0
          obtain ⟨b0, b1, b2⟩ := ruleIn_bounds (Hall.out x (List.mem_of_getElem? hx.out))
          have Ht2 := hid (Ht1.out.keep (hM.alloc (.cells #[.int .i64 x.room, .int .i64 x.wide, .int .i64 x.high] 127)))
          have k0 := fun W hk => decimal_any x.room b0 W (Ht2.out.keep hk)
          have k1 := fun W hk => decimal_any x.wide b1 W (Ht2.out.keep hk)
          have k2 := fun W hk => decimal_any x.high b2 W (Ht2.out.keep hk)
          have l0 := Lib.itoa_length_le _ b0.1 b0.2
          have l1 := Lib.itoa_length_le _ b1.1 b1.2
          have l2 := Lib.itoa_length_le _ b2.1 b2.2
          have He : Hid ((l.take (k + 1)).map ruleWord = (l.take k).map ruleWord ++ [ruleWord x]) := by
            rw [List.take_add_one, hx.out, List.map_append]
            exact hid rfl
          have hX := heap_alloc_new wr (.cells [Value.int .i64 x.room, Value.int .i64 x.wide, Value.int .i64 x.high].toArray 127)
          have q1 := hold (blk_cell hX (j := 0) rfl)
          have q2 := hold (blk_cell hX (j := 1) rfl)
          have q3 := hold (blk_cell hX (j := 2) rfl)
          have hO' := own_mod hO ((Mod.refl (fun _ => False) wr).alloc (.cells #[.int .i64 x.room, .int .i64 x.wide, .int .i64 x.high] 127)) (fun _ _ f => f)
          generalize (l.take k).map ruleWord = F at He hFl hO hO' ⊢
          have h3 : F.length + 1 ≤ maxLen := by unfold maxLen; omega
          have h4 : (F.length + 1) * 16 ≤ 140737488355328 := by omega
          clear hc hrl b0 b1 b2 hX
          go_wp2
          clear c0 c1 c2
          refine wp_region_mod_tail 15 (by kernel_rfl) (by kernel_rfl) (by kernel_rfl) ?_
          simp only [List.take_succ_cons, List.take_zero, List.drop_succ_cons, List.drop_zero]
          refine RM.const (v := ?_) (fun _ => rfl) (fun xq wq hSq => ?_) ?_; rotate_left; (focus (go_simp; (first | done | with_reducible rfl | ((split; (exfalso; omega)); with_reducible rfl)))); (try simp only [Act.put, List.setIfInBounds_toArray, List.set_cons_zero, List.set_cons_succ])
          refine RM.const (v := ?_) (fun _ => rfl) (fun xq wq hSq => ?_) ?_; rotate_left; (focus (go_simp; (first | done | with_reducible rfl | ((split; (exfalso; omega)); with_reducible rfl)))); (try simp only [Act.put, List.setIfInBounds_toArray, List.set_cons_zero, List.set_cons_succ])
          refine RM.const (v := ?_) (fun _ => rfl) (fun xq wq hSq => ?_) ?_; rotate_left; (focus (go_simp; (first | done | with_reducible rfl | ((split; (exfalso; omega)); with_reducible rfl)))); (try simp only [Act.put, List.setIfInBounds_toArray, List.set_cons_zero, List.set_cons_succ])
          refine RM.callc (v := ?_) (f := ?_) (args := ?_) (fun _ => rfl) (fun xq wq hSq => ?_) (fun wq hSq => ?_) ?_; rotate_left 3; (focus (go_simp; (refine ⟨?_, ?_⟩ <;> with_reducible rfl))); (focus (exact k0 _ hSq)); (try simp only [Act.put, List.setIfInBounds_toArray, List.set_cons_zero, List.set_cons_succ])
          refine RM.const (v := ?_) (fun _ => rfl) (fun xq wq hSq => ?_) ?_; rotate_left; (focus (go_simp; (first | done | with_reducible rfl | ((split; (exfalso; omega)); with_reducible rfl)))); (try simp only [Act.put, List.setIfInBounds_toArray, List.set_cons_zero, List.set_cons_succ])
          refine RM.const (v := ?_) (fun _ => rfl) (fun xq wq hSq => ?_) ?_; rotate_left; (focus (go_simp; (first | done | with_reducible rfl | ((split; (exfalso; omega)); with_reducible rfl)))); (try simp only [Act.put, List.setIfInBounds_toArray, List.set_cons_zero, List.set_cons_succ])
          refine RM.const (v := ?_) (fun _ => rfl) (fun xq wq hSq => ?_) ?_; rotate_left; (focus (go_simp; (first | done | with_reducible rfl | ((split; (exfalso; omega)); with_reducible rfl)))); (try simp only [Act.put, List.setIfInBounds_toArray, List.set_cons_zero, List.set_cons_succ])
          refine RM.callc (v := ?_) (f := ?_) (args := ?_) (fun _ => rfl) (fun xq wq hSq => ?_) (fun wq hSq => ?_) ?_; rotate_left 3; (focus (go_simp; (refine ⟨?_, ?_⟩ <;> with_reducible rfl))); (focus (exact k1 _ hSq)); (try simp only [Act.put, List.setIfInBounds_toArray, List.set_cons_zero, List.set_cons_succ])
          refine RM.const (v := ?_) (fun _ => rfl) (fun xq wq hSq => ?_) ?_; rotate_left; (focus (go_simp; (first | done | with_reducible rfl | ((split; (exfalso; omega)); with_reducible rfl)))); (try simp only [Act.put, List.setIfInBounds_toArray, List.set_cons_zero, List.set_cons_succ])
          refine RM.const (v := ?_) (fun _ => rfl) (fun xq wq hSq => ?_) ?_; rotate_left; (focus (go_simp; (first | done | with_reducible rfl | ((split; (exfalso; omega)); with_reducible rfl)))); (try simp only [Act.put, List.setIfInBounds_toArray, List.set_cons_zero, List.set_cons_succ])
          refine RM.const (v := ?_) (fun _ => rfl) (fun xq wq hSq => ?_) ?_; rotate_left; (focus (go_simp; (first | done | with_reducible rfl | ((split; (exfalso; omega)); with_reducible rfl)))); (try simp only [Act.put, List.setIfInBounds_toArray, List.set_cons_zero, List.set_cons_succ])
          refine RM.const (v := ?_) (fun _ => rfl) (fun xq wq hSq => ?_) ?_; rotate_left; (focus (go_simp; (first | done | with_reducible rfl | ((split; (exfalso; omega)); with_reducible rfl)))); (try simp only [Act.put, List.setIfInBounds_toArray, List.set_cons_zero, List.set_cons_succ])
          refine RM.callc (v := ?_) (f := ?_) (args := ?_) (fun _ => rfl) (fun xq wq hSq => ?_) (fun wq hSq => ?_) ?_; rotate_left 3; (focus (go_simp; (refine ⟨?_, ?_⟩ <;> with_reducible rfl))); (focus (exact k2 _ hSq)); (try simp only [Act.put, List.setIfInBounds_toArray, List.set_cons_zero, List.set_cons_succ])
          refine RM.const (v := ?_) (fun _ => rfl) (fun xq wq hSq => ?_) ?_; rotate_left; (focus (go_simp; (first | done | with_reducible rfl | ((split; (exfalso; omega)); with_reducible rfl)))); (try simp only [Act.put, List.setIfInBounds_toArray, List.set_cons_zero, List.set_cons_succ])
          refine RM.lit (n := ?_) (vals := ?_) (e := ?_) (fun _ => rfl) (fun xq wq hSq => ?_) ?_; rotate_left 3; (focus (go_simp; (first | done | with_reducible rfl | (refine ⟨?_, ?_⟩ <;> with_reducible rfl)))); (try simp only [Act.put, List.setIfInBounds_toArray, List.set_cons_zero, List.set_cons_succ])
          refine RM.done (fun xq wq hSq hUq => ?_)
          clear q1 q2 q3 k0 k1 k2
          obtain ⟨g, hv, hg0, hg1, hcl⟩ := (hUq _ List.mem_cons_self).cells
          clear hUq
          simp only at hv
          have hO2 := own_mod hO' hSq (fun _ _ f => f)
          have hM2 : Mod (fun _ => False) w1 wq := (hM.alloc _).thenNone hSq
          have hroom : w1.heap.size ≤ wq.heap.size := hM2.size
          have hw' : ((⟨(Lib.itoa x.room).toArray⟩ : ByteArray) ++ ⟨#[58]⟩ ++ ⟨(Lib.itoa x.wide).toArray⟩ ++ ⟨#[58]⟩ ++ ⟨(Lib.itoa x.high).toArray⟩) = ⟨(ruleWord x).toArray⟩ := by
            simp only [ByteArray.mk_append_mk]
            rfl
          simp only [hv, hw'] at hcl ⊢
          clear hO hO' hSq l0 l1 l2 hw' hv hg0 hg1
          go_wp2_with (first | (at_builtin; refine wpList_append_own _ rfl _ _ 30 rfl w1.heap.size 9 i0 _ 1 16 Tryd.underlying30 Hi.out Hz0.out Hz1.out Hz2.out rfl (by decide) _ _ _ rfl hO2 ⟨g, 0, none⟩ 1 1 [.string ⟨(ruleWord x).toArray⟩] rfl rfl hcl (ones_of rfl) h3 h4 hroom ?_))
          intro v' w9 hown1 hgrow _
          obtain ⟨a1, c1', hv⟩ := own_form hown1
          rw [hv] at hown1 ⊢
          have hM3 := hM2.appendedAt hO2 (Nat.le_refl _) hgrow
          clear hv hgrow h3 h4
          go_wp2
          go_roundw
          case rel =>
            refine ⟨k + 1, a1, c1', by omega, by go_num, ?_, ?_, hM3⟩
            · rw [He.out, List.length_append]; rfl
            · rw [He.out, List.length_append, List.map_append, List.flatten_append]
              simpa [tcell] using hown1
          case measure => simp [intOf]; omega
        · obtain rfl : k = l.length := by omega
          rw [List.take_length] at hO ⊢
          have hj := ruleTail_join hO (by simp) hl6 Hall.out
          obtain ⟨T, hT⟩ : ∃ T, T = Lib.join (l.map ruleWord) [44] := ⟨_, rfl⟩
          have HT := hid hT
          rw [← hT] at hj
          have hj := hid hj
          clear hT
          generalize l.map ruleWord = F at hj hFl hO ⊢
          clear hO hFl
          go_wp2_with fail
          refine hj.out.mono ?_
          rintro e w9 ⟨rfl, hm9⟩
          clear hj
          go_wp2
          go_ret
          exact ⟨ret_string HT.out, (hM1.thenNone hM).thenNone hm9⟩

end Go.Proofs.YthffgbhphjkdeaaDoor
