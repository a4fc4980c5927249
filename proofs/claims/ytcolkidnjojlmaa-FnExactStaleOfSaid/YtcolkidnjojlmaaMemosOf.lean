/-
  PROVED: the program's and the reference's MemosOf count the memos of a node. No condition but a bound on the lengths.
-/
import Derived.Test.YtcolkidnjojlmaaEngine
namespace Go.Proofs.Ytcolkidnjojlmaa
open Go.RowKit

/-- One for a memo of node n. -/
def ofNode (n : Int) (m : Memo) : Nat := if m.node = n then 1 else 0
theorem ofNode_le (n : Int) (l : List Memo) (k : Nat) : costs (ofNode n) (l.take k) ≤ k := by
  induction k generalizing l with
  | zero => simp [costs]
  | succ k ih =>
    cases l with
    | nil => simp [costs]
    | cons m l =>
      have h1 := ih l
      have h2 : ofNode n m ≤ 1 := by unfold ofNode; split <;> omega
      unfold costs at *
      simp only [List.take_succ_cons, List.map_cons, List.sum_cons]
      omega

set_option maxRecDepth 100000 in
set_option maxHeartbeats 4000000 in
theorem memosOf_any (x : Engine) (n : Int) (o : Bool) (cs : List Value) (R : Nat → Prop) (w : World) (hf : x.kept.memos.length ≤ 1048576) (h : EngineIn o R w cs x) :
    Calls Try.prog 35 #[.agg cs.toArray, .int .i64 n] w fun e w' => e = .returned (.int .i64 (costs (ofNode n) x.kept.memos : Nat)) ∧ Mod (fun _ => False) w w' := by
  obtain ⟨t, k0, k1, f, c, rfl, ⟨ta, tc, et, _⟩, ⟨ka, kc, kb, kc', ek, hk, _⟩, _, _⟩ := h
  simp only [List.cons.injEq, and_true] at et ek
  obtain rfl := et
  obtain ⟨rfl, rfl⟩ := ek
  have H := hid hk
  clear hk
  have hx := heap_alloc_new w (.cells [Value.slice ta x.tree.length tc, .slice ka x.kept.memos.length kc, .slice kb x.kept.asked.length kc', .slice f x.frames.length c, .int .i64 x.root, .int .i64 x.wide, .int .i64 x.high, .bool x.rtl].toArray 68)
  have HX := hid hx
  clear hx
  go_enter Try.func35, Try.ntmps35
  go_wp2
  go_loopw [5, 12] (fun z i wr => ∃ k : Nat, k ≤ x.kept.memos.length ∧ i = .int .i64 k ∧ z = .int .i64 (costs (ofNode n) (x.kept.memos.take k) : Nat) ∧ Hid (wr.heap[w.heap.size]? = some (.cells [Value.slice ta x.tree.length tc, .slice ka x.kept.memos.length kc, .slice kb x.kept.asked.length kc', .slice f x.frames.length c, .int .i64 x.root, .int .i64 x.wide, .int .i64 x.high, .bool x.rtl].toArray 68 (0, 0))) ∧ Mod (fun _ => False) w wr) (fun _ i _ => x.kept.memos.length - (intOf i).toNat)
  case atStart => exact ⟨0, by omega, rfl, by simp [costs], HX, (Mod.refl _ w).alloc _⟩
  case round =>
    obtain ⟨k, hk, rfl, rfl, HB, hM⟩ := hrel
    have b1 := blk_cell HB.out (j := 1) rfl
    have hbs : w.heap.size < wr.heap.size := (Array.getElem?_eq_some_iff.1 HB.out).1
    have hle := ofNode_le n x.kept.memos k
    by_cases hlt : k < x.kept.memos.length
    · obtain ⟨b, o', y, r, rfl, hb, hbw, hy, ⟨fa, fc, rfl, _, _⟩, hrl', hc⟩ := (MemoSlice.keep H.out hM).get hlt
      have c0 : wr.cell? ⟨b, o' + k * 10, none⟩ = _ := hc 0 _ rfl
      have c1 : wr.cell? ⟨b, o' + k * 10 + 1, none⟩ = _ := hc 1 _ rfl
      have c2 : wr.cell? ⟨b, o' + k * 10 + 2, none⟩ = _ := hc 2 _ rfl
      have c3 : wr.cell? ⟨b, o' + k * 10 + 3, none⟩ = _ := hc 3 _ rfl
      have c4 : wr.cell? ⟨b, o' + k * 10 + 4, none⟩ = _ := hc 4 _ rfl
      have c5 : wr.cell? ⟨b, o' + k * 10 + 5, none⟩ = _ := hc 5 _ rfl
      have c6 : wr.cell? ⟨b, o' + k * 10 + 6, none⟩ = _ := hc 6 _ rfl
      have c7 : wr.cell? ⟨b, o' + k * 10 + 7, none⟩ = _ := hc 7 _ rfl
      have c8 : wr.cell? ⟨b, o' + k * 10 + 8, none⟩ = _ := hc 8 _ rfl
      have c9 : wr.cell? ⟨b, o' + k * 10 + 9, none⟩ = _ := hc 9 _ rfl
      clear hc hrl'
      have hs := hid (costs_succ (ofNode n) hy)
      have HM := hid hM
      clear hM
      generalize costs (ofNode n) (x.kept.memos.take k) = q at hle hs
      by_cases hn : y.node = n
      · have hs1 := hid (show costs (ofNode n) (x.kept.memos.take (k + 1)) = q + 1 by rw [hs.out]; simp [ofNode, hn])
        go_wp2
        go_roundw
        case rel => exact ⟨k + 1, by omega, by go_num, by rw [hs1.out]; go_num, hid (heap_alloc_keep HB.out), HM.out.alloc _⟩
        case measure => simp [intOf]; omega
      · have hs1 := hid (show costs (ofNode n) (x.kept.memos.take (k + 1)) = q by rw [hs.out]; simp [ofNode, hn])
        go_wp2
        go_roundw
        case rel => exact ⟨k + 1, by omega, by go_num, by rw [hs1.out], hid (heap_alloc_keep HB.out), HM.out.alloc _⟩
        case measure => simp [intOf]; omega
    · have hk' : k = x.kept.memos.length := by omega
      subst hk'
      have hl := hid (show costs (ofNode n) (x.kept.memos.take x.kept.memos.length) = costs (ofNode n) x.kept.memos by rw [List.take_length])
      generalize costs (ofNode n) (x.kept.memos.take x.kept.memos.length) = q at hle hl
      go_wp2
      go_ret
      exact ⟨ret_int (by rw [hl.out]), hM⟩

set_option maxRecDepth 100000 in
set_option maxHeartbeats 4000000 in
theorem smemosOf_any (x : Engine) (n : Int) (o : Bool) (cs : List Value) (R : Nat → Prop) (w : World) (hf : x.kept.memos.length ≤ 1048576) (h : EngineIn o R w cs x) :
    Calls Try.prog 33 #[.agg cs.toArray, .int .i64 n] w fun e w' => e = .returned (.int .i64 (costs (ofNode n) x.kept.memos : Nat)) ∧ Mod (fun _ => False) w w' := by
  obtain ⟨t, k0, k1, f, c, rfl, ⟨ta, tc, et, _⟩, ⟨ka, kc, kb, kc', ek, hk, _⟩, _, _⟩ := h
  simp only [List.cons.injEq, and_true] at et ek
  obtain rfl := et
  obtain ⟨rfl, rfl⟩ := ek
  have H := hid hk
  clear hk
  have hx := heap_alloc_new w (.cells [Value.slice ta x.tree.length tc, .slice ka x.kept.memos.length kc, .slice kb x.kept.asked.length kc', .slice f x.frames.length c, .int .i64 x.root, .int .i64 x.wide, .int .i64 x.high, .bool x.rtl].toArray 68)
  have HX := hid hx
  clear hx
  go_enter Try.func33, Try.ntmps33
  go_wp2
  go_loopw [5, 6] (fun z i wr => ∃ k : Nat, k ≤ x.kept.memos.length ∧ i = .int .i64 k ∧ z = .int .i64 (costs (ofNode n) (x.kept.memos.take k) : Nat) ∧ Hid (wr.heap[w.heap.size]? = some (.cells [Value.slice ta x.tree.length tc, .slice ka x.kept.memos.length kc, .slice kb x.kept.asked.length kc', .slice f x.frames.length c, .int .i64 x.root, .int .i64 x.wide, .int .i64 x.high, .bool x.rtl].toArray 68 (0, 0))) ∧ Mod (fun _ => False) w wr) (fun _ i _ => x.kept.memos.length - (intOf i).toNat)
  case atStart => exact ⟨0, by omega, rfl, by simp [costs], HX, (Mod.refl _ w).alloc _⟩
  case round =>
    obtain ⟨k, hk, rfl, rfl, HB, hM⟩ := hrel
    have b1 := blk_cell HB.out (j := 1) rfl
    have hbs : w.heap.size < wr.heap.size := (Array.getElem?_eq_some_iff.1 HB.out).1
    have hle := ofNode_le n x.kept.memos k
    by_cases hlt : k < x.kept.memos.length
    · obtain ⟨b, o', y, r, rfl, hb, hbw, hy, ⟨fa, fc, rfl, _, _⟩, hrl', hc⟩ := (MemoSlice.keep H.out hM).get hlt
      have c0 : wr.cell? ⟨b, o' + k * 10, none⟩ = _ := hc 0 _ rfl
      clear hc hrl'
      have hs := hid (costs_succ (ofNode n) hy)
      have HM := hid hM
      clear hM
      generalize costs (ofNode n) (x.kept.memos.take k) = q at hle hs
      by_cases hn : y.node = n
      · have hs1 := hid (show costs (ofNode n) (x.kept.memos.take (k + 1)) = q + 1 by rw [hs.out]; simp [ofNode, hn])
        go_wp2
        go_roundw
        case rel => exact ⟨k + 1, by omega, by go_num, by rw [hs1.out]; go_num, HB, HM.out⟩
        case measure => simp [intOf]; omega
      · have hs1 := hid (show costs (ofNode n) (x.kept.memos.take (k + 1)) = q by rw [hs.out]; simp [ofNode, hn])
        go_wp2
        go_roundw
        case rel => exact ⟨k + 1, by omega, by go_num, by rw [hs1.out], HB, HM.out⟩
        case measure => simp [intOf]; omega
    · have hk' : k = x.kept.memos.length := by omega
      subst hk'
      have hl := hid (show costs (ofNode n) (x.kept.memos.take x.kept.memos.length) = costs (ofNode n) x.kept.memos by rw [List.take_length])
      generalize costs (ofNode n) (x.kept.memos.take x.kept.memos.length) = q at hle hl
      go_wp2
      go_ret
      exact ⟨ret_int (by rw [hl.out]), hM⟩

end Go.Proofs.Ytcolkidnjojlmaa
