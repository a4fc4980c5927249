/-
  PROVED: MemoLine: the program's and the reference's write the plain text. Condition: the library's table of powers lies as its text lays it.
-/
import Derived.Test.YtcolkidnjojlmaaDoorMemoCodec
import Derived.Test.YtcolkidnjojlmaaDoorSpaceText
namespace Go.Proofs.YtcolkidnjojlmaaDoor
open Go.RowKit

def wayW (b : Bool) : List UInt8 := if b then [114, 116, 108] else [108, 116, 114]
/-- The text of a memo. -/
def memoW (x : Memo) : List UInt8 := Lib.join [Lib.itoa x.node, spaceW x.wide, spaceW x.high, wayW x.rtl, spacedOf [x.bw, x.bh]] [32]
theorem memoW_eq (x : Memo) : memoW x = Lib.itoa x.node ++ [32] ++ spaceW x.wide ++ [32] ++ spaceW x.high ++ ([32] ++ wayW x.rtl ++ [32]) ++ Lib.itoa x.bw ++ [32] ++ Lib.itoa x.bh := by
  simp [memoW, spacedOf, Lib.join_cons, Lib.joinTail]
theorem memoW_short (x : Memo) (h : x.ok) : (memoW x).length ≤ 1000 := by
  obtain ⟨h0, h1, h2, _⟩ := h
  have l0 := Lib.itoa_length_le _ h0.1 h0.2
  have l1 := Lib.itoa_length_le _ h1.1 h1.2
  have l2 := Lib.itoa_length_le _ h2.1 h2.2
  have l3 := spaceW_short x.wide
  have l4 := spaceW_short x.high
  have l5 : (wayW x.rtl).length = 3 := by cases x.rtl <;> rfl
  rw [memoW_eq]
  simp only [List.length_append, List.length_cons, List.length_nil]
  omega
theorem dirWord_any (b : Bool) (w : World) : Calls Tryd.prog 93 #[.bool b] w fun e w' => e = .returned (.string ⟨(wayW b).toArray⟩) ∧ Mod (fun _ => False) w w' := by
  cases b
  all_goals
    go_enter Tryd.func93, Tryd.ntmps93
    go_wp2
    go_ret
    exact ⟨rfl, Mod.refl _ _⟩

/-- What the program's Join gives of a literal of texts. -/
theorem join_lit {w : World} {g n : Nat} {l : List (List UInt8)} (sep : List UInt8) (hb : w.heap[g]? = some (.cells (l.map tcell).flatten.toArray 9 (0, 0))) (hn : n = l.length) (hl : l.length ≤ 1048576) (hj : (Lib.join l sep).length ≤ 140737488355328) :
    Calls Tryd.prog 91 #[.slice (some ⟨g, 0, none⟩) n n, .string ⟨sep.toArray⟩] w fun e w' => e = .returned (.string ⟨(Lib.join l sep).toArray⟩) ∧ Mod (fun _ => False) w w' := by
  have hfl := flat_length (cells := tcell) (sz := 1) (fun _ => rfl) l
  refine join_own (base := g) sep ⟨by rw [hfl, hn], .inr ⟨g, n, _, rfl, Nat.le_refl _, hb, Nat.le_refl _, by unfold maxLen; omega, by rw [List.size_toArray, hfl, hn], ?_⟩⟩ hn hl hj
  exact List.take_of_length_le (by show (l.map tcell).flatten.length ≤ n * 1; omega)
theorem lit_two {w : World} {g : Nat} {x y : Int} (hb : w.heap[g]? = some (.cells #[.int .i64 x, .int .i64 y] 3 (0, 0))) : IntSlice (fun k => k = g) w (some ⟨g, 0, none⟩) [x, y] :=
  flat_of_blk (e := 3) hb (fun _ => rfl)

set_option maxRecDepth 100000 in
set_option maxHeartbeats 4000000 in
theorem smemoLine_any (x : Memo) (hx : x.ok) (v : Value) (w : World) :
    Calls Tryd.prog 61 #[.agg #[.int .i64 x.node, .int .i64 x.wide.mode, .int .i64 x.wide.n, .int .i64 x.high.mode, .int .i64 x.high.n, .bool x.rtl, .int .i64 x.bw, .int .i64 x.bh, .int .i64 x.bb, v]] w fun e w' => e = .returned (.string ⟨(memoW x).toArray⟩) ∧ Mod (fun _ => False) w w' := by
  have hsh := memoW_short x hx
  obtain ⟨b0, b1, b2, _⟩ := hx
  have hE := memoW_eq x
  obtain ⟨x0, ⟨x1, x2⟩, ⟨x3, x4⟩, x5, x6, x7, x8, xl⟩ := x
  simp only at b0 b1 b2 hE ⊢
  have HE := hid hE
  clear hE
  have k0 := fun W => sdecimal_any x0 b0.1 b0.2 W
  have k1 := fun W => sdecimal_any x6 b1.1 b1.2 W
  have k2 := fun W => sdecimal_any x7 b2.1 b2.2 W
  have k3 := fun W => sspaceText_any x1 x2 W
  have k4 := fun W => sspaceText_any x3 x4 W
  have l0 := Lib.itoa_length_le x0 b0.1 b0.2
  have l1 := Lib.itoa_length_le x6 b1.1 b1.2
  have l2 := Lib.itoa_length_le x7 b2.1 b2.2
  have l3 := spaceW_short ⟨x1, x2⟩
  have l4 := spaceW_short ⟨x3, x4⟩
  clear b0 b1 b2
  have hB := heap_alloc_new w (.cells [.int .i64 x0, .int .i64 x1, .int .i64 x2, .int .i64 x3, .int .i64 x4, .bool x5, .int .i64 x6, .int .i64 x7, .int .i64 x8, v].toArray 106)
  have q0 := hold (blk_cell hB (j := 0) rfl)
  have q1 := hold (blk_cell hB (j := 1) rfl)
  have q2 := hold (blk_cell hB (j := 2) rfl)
  have q3 := hold (blk_cell hB (j := 3) rfl)
  have q4 := hold (blk_cell hB (j := 4) rfl)
  have q6 := hold (blk_cell hB (j := 6) rfl)
  have q7 := hold (blk_cell hB (j := 7) rfl)
  clear hB
  cases x5
  all_goals
    go_enter Tryd.func61, Tryd.ntmps61
    go_wp2
    refine wp_region_mod (by kernel_rfl) (by kernel_rfl) ?_
    refine RM.const (v := ?_) (fun _ => rfl) (fun xq wq hSq => ?_) ?_; rotate_left; (focus (go_simp; (first | done | with_reducible rfl | ((split; (exfalso; omega)); with_reducible rfl)))); (try simp only [Act.put, List.setIfInBounds_toArray, List.set_cons_zero, List.set_cons_succ])
    refine RM.const (v := ?_) (fun _ => rfl) (fun xq wq hSq => ?_) ?_; rotate_left; (focus (go_simp; (first | done | with_reducible rfl | ((split; (exfalso; omega)); with_reducible rfl)))); (try simp only [Act.put, List.setIfInBounds_toArray, List.set_cons_zero, List.set_cons_succ])
    refine RM.callc (v := ?_) (f := ?_) (args := ?_) (fun _ => rfl) (fun xq wq hSq => ?_) (fun wq hSq => ?_) ?_; rotate_left 3; (focus (go_simp; (refine ⟨?_, ?_⟩ <;> with_reducible rfl))); (focus (exact k0 _)); (try simp only [Act.put, List.setIfInBounds_toArray, List.set_cons_zero, List.set_cons_succ])
    refine RM.const (v := ?_) (fun _ => rfl) (fun xq wq hSq => ?_) ?_; rotate_left; (focus (go_simp; (first | done | with_reducible rfl | ((split; (exfalso; omega)); with_reducible rfl)))); (try simp only [Act.put, List.setIfInBounds_toArray, List.set_cons_zero, List.set_cons_succ])
    refine RM.const (v := ?_) (fun _ => rfl) (fun xq wq hSq => ?_) ?_; rotate_left; (focus (go_simp; (first | done | with_reducible rfl | ((split; (exfalso; omega)); with_reducible rfl)))); (try simp only [Act.put, List.setIfInBounds_toArray, List.set_cons_zero, List.set_cons_succ])
    refine RM.const (v := ?_) (fun _ => rfl) (fun xq wq hSq => ?_) ?_; rotate_left; (focus (go_simp; (first | done | with_reducible rfl | ((split; (exfalso; omega)); with_reducible rfl)))); (try simp only [Act.put, List.setIfInBounds_toArray, List.set_cons_zero, List.set_cons_succ])
    refine RM.callc (v := ?_) (f := ?_) (args := ?_) (fun _ => rfl) (fun xq wq hSq => ?_) (fun wq hSq => ?_) ?_; rotate_left 3; (focus (go_simp; (refine ⟨?_, ?_⟩ <;> with_reducible rfl))); (focus (exact k3 _)); (try simp only [Act.put, List.setIfInBounds_toArray, List.set_cons_zero, List.set_cons_succ])
    refine RM.const (v := ?_) (fun _ => rfl) (fun xq wq hSq => ?_) ?_; rotate_left; (focus (go_simp; (first | done | with_reducible rfl | ((split; (exfalso; omega)); with_reducible rfl)))); (try simp only [Act.put, List.setIfInBounds_toArray, List.set_cons_zero, List.set_cons_succ])
    refine RM.const (v := ?_) (fun _ => rfl) (fun xq wq hSq => ?_) ?_; rotate_left; (focus (go_simp; (first | done | with_reducible rfl | ((split; (exfalso; omega)); with_reducible rfl)))); (try simp only [Act.put, List.setIfInBounds_toArray, List.set_cons_zero, List.set_cons_succ])
    refine RM.const (v := ?_) (fun _ => rfl) (fun xq wq hSq => ?_) ?_; rotate_left; (focus (go_simp; (first | done | with_reducible rfl | ((split; (exfalso; omega)); with_reducible rfl)))); (try simp only [Act.put, List.setIfInBounds_toArray, List.set_cons_zero, List.set_cons_succ])
    refine RM.const (v := ?_) (fun _ => rfl) (fun xq wq hSq => ?_) ?_; rotate_left; (focus (go_simp; (first | done | with_reducible rfl | ((split; (exfalso; omega)); with_reducible rfl)))); (try simp only [Act.put, List.setIfInBounds_toArray, List.set_cons_zero, List.set_cons_succ])
    refine RM.callc (v := ?_) (f := ?_) (args := ?_) (fun _ => rfl) (fun xq wq hSq => ?_) (fun wq hSq => ?_) ?_; rotate_left 3; (focus (go_simp; (refine ⟨?_, ?_⟩ <;> with_reducible rfl))); (focus (exact k4 _)); (try simp only [Act.put, List.setIfInBounds_toArray, List.set_cons_zero, List.set_cons_succ])
    refine RM.const (v := ?_) (fun _ => rfl) (fun xq wq hSq => ?_) ?_; rotate_left; (focus (go_simp; (first | done | with_reducible rfl | ((split; (exfalso; omega)); with_reducible rfl)))); (try simp only [Act.put, List.setIfInBounds_toArray, List.set_cons_zero, List.set_cons_succ])
    refine RM.const (v := ?_) (fun _ => rfl) (fun xq wq hSq => ?_) ?_; rotate_left; (focus (go_simp; (first | done | with_reducible rfl | ((split; (exfalso; omega)); with_reducible rfl)))); (try simp only [Act.put, List.setIfInBounds_toArray, List.set_cons_zero, List.set_cons_succ])
    refine RM.const (v := ?_) (fun _ => rfl) (fun xq wq hSq => ?_) ?_; rotate_left; (focus (go_simp; (first | done | with_reducible rfl | ((split; (exfalso; omega)); with_reducible rfl)))); (try simp only [Act.put, List.setIfInBounds_toArray, List.set_cons_zero, List.set_cons_succ])
    refine RM.const (v := ?_) (fun _ => rfl) (fun xq wq hSq => ?_) ?_; rotate_left; (focus (go_simp; (first | done | with_reducible rfl | ((split; (exfalso; omega)); with_reducible rfl)))); (try simp only [Act.put, List.setIfInBounds_toArray, List.set_cons_zero, List.set_cons_succ])
    refine RM.const (v := ?_) (fun _ => rfl) (fun xq wq hSq => ?_) ?_; rotate_left; (focus (go_simp; (first | done | with_reducible rfl | ((split; (exfalso; omega)); with_reducible rfl)))); (try simp only [Act.put, List.setIfInBounds_toArray, List.set_cons_zero, List.set_cons_succ])
    refine RM.const (v := ?_) (fun _ => rfl) (fun xq wq hSq => ?_) ?_; rotate_left; (focus (go_simp; (first | done | with_reducible rfl | ((split; (exfalso; omega)); with_reducible rfl)))); (try simp only [Act.put, List.setIfInBounds_toArray, List.set_cons_zero, List.set_cons_succ])
    refine RM.callc (v := ?_) (f := ?_) (args := ?_) (fun _ => rfl) (fun xq wq hSq => ?_) (fun wq hSq => ?_) ?_; rotate_left 3; (focus (go_simp; (refine ⟨?_, ?_⟩ <;> with_reducible rfl))); (focus (exact k1 _)); (try simp only [Act.put, List.setIfInBounds_toArray, List.set_cons_zero, List.set_cons_succ])
    refine RM.const (v := ?_) (fun _ => rfl) (fun xq wq hSq => ?_) ?_; rotate_left; (focus (go_simp; (first | done | with_reducible rfl | ((split; (exfalso; omega)); with_reducible rfl)))); (try simp only [Act.put, List.setIfInBounds_toArray, List.set_cons_zero, List.set_cons_succ])
    refine RM.const (v := ?_) (fun _ => rfl) (fun xq wq hSq => ?_) ?_; rotate_left; (focus (go_simp; (first | done | with_reducible rfl | ((split; (exfalso; omega)); with_reducible rfl)))); (try simp only [Act.put, List.setIfInBounds_toArray, List.set_cons_zero, List.set_cons_succ])
    refine RM.const (v := ?_) (fun _ => rfl) (fun xq wq hSq => ?_) ?_; rotate_left; (focus (go_simp; (first | done | with_reducible rfl | ((split; (exfalso; omega)); with_reducible rfl)))); (try simp only [Act.put, List.setIfInBounds_toArray, List.set_cons_zero, List.set_cons_succ])
    refine RM.const (v := ?_) (fun _ => rfl) (fun xq wq hSq => ?_) ?_; rotate_left; (focus (go_simp; (first | done | with_reducible rfl | ((split; (exfalso; omega)); with_reducible rfl)))); (try simp only [Act.put, List.setIfInBounds_toArray, List.set_cons_zero, List.set_cons_succ])
    refine RM.const (v := ?_) (fun _ => rfl) (fun xq wq hSq => ?_) ?_; rotate_left; (focus (go_simp; (first | done | with_reducible rfl | ((split; (exfalso; omega)); with_reducible rfl)))); (try simp only [Act.put, List.setIfInBounds_toArray, List.set_cons_zero, List.set_cons_succ])
    refine RM.callc (v := ?_) (f := ?_) (args := ?_) (fun _ => rfl) (fun xq wq hSq => ?_) (fun wq hSq => ?_) ?_; rotate_left 3; (focus (go_simp; (refine ⟨?_, ?_⟩ <;> with_reducible rfl))); (focus (exact k2 _)); (try simp only [Act.put, List.setIfInBounds_toArray, List.set_cons_zero, List.set_cons_succ])
    refine RM.const (v := ?_) (fun _ => rfl) (fun xq wq hSq => ?_) ?_; rotate_left; (focus (go_simp; (first | done | with_reducible rfl | ((split; (exfalso; omega)); with_reducible rfl)))); (try simp only [Act.put, List.setIfInBounds_toArray, List.set_cons_zero, List.set_cons_succ])
    refine RM.const (v := ?_) (fun _ => rfl) (fun xq wq hSq => ?_) ?_; rotate_left; (focus (go_simp; (first | done | with_reducible rfl | ((split; (exfalso; omega)); with_reducible rfl)))); (try simp only [Act.put, List.setIfInBounds_toArray, List.set_cons_zero, List.set_cons_succ])
    refine RM.done (fun xq wq hSq hUq => ?_)
    clear q0 q1 q2 q3 q4 q6 q7
    go_wp2
    go_ret
    refine ⟨?_, ((Mod.refl _ w).alloc _).thenNone hSq⟩
    rw [HE.out]
    refine ret_str ?_
    simp only [ByteArray.mk_append_mk]
    simp [wayW]

set_option maxRecDepth 100000 in
set_option maxHeartbeats 4000000 in
theorem memoLine_any (x : Memo) (hx : x.ok) (v : Value) (w : World) (ht : Tab w) :
    Calls Tryd.prog 65 #[.agg #[.int .i64 x.node, .int .i64 x.wide.mode, .int .i64 x.wide.n, .int .i64 x.high.mode, .int .i64 x.high.n, .bool x.rtl, .int .i64 x.bw, .int .i64 x.bh, .int .i64 x.bb, v]] w fun e w' => e = .returned (.string ⟨(memoW x).toArray⟩) ∧ Mod (fun _ => False) w w' := by
  have hsh := memoW_short x hx
  obtain ⟨b0, b1, b2, _⟩ := hx
  obtain ⟨x0, ⟨x1, x2⟩, ⟨x3, x4⟩, x5, x6, x7, x8, xl⟩ := x
  have hE : Hid (memoW ⟨x0, ⟨x1, x2⟩, ⟨x3, x4⟩, x5, x6, x7, x8, xl⟩ = Lib.join [Lib.itoa x0, spaceW ⟨x1, x2⟩, spaceW ⟨x3, x4⟩, wayW x5, spacedOf [x6, x7]] [32]) := rfl
  simp only at b0 b1 b2 ⊢
  have Ht2 := hid (ht.keep ((Mod.refl (fun _ => False) w).alloc (.cells #[.int .i64 x0, .int .i64 x1, .int .i64 x2, .int .i64 x3, .int .i64 x4, .bool x5, .int .i64 x6, .int .i64 x7, .int .i64 x8, v] 106)))
  clear ht
  have k0 := fun W h => decimal_any x0 b0 W h
  have k3 := fun W h => spaceText_any x1 x2 W h
  have k4 := fun W h => spaceText_any x3 x4 W h
  have k5 := fun W => dirWord_any x5 W
  have k6 := fun W a h h' => spaced_any [x6, x7] (some ⟨a, 0, none⟩) 2 (fun k => k = a) W (by simp) h (by simp; exact ⟨b1, b2⟩) h'
  have k7 := fun W g h => join_lit (w := W) (g := g) (n := 5) (l := [Lib.itoa x0, spaceW ⟨x1, x2⟩, spaceW ⟨x3, x4⟩, wayW x5, spacedOf [x6, x7]]) [32] h rfl (by simp) (by rw [← hE.out]; omega)
  clear b0 b1 b2 hsh
  have hB := heap_alloc_new w (.cells [.int .i64 x0, .int .i64 x1, .int .i64 x2, .int .i64 x3, .int .i64 x4, .bool x5, .int .i64 x6, .int .i64 x7, .int .i64 x8, v].toArray 106)
  have q0 := hold (blk_cell hB (j := 0) rfl)
  have q1 := hold (blk_cell hB (j := 1) rfl)
  have q2 := hold (blk_cell hB (j := 2) rfl)
  have q3 := hold (blk_cell hB (j := 3) rfl)
  have q4 := hold (blk_cell hB (j := 4) rfl)
  have q5 := hold (blk_cell hB (j := 5) rfl)
  have q6 := hold (blk_cell hB (j := 6) rfl)
  have q7 := hold (blk_cell hB (j := 7) rfl)
  clear hB
  go_enter Tryd.func65, Tryd.ntmps65
  go_wp2
  refine wp_region_mod (by kernel_rfl) (by kernel_rfl) ?_
  refine RM.const (v := ?_) (fun _ => rfl) (fun xq wq hSq => ?_) ?_; rotate_left; (focus (go_simp; (first | done | with_reducible rfl | ((split; (exfalso; omega)); with_reducible rfl)))); (try simp only [Act.put, List.setIfInBounds_toArray, List.set_cons_zero, List.set_cons_succ])
  refine RM.const (v := ?_) (fun _ => rfl) (fun xq wq hSq => ?_) ?_; rotate_left; (focus (go_simp; (first | done | with_reducible rfl | ((split; (exfalso; omega)); with_reducible rfl)))); (try simp only [Act.put, List.setIfInBounds_toArray, List.set_cons_zero, List.set_cons_succ])
  refine RM.callc (v := ?_) (f := ?_) (args := ?_) (fun _ => rfl) (fun xq wq hSq => ?_) (fun wq hSq => ?_) ?_; rotate_left 3; (focus (go_simp; (refine ⟨?_, ?_⟩ <;> with_reducible rfl))); (focus (exact k0 _ (Ht2.out.keep hSq))); (try simp only [Act.put, List.setIfInBounds_toArray, List.set_cons_zero, List.set_cons_succ])
  refine RM.const (v := ?_) (fun _ => rfl) (fun xq wq hSq => ?_) ?_; rotate_left; (focus (go_simp; (first | done | with_reducible rfl | ((split; (exfalso; omega)); with_reducible rfl)))); (try simp only [Act.put, List.setIfInBounds_toArray, List.set_cons_zero, List.set_cons_succ])
  refine RM.const (v := ?_) (fun _ => rfl) (fun xq wq hSq => ?_) ?_; rotate_left; (focus (go_simp; (first | done | with_reducible rfl | ((split; (exfalso; omega)); with_reducible rfl)))); (try simp only [Act.put, List.setIfInBounds_toArray, List.set_cons_zero, List.set_cons_succ])
  refine RM.callc (v := ?_) (f := ?_) (args := ?_) (fun _ => rfl) (fun xq wq hSq => ?_) (fun wq hSq => ?_) ?_; rotate_left 3; (focus (go_simp; (refine ⟨?_, ?_⟩ <;> with_reducible rfl))); (focus (exact k3 _ (Ht2.out.keep hSq))); (try simp only [Act.put, List.setIfInBounds_toArray, List.set_cons_zero, List.set_cons_succ])
  refine RM.const (v := ?_) (fun _ => rfl) (fun xq wq hSq => ?_) ?_; rotate_left; (focus (go_simp; (first | done | with_reducible rfl | ((split; (exfalso; omega)); with_reducible rfl)))); (try simp only [Act.put, List.setIfInBounds_toArray, List.set_cons_zero, List.set_cons_succ])
  refine RM.const (v := ?_) (fun _ => rfl) (fun xq wq hSq => ?_) ?_; rotate_left; (focus (go_simp; (first | done | with_reducible rfl | ((split; (exfalso; omega)); with_reducible rfl)))); (try simp only [Act.put, List.setIfInBounds_toArray, List.set_cons_zero, List.set_cons_succ])
  refine RM.callc (v := ?_) (f := ?_) (args := ?_) (fun _ => rfl) (fun xq wq hSq => ?_) (fun wq hSq => ?_) ?_; rotate_left 3; (focus (go_simp; (refine ⟨?_, ?_⟩ <;> with_reducible rfl))); (focus (exact k4 _ (Ht2.out.keep hSq))); (try simp only [Act.put, List.setIfInBounds_toArray, List.set_cons_zero, List.set_cons_succ])
  refine RM.const (v := ?_) (fun _ => rfl) (fun xq wq hSq => ?_) ?_; rotate_left; (focus (go_simp; (first | done | with_reducible rfl | ((split; (exfalso; omega)); with_reducible rfl)))); (try simp only [Act.put, List.setIfInBounds_toArray, List.set_cons_zero, List.set_cons_succ])
  refine RM.const (v := ?_) (fun _ => rfl) (fun xq wq hSq => ?_) ?_; rotate_left; (focus (go_simp; (first | done | with_reducible rfl | ((split; (exfalso; omega)); with_reducible rfl)))); (try simp only [Act.put, List.setIfInBounds_toArray, List.set_cons_zero, List.set_cons_succ])
  refine RM.callc (v := ?_) (f := ?_) (args := ?_) (fun _ => rfl) (fun xq wq hSq => ?_) (fun wq hSq => ?_) ?_; rotate_left 3; (focus (go_simp; (refine ⟨?_, ?_⟩ <;> with_reducible rfl))); (focus (exact k5 _)); (try simp only [Act.put, List.setIfInBounds_toArray, List.set_cons_zero, List.set_cons_succ])
  refine RM.const (v := ?_) (fun _ => rfl) (fun xq wq hSq => ?_) ?_; rotate_left; (focus (go_simp; (first | done | with_reducible rfl | ((split; (exfalso; omega)); with_reducible rfl)))); (try simp only [Act.put, List.setIfInBounds_toArray, List.set_cons_zero, List.set_cons_succ])
  refine RM.const (v := ?_) (fun _ => rfl) (fun xq wq hSq => ?_) ?_; rotate_left; (focus (go_simp; (first | done | with_reducible rfl | ((split; (exfalso; omega)); with_reducible rfl)))); (try simp only [Act.put, List.setIfInBounds_toArray, List.set_cons_zero, List.set_cons_succ])
  refine RM.const (v := ?_) (fun _ => rfl) (fun xq wq hSq => ?_) ?_; rotate_left; (focus (go_simp; (first | done | with_reducible rfl | ((split; (exfalso; omega)); with_reducible rfl)))); (try simp only [Act.put, List.setIfInBounds_toArray, List.set_cons_zero, List.set_cons_succ])
  refine RM.const (v := ?_) (fun _ => rfl) (fun xq wq hSq => ?_) ?_; rotate_left; (focus (go_simp; (first | done | with_reducible rfl | ((split; (exfalso; omega)); with_reducible rfl)))); (try simp only [Act.put, List.setIfInBounds_toArray, List.set_cons_zero, List.set_cons_succ])
  refine RM.const (v := ?_) (fun _ => rfl) (fun xq wq hSq => ?_) ?_; rotate_left; (focus (go_simp; (first | done | with_reducible rfl | ((split; (exfalso; omega)); with_reducible rfl)))); (try simp only [Act.put, List.setIfInBounds_toArray, List.set_cons_zero, List.set_cons_succ])
  refine RM.const (v := ?_) (fun _ => rfl) (fun xq wq hSq => ?_) ?_; rotate_left; (focus (go_simp; (first | done | with_reducible rfl | ((split; (exfalso; omega)); with_reducible rfl)))); (try simp only [Act.put, List.setIfInBounds_toArray, List.set_cons_zero, List.set_cons_succ])
  refine RM.lit (n := ?_) (vals := ?_) (e := ?_) (fun _ => rfl) (fun xq wq hSq => ?_) ?_; rotate_left 3; (focus (go_simp; (first | done | with_reducible rfl | (refine ⟨?_, ?_⟩ <;> with_reducible rfl)))); (try simp only [Act.put, List.setIfInBounds_toArray, List.set_cons_zero, List.set_cons_succ])
  refine RM.call (v := ?_) (f := ?_) (args := ?_) [18] (by kernel_rfl) (fun _ => rfl) (fun xq wq hSq => ?_) (fun xq wq hSq hKq => ?_) ?_; rotate_left 3; (focus (go_simp; (refine ⟨?_, ?_⟩ <;> with_reducible rfl))); (focus (obtain ⟨g, hv, _, hb⟩ := hKq _ List.mem_cons_self (by simp); simp only at hv; simp only [hv]; exact k6 _ g (lit_two hb) (Ht2.out.keep hSq))); (try simp only [Act.put, List.setIfInBounds_toArray, List.set_cons_zero, List.set_cons_succ])
  refine RM.lit (n := ?_) (vals := ?_) (e := ?_) (fun _ => rfl) (fun xq wq hSq => ?_) ?_; rotate_left 3; (focus (go_simp; (first | done | with_reducible rfl | (refine ⟨?_, ?_⟩ <;> with_reducible rfl)))); (try simp only [Act.put, List.setIfInBounds_toArray, List.set_cons_zero, List.set_cons_succ])
  refine RM.call (v := ?_) (f := ?_) (args := ?_) [20] (by kernel_rfl) (fun _ => rfl) (fun xq wq hSq => ?_) (fun xq wq hSq hKq => ?_) ?_; rotate_left 3; (focus (go_simp; (refine ⟨?_, ?_⟩ <;> with_reducible rfl))); (focus (obtain ⟨g, hv, _, hb⟩ := hKq _ List.mem_cons_self (by simp); simp only at hv; simp only [hv]; exact k7 _ g hb)); (try simp only [Act.put, List.setIfInBounds_toArray, List.set_cons_zero, List.set_cons_succ])
  refine RM.const (v := ?_) (fun _ => rfl) (fun xq wq hSq => ?_) ?_; rotate_left; (focus (go_simp; (first | done | with_reducible rfl | ((split; (exfalso; omega)); with_reducible rfl)))); (try simp only [Act.put, List.setIfInBounds_toArray, List.set_cons_zero, List.set_cons_succ])
  refine RM.done (fun xq wq hSq hUq => ?_)
  clear q0 q1 q2 q3 q4 q5 q6 q7
  go_wp2
  go_ret
  refine ⟨?_, ((Mod.refl _ w).alloc _).thenNone hSq⟩
  rw [hE.out]
  rfl

end Go.Proofs.YtcolkidnjojlmaaDoor
