/-
  PROVED: contracts of the exact laws' functions at slices of memos: copy, comparison, count, marks. No condition but a bound on the lengths.
-/
import Derived.Test.YtcolkidnjojlmaaDoorMemoCodec
import Derived.Test.YtcolkidnjojlmaaDoorNest
namespace Go.Proofs.YtcolkidnjojlmaaDoor
open Go.RowKit

/-- A memo's cells, its frames' slice among them. -/
def memoRow (x : Memo) (a : Option Addr) (c : Nat) : List Value := [.int .i64 x.node, .int .i64 x.wide.mode, .int .i64 x.wide.n, .int .i64 x.high.mode, .int .i64 x.high.n, .bool x.rtl, .int .i64 x.bw, .int .i64 x.bh, .int .i64 x.bb, .slice a x.frames.length c]
/-- A memo's cells read as the memo; o: its frames may be written. -/
def MemoIn (o : Bool) (R : Nat → Prop) (w : World) (cs : List Value) (x : Memo) : Prop :=
  ∃ a c, cs = memoRow x a c ∧ SliceAt (Flat Frame.cells) 5 R w a x.frames ∧ (o = true → Wr 161 5 R w a x.frames.length)
theorem MemoIn.mod {o : Bool} {R S : Nat → Prop} {w w' : World} {cs : List Value} {x : Memo} (h : MemoIn o R w cs x) (hm : Mod S w w') (hs : ∀ k, R k → ¬ S k) : MemoIn o R w' cs x := by
  obtain ⟨a, c, h1, h2, h3⟩ := h
  exact ⟨a, c, h1, h2.flatMod hm hs, fun ho => (h3 ho).mod hm hs⟩
theorem MemoIn.keep {o : Bool} {R : Nat → Prop} {w w' : World} {cs : List Value} {x : Memo} (h : MemoIn o R w cs x) (hm : Mod (fun _ => False) w w') : MemoIn o R w' cs x := h.mod hm fun _ _ f => f
theorem MemoIn.wide {o : Bool} {R S : Nat → Prop} {w : World} {cs : List Value} {x : Memo} (h : MemoIn o R w cs x) (hs : ∀ k, k < w.heap.size → R k → S k) : MemoIn o S w cs x := by
  obtain ⟨a, c, h1, h2, h3⟩ := h
  exact ⟨a, c, h1, SliceAt.wide h2 hs, fun ho => (h3 ho).weaken hs⟩
abbrev MemoSlice (o : Bool) (R : Nat → Prop) (w : World) (a : Option Addr) (l : List Memo) : Prop := SliceAt (MemoIn o R) 10 R w a l
theorem MemoSlice.mod {o : Bool} {R S : Nat → Prop} {w w' : World} {a : Option Addr} {l : List Memo} (h : MemoSlice o R w a l) (hm : Mod S w w') (hs : ∀ k, R k → ¬ S k) : MemoSlice o R w' a l := SliceAt.mod h hm hs fun _ _ hx => hx.mod hm hs
theorem MemoSlice.keep {o : Bool} {R : Nat → Prop} {w w' : World} {a : Option Addr} {l : List Memo} (h : MemoSlice o R w a l) (hm : Mod (fun _ => False) w w') : MemoSlice o R w' a l := h.mod hm fun _ _ f => f

theorem info_Memo : (Tryd.prog.info? 106).map (fun i => (i.zero, i.size, i.bytes)) = some (some (.agg #[.int .i64 0, .int .i64 0, .int .i64 0, .int .i64 0, .int .i64 0, .bool false, .int .i64 0, .int .i64 0, .int .i64 0, .slice none 0 0]), 10, 96) := by kernel_rfl

set_option maxRecDepth 100000 in
set_option maxHeartbeats 4000000 in
theorem toMemoS_any (l : List Memo) (o : Bool) (a : Option Addr) (c : Nat) (R : Nat → Prop) (w : World) (hl : l.length ≤ 1048576) (hf : ∀ x ∈ l, x.frames.length ≤ 1048576) (h : MemoSlice o R w a l) :
    Calls Tryd.prog 63 #[.slice a l.length c] w (NewNest (MemoIn true) 106 10 w l) := by
  have H := hid h
  have HF := hid hf
  clear h hf
  obtain ⟨i0, hi, hz0, hz1, hz2⟩ := info_parts info_Memo
  have hmk : ∀ W : World, (Instr.makeSlice 59 (.int .i64 (l.length : Int)) (.int .i64 (l.length : Int))).run Tryd.prog W = .ok (.slice (some ⟨W.heap.size, 0, none⟩) l.length l.length) (W.alloc (.cells (madeCells (Value.cells (.agg #[.int .i64 0, .int .i64 0, .int .i64 0, .int .i64 0, .int .i64 0, .bool false, .int .i64 0, .int .i64 0, .int .i64 0, .slice none 0 0])) (l.length * 10)) 106)) := by
    intro W
    have := run_make (P := Tryd.prog) W 59 106 i0 _ Tryd.underlying59 hi hz0 .i64 .i64 l.length l.length (by omega) (by omega) (by rw [hz2]; omega) (by omega)
    simpa [hz1] using this
  clear hz0 hz1 hz2 hi
  go_enter Tryd.func63, Tryd.ntmps63
  go_wp2
  go_loopw [4] (fun i wr => ∃ (k : Nat) (rows : List (List Value)), k ≤ l.length ∧ i = .int .i64 k ∧ Hid (rows.length = k ∧ (∀ r ∈ rows, r.length = 10) ∧ (∀ (i : Nat) (r : List Value) (x : Memo), rows[i]? = some r → l[i]? = some x → MemoIn true (fun b => w.heap.size < b) wr r x)) ∧ Filled w.heap.size 106 (l.length * 10) wr rows.flatten ∧ Mod (fun _ => False) w wr) (fun i _ => l.length - (intOf i).toNat)
  case atStart => exact ⟨0, [], by omega, rfl, hid ⟨rfl, (fun _ h => by simp at h), (fun _ _ _ h => by simp at h)⟩, Filled.made w _ _ _ (size_madeCells _ _), (Mod.refl _ w).alloc _⟩
  case round =>
    obtain ⟨k, rows, hk, rfl, HR, hF, hM⟩ := hrel
    clear hmk
    by_cases hlt : k < l.length
    · obtain ⟨b, o', x, r, rfl, hb, hbw, hx, ⟨fa, fc, rfl, hfs, _⟩, hrl', hc⟩ := (H.out.keep hM).get hlt
      have hxl := HF.out x (List.mem_of_getElem? hx.out)
      have c0 : wr.cell? ⟨b, o' + k * 10, none⟩ = _ := hc 0 _ rfl
      have c1 : wr.cell? ⟨b, o' + k * 10 + 1, none⟩ = _ := hc 1 _ rfl
      have c2 : wr.cell? ⟨b, o' + k * 10 + 2, none⟩ = _ := hc 2 _ rfl
      have c3 : wr.cell? ⟨b, o' + k * 10 + 3, none⟩ = _ := hc 3 _ rfl
      have c4 : wr.cell? ⟨b, o' + k * 10 + 4, none⟩ = _ := hc 4 _ rfl
      have c5 : wr.cell? ⟨b, o' + k * 10 + 5, none⟩ = _ := hc 5 _ rfl
      have c6 : wr.cell? ⟨b, o' + k * 10 + 6, none⟩ = _ := hc 6 _ rfl
      have c7 : wr.cell? ⟨b, o' + k * 10 + 7, none⟩ = _ := hc 7 _ rfl
      have c8 : wr.cell? ⟨b, o' + k * 10 + 8, none⟩ = _ := hc 8 _ rfl
      have c9 : wr.cell? ⟨b, o' + k * 10 + 9, none⟩ = _ := hc 9 _ rfl
      clear hc hrl'
      have Hfs := hid hfs
      have hF0 := hF.size
      clear hfs
      go_wp2_with fail
      refine (toMemo_any x fa fc R _ hxl (Hfs.out.flatKeep (by (repeat (first | with_reducible exact Mod.refl _ _ | with_reducible refine Mod.drewN ?_ _ | with_reducible refine Mod.drew ?_ | with_reducible refine Mod.alloc ?_ _ | ((with_reducible refine Mod.setNew ?_ ?_ _ _ _); (rotate_left; omega)) | with_reducible refine Mod.setAt ?_ _ _ _ ))))).mono ?_
      rintro e w1 ⟨g, rfl, hg, hb1, hm1⟩
      have hm1' : Mod (fun _ => False) wr w1 := by (repeat (first | with_reducible exact Mod.refl _ _ | with_reducible refine Mod.drewN ?_ _ | with_reducible refine Mod.drew ?_ | with_reducible refine Mod.alloc ?_ _ | ((with_reducible refine Mod.setNew ?_ ?_ _ _ _); (rotate_left; omega)) | with_reducible refine Mod.setAt ?_ _ _ _ | with_reducible exact hm1 | with_reducible refine Mod.thenNone ?_ hm1 ))
      have hgw : w.heap.size < g := by
        have h1 : wr.heap.size ≤ g := by simpa using hg
        omega
      have hF1 := hF.mod hm1' (fun f => f)
      obtain ⟨v0, d0⟩ := hF1.cell (off := k * 10) (by omega)
      have z0 := hF1.free (k * 10)
      obtain ⟨v1, d1⟩ := hF1.cell (off := k * 10 + 1) (by omega)
      have z1 := hF1.free (k * 10 + 1)
      obtain ⟨v2, d2⟩ := hF1.cell (off := k * 10 + 2) (by omega)
      have z2 := hF1.free (k * 10 + 2)
      obtain ⟨v3, d3⟩ := hF1.cell (off := k * 10 + 3) (by omega)
      have z3 := hF1.free (k * 10 + 3)
      obtain ⟨v4, d4⟩ := hF1.cell (off := k * 10 + 4) (by omega)
      have z4 := hF1.free (k * 10 + 4)
      obtain ⟨v5, d5⟩ := hF1.cell (off := k * 10 + 5) (by omega)
      have z5 := hF1.free (k * 10 + 5)
      obtain ⟨v6, d6⟩ := hF1.cell (off := k * 10 + 6) (by omega)
      have z6 := hF1.free (k * 10 + 6)
      obtain ⟨v7, d7⟩ := hF1.cell (off := k * 10 + 7) (by omega)
      have z7 := hF1.free (k * 10 + 7)
      obtain ⟨v8, d8⟩ := hF1.cell (off := k * 10 + 8) (by omega)
      have z8 := hF1.free (k * 10 + 8)
      obtain ⟨v9, d9⟩ := hF1.cell (off := k * 10 + 9) (by omega)
      have z9 := hF1.free (k * 10 + 9)
      have HF1 := hid hF1
      have Hb1 := hid hb1
      have Hm1 := hid hm1'
      have HM1 := hid (hM.thenNone hm1')
      clear hF hF1 hb1 hm1 hm1' hg
      go_wp2
      go_roundw
      case rel =>
        obtain ⟨hrl, hrs, hrep⟩ := HR.out
        have hne : g ≠ w.heap.size := by omega
        refine ⟨k + 1, rows ++ [memoRow x (some ⟨g, 0, none⟩) x.frames.length], by omega, by go_num, hid ⟨by simp [hrl], lens_succ hrs rfl, ?_⟩, ?_, ?_⟩
        · refine rows_succ hx hrl (rows_map hrep fun r x hq => hq.mod (S := fun k => k = w.heap.size) ?_ (fun k hk e => by omega)) ⟨_, _, rfl, SliceAt.wide (flat_of_blk (e := 161) (sz := 5) ?_ (fun _ => rfl)) (fun k _ hk => by omega), fun _ => wr_of_blk (xs := (x.frames.map Frame.cells).flatten) ?_ (flat_length (cells := Frame.cells) (sz := 5) (fun _ => rfl) _) hgw⟩
          · iterate 10 refine Mod.setAt ?_ _ _ _
            exact Hm1.out.mono (fun _ _ f => f.elim)
          · iterate 10 refine set_far ?_ hne
            exact Hb1.out
          · iterate 10 refine set_far ?_ hne
            exact Hb1.out
        · have hl0 := flatten_length hrs
          rw [hrl] at hl0
          have e : (rows ++ [memoRow x (some ⟨g, 0, none⟩) x.frames.length]).flatten = rows.flatten ++ [.int .i64 x.node] ++ [.int .i64 x.wide.mode] ++ [.int .i64 x.wide.n] ++ [.int .i64 x.high.mode] ++ [.int .i64 x.high.n] ++ [.bool x.rtl] ++ [.int .i64 x.bw] ++ [.int .i64 x.bh] ++ [.int .i64 x.bb] ++ [.slice (some ⟨g, 0, none⟩) x.frames.length x.frames.length] := by simp [memoRow]
          rw [e]
          have hF1 := HF1.out
          generalize rows.flatten = s at hF1 hl0
          exact ((((((((((hF1.push (off := k * 10) (by simp [hl0]) (by omega) _).push (off := k * 10 + 1) (by simp [hl0]) (by omega) _).push (off := k * 10 + 2) (by simp [hl0]) (by omega) _).push (off := k * 10 + 3) (by simp [hl0]) (by omega) _).push (off := k * 10 + 4) (by simp [hl0]) (by omega) _).push (off := k * 10 + 5) (by simp [hl0]) (by omega) _).push (off := k * 10 + 6) (by simp [hl0]) (by omega) _).push (off := k * 10 + 7) (by simp [hl0]) (by omega) _).push (off := k * 10 + 8) (by simp [hl0]) (by omega) _).push (off := k * 10 + 9) (by simp [hl0]) (by omega) _)
        · have hM1 := HM1.out
          (repeat (first | with_reducible exact Mod.refl _ _ | with_reducible refine Mod.drewN ?_ _ | with_reducible refine Mod.drew ?_ | with_reducible refine Mod.alloc ?_ _ | ((with_reducible refine Mod.setNew ?_ ?_ _ _ _); (rotate_left; omega)) | with_reducible refine Mod.setAt ?_ _ _ _ | with_reducible exact hM1 | with_reducible refine Mod.thenNone ?_ hM1 ))
      case measure => simp [intOf]; omega
    · have hk' : k = l.length := by omega
      subst hk'
      obtain ⟨hrl, hrs, hrep⟩ := HR.out
      go_wp2
      go_ret
      refine ⟨w.heap.size, rows, rfl, Nat.le_refl _, ?_, hrl, hrs, rows_map hrep fun r x hq => hq.wide fun _ _ hk => Nat.le_of_lt hk, hM⟩
      exact hF.full (by rw [flatten_length hrs, hrl])

set_option maxRecDepth 100000 in
set_option maxHeartbeats 4000000 in
theorem eqMemoS_same (l : List Memo) (o o' : Bool) (a a' : Option Addr) (c c' : Nat) (R S : Nat → Prop) (w : World) (hl : l.length ≤ 1048576) (hf : ∀ x ∈ l, x.frames.length ≤ 1048576) (h : MemoSlice o R w a l) (h' : MemoSlice o' S w a' l) :
    Calls Tryd.prog 67 #[.slice a l.length c, .slice a' l.length c'] w fun e w' => e = .returned (.bool true) ∧ Mod (fun _ => False) w w' := by
  have H := hid h
  have H' := hid h'
  have HF := hid hf
  clear h h' hf
  have hn0 : ((l.length : Int) != (l.length : Int)) = false := by simp
  go_enter Tryd.func67, Tryd.ntmps67
  go_wp2
  go_loopw [5] (fun i wr => ∃ k : Nat, k ≤ l.length ∧ i = .int .i64 k ∧ Mod (fun _ => False) w wr) (fun i _ => l.length - (intOf i).toNat)
  case atStart => exact ⟨0, by omega, rfl, Mod.refl _ _⟩
  case round =>
    obtain ⟨k, hk, rfl, hM⟩ := hrel
    by_cases hlt : k < l.length
    · obtain ⟨b, o1, x, r, rfl, hb, hbw, hx, ⟨fa, fc, rfl, hfs, _⟩, hrl, hc⟩ := (H.out.keep hM).get hlt
      obtain ⟨b', o2, y, r', rfl, hb', hbw', hy, ⟨fa', fc', rfl, hfs', _⟩, hrl', hd⟩ := (H'.out.keep hM).get hlt
      obtain rfl : x = y := Option.some.inj (hx.out.symm.trans hy.out)
      have hxl := HF.out x (List.mem_of_getElem? hx.out)
      have c0 : wr.cell? ⟨b, o1 + k * 10, none⟩ = _ := hc 0 _ rfl
      have d0 : wr.cell? ⟨b', o2 + k * 10, none⟩ = _ := hd 0 _ rfl
      have c1 : wr.cell? ⟨b, o1 + k * 10 + 1, none⟩ = _ := hc 1 _ rfl
      have d1 : wr.cell? ⟨b', o2 + k * 10 + 1, none⟩ = _ := hd 1 _ rfl
      have c2 : wr.cell? ⟨b, o1 + k * 10 + 2, none⟩ = _ := hc 2 _ rfl
      have d2 : wr.cell? ⟨b', o2 + k * 10 + 2, none⟩ = _ := hd 2 _ rfl
      have c3 : wr.cell? ⟨b, o1 + k * 10 + 3, none⟩ = _ := hc 3 _ rfl
      have d3 : wr.cell? ⟨b', o2 + k * 10 + 3, none⟩ = _ := hd 3 _ rfl
      have c4 : wr.cell? ⟨b, o1 + k * 10 + 4, none⟩ = _ := hc 4 _ rfl
      have d4 : wr.cell? ⟨b', o2 + k * 10 + 4, none⟩ = _ := hd 4 _ rfl
      have c5 : wr.cell? ⟨b, o1 + k * 10 + 5, none⟩ = _ := hc 5 _ rfl
      have d5 : wr.cell? ⟨b', o2 + k * 10 + 5, none⟩ = _ := hd 5 _ rfl
      have c6 : wr.cell? ⟨b, o1 + k * 10 + 6, none⟩ = _ := hc 6 _ rfl
      have d6 : wr.cell? ⟨b', o2 + k * 10 + 6, none⟩ = _ := hd 6 _ rfl
      have c7 : wr.cell? ⟨b, o1 + k * 10 + 7, none⟩ = _ := hc 7 _ rfl
      have d7 : wr.cell? ⟨b', o2 + k * 10 + 7, none⟩ = _ := hd 7 _ rfl
      have c8 : wr.cell? ⟨b, o1 + k * 10 + 8, none⟩ = _ := hc 8 _ rfl
      have d8 : wr.cell? ⟨b', o2 + k * 10 + 8, none⟩ = _ := hd 8 _ rfl
      have c9 : wr.cell? ⟨b, o1 + k * 10 + 9, none⟩ = _ := hc 9 _ rfl
      have d9 : wr.cell? ⟨b', o2 + k * 10 + 9, none⟩ = _ := hd 9 _ rfl
      clear hc hd hrl hrl'
      have Hfs := hid hfs
      have Hfs' := hid hfs'
      clear hfs hfs'
      go_wp2
      go_still_tail 8, (by kernel_rfl)
      go_wp2_with fail
      refine (eqMemo_any x fa fa' fc fc' R S _ hxl (Hfs.out.flatKeep (by (repeat (first | with_reducible exact Mod.refl _ _ | with_reducible refine Mod.drewN ?_ _ | with_reducible refine Mod.drew ?_ | with_reducible refine Mod.alloc ?_ _ | ((with_reducible refine Mod.setNew ?_ ?_ _ _ _); (rotate_left; omega)) | with_reducible refine Mod.setAt ?_ _ _ _ )))) (Hfs'.out.flatKeep (by (repeat (first | with_reducible exact Mod.refl _ _ | with_reducible refine Mod.drewN ?_ _ | with_reducible refine Mod.drew ?_ | with_reducible refine Mod.alloc ?_ _ | ((with_reducible refine Mod.setNew ?_ ?_ _ _ _); (rotate_left; omega)) | with_reducible refine Mod.setAt ?_ _ _ _ ))))).mono ?_
      rintro e w1 ⟨rfl, hm1⟩
      go_wp2
      go_roundw
      case rel => exact ⟨k + 1, by omega, by go_num, hM.drew.thenNone hm1⟩
      case measure => simp [intOf]; omega
    · go_wp2
      go_ret
      exact ⟨rfl, hM⟩

/-- What a memo counts besides itself. -/
def Memo.cost (x : Memo) : Nat := x.frames.length
end Go.Proofs.YtcolkidnjojlmaaDoor
