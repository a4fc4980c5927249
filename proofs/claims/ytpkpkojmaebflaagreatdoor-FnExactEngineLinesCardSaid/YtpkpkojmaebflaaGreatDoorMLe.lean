/-
  PROVED: contracts of functions and words on memory, several texts put together: what each says stands at its theorems. Conditions: as told there.
-/
import Derived.Test.YtpkpkojmaebflaaGreatDoorMLd
import Derived.Test.YtpkpkojmaebflaaGreatDoorChecked
import Derived.Deep.RegionHeld3
import Derived.Deep.QuietTactic
import Derived.BigQuiet
import Derived.Outline
import Derived.StillTailTactics
import Derived.WalkLawsBesides
import Derived.Laws.OwnMore
import Derived.Deep.Onto
set_option linter.unusedVariables false
set_option linter.unusedSimpArgs false
namespace Go.Proofs.YtpkpkojmaebflaaGreatDoor
open Go.RowKit

set_option maxRecDepth 100000 in
set_option maxHeartbeats 4000000 in
theorem szMemoS_any (l : List Memo) (o : Bool) (a : Option Addr) (c : Nat) (R : Nat → Prop) (left : Int) (w : World) (h0 : 0 ≤ left) (h1 : left ≤ 1048576) (hl : l.length ≤ 9223372036854775807) (hf : ∀ x ∈ l, x.frames.length ≤ 9223372036854775807) (h : MemoSlice o R w a l) :
    Calls Tryz.prog 35 #[.slice a l.length c, .int .i64 left] w fun e w' => e = .returned (.int .i64 (szRes left (l.length + costs Memo.cost l))) ∧ Mod (fun _ => False) w w' := by
  have H := hid h
  have HF := hid hf
  clear h hf
  by_cases hs : left < l.length
  · rw [szRes_less (by omega)]
    have h2 : left - l.length < 0 := by omega
    have h3 : -9223372036854775807 ≤ left - l.length := by omega
    go_enter Tryz.func35, Tryz.ntmps35
    go_wp2
    go_ret
    exact ⟨rfl, Mod.refl _ _⟩
  · have h2 : 0 ≤ left - l.length := by omega
    go_enter Tryz.func35, Tryz.ntmps35
    go_wp2
    go_loopw [1, 5] (fun z i wr => ∃ (k : Nat) (q : Int), k ≤ l.length ∧ z = .int .i64 q ∧ Hid (q = left - l.length - costs Memo.cost (l.take k)) ∧ 0 ≤ q ∧ q ≤ 1048576 ∧ i = .int .i64 k ∧ Mod (fun _ => False) w wr) (fun _ i _ => l.length - (intOf i).toNat)
    case atStart => exact ⟨0, _, by omega, rfl, hid (by simp [costs]), h2, by omega, rfl, Mod.refl _ _⟩
    case round =>
      obtain ⟨k, q, hk, rfl, hq, q1, q2, rfl, hM⟩ := hrel
      by_cases hlt : k < l.length
      · obtain ⟨b, o', x, r, rfl, hb, hbw, hx, ⟨fa, fc, rfl, _, _⟩, hrl', hc⟩ := (H.out.keep hM).get hlt
        have hxl := HF.out x (List.mem_of_getElem? hx.out)
        have c0 : wr.cell? ⟨b, o' + k * 10, none⟩ = _ := hc 0 _ rfl
        have c1 : wr.cell? ⟨b, o' + k * 10 + 1, none⟩ = _ := hc 1 _ rfl
        have c2 : wr.cell? ⟨b, o' + k * 10 + 2, none⟩ = _ := hc 2 _ rfl
        have c3 : wr.cell? ⟨b, o' + k * 10 + 3, none⟩ = _ := hc 3 _ rfl
        have c4 : wr.cell? ⟨b, o' + k * 10 + 4, none⟩ = _ := hc 4 _ rfl
        have c5 : wr.cell? ⟨b, o' + k * 10 + 5, none⟩ = _ := hc 5 _ rfl
        have c6 : wr.cell? ⟨b, o' + k * 10 + 6, none⟩ = _ := hc 6 _ rfl
        have c7 : wr.cell? ⟨b, o' + k * 10 + 7, none⟩ = _ := hc 7 _ rfl
        have c8 : wr.cell? ⟨b, o' + k * 10 + 8, none⟩ = _ := hc 8 _ rfl
        have c9 : wr.cell? ⟨b, o' + k * 10 + 9, none⟩ = _ := hc 9 _ rfl
        clear hc hrl'
        have hs1 := hid (costs_succ Memo.cost hx)
        have hs2 := hid (costs_take Memo.cost l (k + 1))
        go_wp2_with fail
        refine (szMemo_any x _ fc fa _ q1 q2 hxl _).mono ?_
        rintro e w1 ⟨rfl, hm1⟩
        by_cases hsx : q < x.frames.length
        · rw [if_pos hsx]
          have hlast := hid (show left < l.length + costs Memo.cost l by have := hs1.out; have := hs2.out; have := hq.out; unfold Memo.cost at *; omega)
          go_wp2
          go_ret
          exact ⟨ret_int (szRes_less (by have := hlast.out; omega)).symm, hM.thenNone (by (repeat (first | with_reducible exact Mod.refl _ _ | with_reducible refine Mod.drewN ?_ _ | with_reducible refine Mod.drew ?_ | with_reducible refine Mod.alloc ?_ _ | ((with_reducible refine Mod.setNew ?_ ?_ _ _ _); (rotate_left; omega)) | with_reducible refine Mod.setAt ?_ _ _ _ | with_reducible exact hm1 | with_reducible refine Mod.thenNone ?_ hm1 )))⟩
        · rw [if_neg hsx]
          have q3 : 0 ≤ q - x.frames.length := by omega
          have hq2 := hid (show q - x.frames.length = left - l.length - costs Memo.cost (l.take (k + 1)) by have := hs1.out; have := hq.out; unfold Memo.cost at *; omega)
          go_wp2
          go_roundw
          case rel => exact ⟨k + 1, _, by omega, rfl, hq2, q3, by omega, by go_num, hM.thenNone (by (repeat (first | with_reducible exact Mod.refl _ _ | with_reducible refine Mod.drewN ?_ _ | with_reducible refine Mod.drew ?_ | with_reducible refine Mod.alloc ?_ _ | ((with_reducible refine Mod.setNew ?_ ?_ _ _ _); (rotate_left; omega)) | with_reducible refine Mod.setAt ?_ _ _ _ | with_reducible exact hm1 | with_reducible refine Mod.thenNone ?_ hm1 )))⟩
          case measure => simp [intOf]; omega
      · have hk' : k = l.length := by omega
        subst hk'
        have hlast := hid (show ¬ left < l.length + costs Memo.cost l by have := hq.out; rw [List.take_length] at this; omega)
        go_wp2
        go_ret
        refine ⟨ret_int ?_, hM⟩
        have h5 := hq.out
        have h6 := hlast.out
        rw [List.take_length] at h5
        rw [szRes_more (by omega)]
        omega


/-- The frames of a slice of memos may be written. -/
def MemoSh (R : Nat → Prop) (g n : Nat) (w : World) : Prop := ∀ i, i < n → ∃ a m c, w.cell? ⟨g, i * 10 + 9, none⟩ = some (.slice a m c) ∧ m ≤ 1048576 ∧ Wr 91 5 R w a m
/-- A slice of memos that may be written, its frames too. -/
def MemoWr (R : Nat → Prop) (w : World) (a : Option Addr) (n : Nat) : Prop :=
  n = 0 ∨ ∃ g N, a = some ⟨g, 0, none⟩ ∧ R g ∧ n * 10 ≤ N ∧ Filled g 101 N w [] ∧ MemoSh R g n w
theorem MemoSh.set {R : Nat → Prop} {g n : Nat} {w : World} (h : MemoSh R g n w) (j : Nat) (v : Value) (hj : j % 10 ≠ 9) : MemoSh R g n (w.setCell ⟨g, j, none⟩ v) := fun i hi => by
  obtain ⟨a, m, c, h1, h2, h3⟩ := h i hi
  refine ⟨a, m, c, ?_, h2, h3.set g j none v⟩
  have hne : (⟨g, j, none⟩ : Addr) ≠ ⟨g, i * 10 + 9, none⟩ := by
    intro e
    simp only [Addr.mk.injEq, true_and, and_true] at e
    omega
  rw [World.cell?_setCell_other w _ _ _ hne]
  exact h1
theorem MemoSh.keep {P R : Nat → Prop} {g n N : Nat} {w w' : World} (h : MemoSh R g n w) (hf : Filled g 101 N w []) (hk : KeepB P w w') (hp : ¬ P 101) : MemoSh R g n w' := fun i hi => by
  obtain ⟨a, m, c, h1, h2, h3⟩ := h i hi
  exact ⟨a, m, c, (World.cell?_of_block (a := ⟨g, i * 10 + 9, none⟩) ((hk g _ N hf).2 hp)).trans h1, h2, h3.keep hk⟩
theorem MemoWr.keep {P R : Nat → Prop} {a : Option Addr} {n : Nat} {w w' : World} (h : MemoWr R w a n) (hk : KeepB P w w') (hp : ¬ P 101) : MemoWr R w' a n := by
  rcases h with h | ⟨g, N, h1, h2, h3, h4, h5⟩
  · exact .inl h
  · exact .inr ⟨g, N, h1, h2, h3, (hk g _ N h4).1, h5.keep h4 hk hp⟩
theorem MemoSlice.wr {R : Nat → Prop} {g N : Nat} {w : World} {l : List Memo} (h : MemoSlice true R w (some ⟨g, 0, none⟩) l) (hf : Filled g 101 N w []) (hN : l.length * 10 ≤ N) (hm : ∀ x ∈ l, x.frames.length ≤ 1048576) (hR : R g) : MemoWr R w (some ⟨g, 0, none⟩) l.length := by
  refine .inr ⟨g, N, rfl, hR, hN, hf, fun i hi => ?_⟩
  obtain ⟨b, o, x, r, e, hb, hbw, hx, ⟨a, c, rfl, h2, h3⟩, hl, hc⟩ := h.get hi
  simp only [Option.some.injEq, Addr.mk.injEq, and_true] at e
  obtain ⟨rfl, rfl⟩ := e
  have h9 := hc 9 _ rfl
  rw [Nat.zero_add] at h9
  exact ⟨_, _, _, h9, hm x (List.mem_of_getElem? hx.out), h3 rfl⟩

theorem markFrameS_wr (n c : Nat) (a : Option Addr) (R : Nat → Prop) (w : World) (q0 : Int) (hq0 : 0 ≤ q0) (hq1 : q0 ≤ 1000000000000000) (hn : n ≤ 1048576) (h : Wr 91 5 R w a n) :
    Calls Tryz.prog 32 #[.slice a n c, .int .i64 q0] w fun e w' => e = .returned (.int .i64 (q0 + n * 5)) ∧ Mod R w w' ∧ KeepB (fun t => t = 91) w w' :=
  mark_wr h fun g N hh => markFrameS_any n c a g N w q0 hq0 hq1 hn hh

set_option maxRecDepth 100000 in
set_option maxHeartbeats 4000000 in
theorem markMemoS_any (n c : Nat) (a : Option Addr) (R : Nat → Prop) (w : World) (q0 : Int) (hq0 : 1 ≤ q0) (hq1 : q0 ≤ 100000000000000) (hn : n ≤ 1048576) (h : MemoWr R w a n) :
    Calls Tryz.prog 67 #[.slice a n c, .int .i64 q0] w fun e w' => ∃ q : Int, e = .returned (.int .i64 q) ∧ q0 ≤ q ∧ q ≤ q0 + n * 6000000 ∧ Mod R w w' ∧ KeepB (fun t => t = 101 ∨ t = 91) w w' := by
  have H := hid h
  clear h
  go_enter Tryz.func67, Tryz.ntmps67
  go_wp2
  go_loopw [1, 5] (fun z i wr => ∃ (k : Nat) (q : Int), k ≤ n ∧ z = .int .i64 q ∧ q0 ≤ q ∧ q ≤ q0 + k * 6000000 ∧ i = .int .i64 k ∧ Mod R w wr ∧ KeepB (fun t => t = 101 ∨ t = 91) w wr ∧ MemoWr R wr a n) (fun _ i _ => n - (intOf i).toNat)
  case atStart => exact ⟨0, q0, by omega, rfl, by omega, by omega, rfl, Mod.refl _ _, KeepB.refl _ _, H.out⟩
  case round =>
    obtain ⟨k, q, hk, rfl, q1, q2, rfl, hM, hK, hW⟩ := hrel
    by_cases hlt : k < n
    · rcases hW with h | ⟨g, N, rfl, hR, hN, hF, hS⟩
      · omega
      obtain ⟨fa, m, fc, c9, hm, hw⟩ := hS k hlt
      obtain ⟨v0, d0⟩ := hF.cell (off := k * 10) (by omega)
      have z0 := hF.free (k * 10)
      obtain ⟨v1, d1⟩ := hF.cell (off := k * 10 + 1) (by omega)
      have z1 := hF.free (k * 10 + 1)
      obtain ⟨v2, d2⟩ := hF.cell (off := k * 10 + 2) (by omega)
      have z2 := hF.free (k * 10 + 2)
      obtain ⟨v3, d3⟩ := hF.cell (off := k * 10 + 3) (by omega)
      have z3 := hF.free (k * 10 + 3)
      obtain ⟨v4, d4⟩ := hF.cell (off := k * 10 + 4) (by omega)
      have z4 := hF.free (k * 10 + 4)
      obtain ⟨v5, d5⟩ := hF.cell (off := k * 10 + 5) (by omega)
      have z5 := hF.free (k * 10 + 5)
      obtain ⟨v6, d6⟩ := hF.cell (off := k * 10 + 6) (by omega)
      have z6 := hF.free (k * 10 + 6)
      obtain ⟨v7, d7⟩ := hF.cell (off := k * 10 + 7) (by omega)
      have z7 := hF.free (k * 10 + 7)
      obtain ⟨v8, d8⟩ := hF.cell (off := k * 10 + 8) (by omega)
      have z8 := hF.free (k * 10 + 8)
      have z9 := hF.free (k * 10 + 9)
      have hgs := hF.size
      have HK := hid hK
      have HM := hid hM
      clear hK hM
      have HF := hid hF
      have HS := hid hS
      have HW := hid hw
      clear hF hS hw
      go_wp2_with fail
      refine (markFrameS_wr m fc fa R _ _ (by omega) (by omega) hm ?_).mono ?_
      · iterate 9 refine Wr.set ?_ _ _ _ _
        exact HW.out
      rintro e w1 ⟨rfl, hm1, hk1⟩
      have HK1 := hid hk1
      have HM1 := hid hm1
      clear hk1 hm1
      go_wp2
      go_roundw
      case rel =>
        have hm1 := HM1.out
        have hk1 := HK1.out
        refine ⟨k + 1, q + 1 + 1 + 1 + 1 + 1 + 1 + 1 + 1 + 1 + m * 5, by omega, rfl, by omega, by omega, by go_num, ?_, ?_, ?_⟩
        · refine Mod.trans ?_ hm1
          iterate 9 refine Mod.setCell ?_ (fun _ => .inl hR) _
          exact HM.out
        · refine HK.out.trans (KeepB.trans (b := _) ?_ (hk1.mono fun e h => .inr h))
          iterate 9 refine KeepB.set ?_ HF.out (.inl rfl) _ _ _
          exact KeepB.refl _ _
        · refine MemoWr.keep (P := fun t => t = 91) (.inr ⟨g, N, rfl, hR, hN, ?_, ?_⟩) hk1 (by decide)
          · iterate 9 refine Filled.set ?_ _ _ _ _
            exact HF.out
          · iterate 9 refine MemoSh.set ?_ _ _ (by omega)
            exact HS.out
      case measure => simp [intOf]; omega
    · have hk' : k = n := by omega
      subst hk'
      go_wp2
      go_ret
      exact ⟨q, rfl, q1, q2, hM, hK⟩

end Go.Proofs.YtpkpkojmaebflaaGreatDoor
namespace Go.Proofs.YtpkpkojmaebflaaGreatDoor
open Go.RowKit

theorem toAsked_any (x : Asked) (w : World) : Calls Tryz.prog 79 #[.agg #[.int .i64 x.node, .int .i64 x.wide.mode, .int .i64 x.wide.n, .int .i64 x.high.mode, .int .i64 x.high.n, .bool x.rtl]] w fun e w' => e = .returned (.agg #[.int .i64 x.node, .int .i64 x.wide.mode, .int .i64 x.wide.n, .int .i64 x.high.mode, .int .i64 x.high.n, .bool x.rtl]) ∧ Mod (fun _ => False) w w' := by
  go_enter Tryz.func79, Tryz.ntmps79
  go_wp2_with fail
  refine (toSpace_any ⟨_, _⟩ _).mono ?_
  rintro e w1 ⟨rfl, hm1⟩
  obtain ⟨hq1, hz1⟩ := mcell hm1
  have hs1 := hm1.size
  simp only [World.size_alloc] at hs1
  have hr0 : w.heap.size < w1.heap.size := by omega
  have hr1 : w.heap.size + 1 < w1.heap.size := by omega
  have hr2 : w.heap.size + 1 + 1 < w1.heap.size := by omega
  go_wp2_with fail
  refine (toSpace_any ⟨_, _⟩ _).mono ?_
  rintro e w2 ⟨rfl, hm2⟩
  obtain ⟨hq2, hz2⟩ := mcell hm2
  go_wp2
  refine bodyPost_ret (v := .agg #[.int .i64 x.node, .int .i64 x.wide.mode, .int .i64 x.wide.n, .int .i64 x.high.mode, .int .i64 x.high.n, .bool x.rtl]) ?_ rfl ⟨rfl, ?_⟩
  · simp [results, Tryz.results79, go_sem, *]
  · (repeat (first | with_reducible exact Mod.refl _ _ | with_reducible refine Mod.drewN ?_ _ | with_reducible refine Mod.drew ?_ | with_reducible refine Mod.alloc ?_ _ | ((with_reducible refine Mod.setNew ?_ ?_ _ _ _); (rotate_left; omega)) | with_reducible refine Mod.setAt ?_ _ _ _ | with_reducible exact hm2 | with_reducible refine Mod.thenNone ?_ hm2 | with_reducible exact hm1 | with_reducible refine Mod.thenNone ?_ hm1 ))

set_option maxHeartbeats 1000000 in
theorem eqAsked_any (x y : Asked) (w : World) : Calls Tryz.prog 96 #[.agg #[.int .i64 x.node, .int .i64 x.wide.mode, .int .i64 x.wide.n, .int .i64 x.high.mode, .int .i64 x.high.n, .bool x.rtl], .agg #[.int .i64 y.node, .int .i64 y.wide.mode, .int .i64 y.wide.n, .int .i64 y.high.mode, .int .i64 y.high.n, .bool y.rtl]] w fun e w' => e = .returned (.bool (decide (x = y))) ∧ Mod (fun _ => False) w w' := by
  obtain ⟨x0, ⟨x1, x2⟩, ⟨x3, x4⟩, x5⟩ := x
  obtain ⟨y0, ⟨y1, y2⟩, ⟨y3, y4⟩, y5⟩ := y
  go_enter Tryz.func96, Tryz.ntmps96
  go_wp2
  all_goals
    go_ret
    refine ⟨ret_bool ?_, by (repeat (first | with_reducible exact Mod.refl _ _ | with_reducible refine Mod.drewN ?_ _ | with_reducible refine Mod.drew ?_ | with_reducible refine Mod.alloc ?_ _ | ((with_reducible refine Mod.setNew ?_ ?_ _ _ _); (rotate_left; omega)) | with_reducible refine Mod.setAt ?_ _ _ _ ))⟩
    simp_all

theorem info_Asked : (Tryz.prog.info? 145).map (fun i => (i.zero, i.size, i.bytes)) = some (some (.agg #[.int .i64 0, .int .i64 0, .int .i64 0, .int .i64 0, .int .i64 0, .bool false]), 6, 48) := by kernel_rfl

end Go.Proofs.YtpkpkojmaebflaaGreatDoor
namespace Go.Proofs.YtpkpkojmaebflaaGreatDoor
open Go.RowKit

theorem szAskedS_any (n c : Nat) (a : Option Addr) (left : Int) (h0 : 0 ≤ left) (h1 : left ≤ 1048576) (hn : n ≤ 9223372036854775807) (w : World) : Calls Tryz.prog 36 #[.slice a n c, .int .i64 left] w fun e w' => e = .returned (.int .i64 (if left < n then -1 else left - n)) ∧ w = w' := by
  by_cases h : left < n
  · rw [if_pos h]
    have h2 : left - n < 0 := by omega
    have h3 : -9223372036854775807 ≤ left - n := by omega
    go_enter Tryz.func36, Tryz.ntmps36
    go_wp2
    go_ret
    exact ⟨rfl, rfl⟩
  · rw [if_neg h]
    have h2 : 0 ≤ left - n := by omega
    go_enter Tryz.func36, Tryz.ntmps36
    go_wp2
    go_ret
    exact ⟨rfl, rfl⟩

set_option maxRecDepth 100000 in
set_option maxHeartbeats 1000000 in
theorem toAskedS_any (l : List Asked) (a : Option Addr) (c : Nat) (R : Nat → Prop) (w : World) (hl : l.length ≤ 1048576) (h : SliceAt (Flat Asked.cells) 6 R w a l) :
    Calls Tryz.prog 49 #[.slice a l.length c] w (NewRows 145 w l.length (l.map Asked.cells).flatten) := by
  have H := hid h
  clear h
  obtain ⟨i0, hi, hz0, hz1, hz2⟩ := info_parts info_Asked
  have hmk : ∀ W : World, (Instr.makeSlice 39 (.int .i64 (l.length : Int)) (.int .i64 (l.length : Int))).run Tryz.prog W = .ok (.slice (some ⟨W.heap.size, 0, none⟩) l.length l.length) (W.alloc (.cells (madeCells (Value.cells (.agg #[.int .i64 0, .int .i64 0, .int .i64 0, .int .i64 0, .int .i64 0, .bool false])) (l.length * 6)) 145)) := by
    intro W
    have := run_make (P := Tryz.prog) W 39 145 i0 _ Tryz.underlying39 hi hz0 .i64 .i64 l.length l.length (by omega) (by omega) (by rw [hz2]; omega) (by omega)
    simpa [hz1] using this
  clear hz0 hz1 hz2 hi
  go_enter Tryz.func49, Tryz.ntmps49
  go_wp2
  go_loopw [4] (fun i wr => ∃ k : Nat, k ≤ l.length ∧ i = .int .i64 k ∧ Filled w.heap.size 145 (l.length * 6) wr ((l.take k).map Asked.cells).flatten ∧ Mod (fun _ => False) w wr) (fun i _ => l.length - (intOf i).toNat)
  case atStart => exact ⟨0, by omega, rfl, Filled.made w _ _ _ (size_madeCells _ _), (Mod.refl _ w).alloc _⟩
  case round =>
    obtain ⟨k, hk, rfl, hF, hM⟩ := hrel
    clear hmk
    by_cases hlt : k < l.length
    · obtain ⟨b, o, x, r, rfl, hb, hbw, hx, hr, hrl, hc⟩ := (H.out.mod hM (fun _ _ f => f) (fun _ _ h => h)).get hlt
      obtain rfl : r = x.cells := hr
      have c0 : wr.cell? ⟨b, o + k * 6, none⟩ = _ := hc 0 _ rfl
      have c1 : wr.cell? ⟨b, o + k * 6 + 1, none⟩ = _ := hc 1 _ rfl
      have c2 : wr.cell? ⟨b, o + k * 6 + 2, none⟩ = _ := hc 2 _ rfl
      have c3 : wr.cell? ⟨b, o + k * 6 + 3, none⟩ = _ := hc 3 _ rfl
      have c4 : wr.cell? ⟨b, o + k * 6 + 4, none⟩ = _ := hc 4 _ rfl
      have c5 : wr.cell? ⟨b, o + k * 6 + 5, none⟩ = _ := hc 5 _ rfl
      clear hc hrl
      go_wp2_with fail
      refine (toAsked_any x _).mono ?_
      rintro e w1 ⟨rfl, hm1⟩
      have hF1 := hF.mod hm1 (fun f => f)
      obtain ⟨v0, d0⟩ := hF1.cell (off := k * 6) (by omega)
      obtain ⟨v1, d1⟩ := hF1.cell (off := k * 6 + 1) (by omega)
      obtain ⟨v2, d2⟩ := hF1.cell (off := k * 6 + 2) (by omega)
      obtain ⟨v3, d3⟩ := hF1.cell (off := k * 6 + 3) (by omega)
      obtain ⟨v4, d4⟩ := hF1.cell (off := k * 6 + 4) (by omega)
      obtain ⟨v5, d5⟩ := hF1.cell (off := k * 6 + 5) (by omega)
      have z0 := hF1.free (k * 6)
      have z1 := hF1.free (k * 6 + 1)
      have z2 := hF1.free (k * 6 + 2)
      have z3 := hF1.free (k * 6 + 3)
      have z4 := hF1.free (k * 6 + 4)
      have z5 := hF1.free (k * 6 + 5)
      go_wp2
      go_roundw
      case rel =>
        refine ⟨k + 1, by omega, by go_num, ?_, ?_⟩
        · have hl0 := flat_length (cells := Asked.cells) (sz := 6) (fun _ => rfl) (l.take k)
          rw [take_length_of_lt hk] at hl0
          rw [flat_succ hx]
          have e : ∀ s : List Value, s ++ x.cells = s ++ [.int .i64 x.node] ++ [.int .i64 x.wide.mode] ++ [.int .i64 x.wide.n] ++ [.int .i64 x.high.mode] ++ [.int .i64 x.high.n] ++ [.bool x.rtl] := by intro s; simp [Asked.cells]
          rw [e]
          generalize ((l.take k).map Asked.cells).flatten = s at hF1 hl0
          exact ((((((hF1.push (off := k * 6) (by simp [hl0]) (by omega) _).push (off := k * 6 + 1) (by simp [hl0]) (by omega) _).push (off := k * 6 + 2) (by simp [hl0]) (by omega) _).push (off := k * 6 + 3) (by simp [hl0]) (by omega) _).push (off := k * 6 + 4) (by simp [hl0]) (by omega) _).push (off := k * 6 + 5) (by simp [hl0]) (by omega) _)
        · have hM1 := hM.thenNone hm1
          (repeat (first | with_reducible exact Mod.refl _ _ | with_reducible refine Mod.drewN ?_ _ | with_reducible refine Mod.drew ?_ | with_reducible refine Mod.alloc ?_ _ | ((with_reducible refine Mod.setNew ?_ ?_ _ _ _); (rotate_left; omega)) | with_reducible refine Mod.setAt ?_ _ _ _ | with_reducible exact hM1 | with_reducible refine Mod.thenNone ?_ hM1 ))
      case measure => simp [intOf]; omega
    · have hk' : k = l.length := by omega
      subst hk'
      go_wp2
      go_ret
      refine ⟨w.heap.size, rfl, Nat.le_refl _, ?_, hM⟩
      rw [List.take_length] at hF
      exact hF.full (flat_length (cells := Asked.cells) (sz := 6) (fun _ => rfl) l)

set_option maxRecDepth 100000 in
set_option maxHeartbeats 1000000 in
theorem eqAskedS_any (l m : List Asked) (a a' : Option Addr) (c c' : Nat) (R S : Nat → Prop) (w : World) (hl : l.length ≤ 9223372036854775807) (_hm : m.length ≤ 9223372036854775807) (h : SliceAt (Flat Asked.cells) 6 R w a l) (h' : SliceAt (Flat Asked.cells) 6 S w a' m) :
    Calls Tryz.prog 64 #[.slice a l.length c, .slice a' m.length c'] w fun e w' => e = .returned (.bool (decide (l = m))) ∧ Mod (fun _ => False) w w' := by
  have H := hid h
  have H' := hid h'
  clear h h'
  by_cases hlen : l.length = m.length
  · have hn0 : ((l.length : Int) != (m.length : Int)) = false := by simp [hlen]
    have hn1 : l.length ≤ m.length := by omega
    have hn2 : m.length ≤ l.length := by omega
    clear hlen
    go_enter Tryz.func64, Tryz.ntmps64
    go_wp2
    go_loopw [5] (fun i wr => ∃ k : Nat, k ≤ l.length ∧ i = .int .i64 k ∧ SameTo l m k ∧ Mod (fun _ => False) w wr) (fun i _ => l.length - (intOf i).toNat)
    case atStart => exact ⟨0, by omega, rfl, rfl, Mod.refl _ _⟩
    case round =>
      obtain ⟨k, hk, rfl, hsame, hmod⟩ := hrel
      by_cases hlt : k < l.length
      · obtain ⟨b, o, x, r, rfl, hb, hbw, hx, hr, hrl, hc⟩ := (H.out.mod hmod (fun _ _ f => f) (fun _ _ h => h)).get hlt
        obtain rfl : r = x.cells := hr
        obtain ⟨b', o', y, r', rfl, hb', hbw', hy, hr', hrl', hd⟩ := (H'.out.mod hmod (fun _ _ f => f) (fun _ _ h => h)).get (show k < m.length by omega)
        obtain rfl : r' = y.cells := hr'
        have hlt2 : k < m.length := by omega
        have c0 : wr.cell? ⟨b, o + k * 6, none⟩ = _ := hc 0 _ rfl
        have d0 : wr.cell? ⟨b', o' + k * 6, none⟩ = _ := hd 0 _ rfl
        have c1 : wr.cell? ⟨b, o + k * 6 + 1, none⟩ = _ := hc 1 _ rfl
        have d1 : wr.cell? ⟨b', o' + k * 6 + 1, none⟩ = _ := hd 1 _ rfl
        have c2 : wr.cell? ⟨b, o + k * 6 + 2, none⟩ = _ := hc 2 _ rfl
        have d2 : wr.cell? ⟨b', o' + k * 6 + 2, none⟩ = _ := hd 2 _ rfl
        have c3 : wr.cell? ⟨b, o + k * 6 + 3, none⟩ = _ := hc 3 _ rfl
        have d3 : wr.cell? ⟨b', o' + k * 6 + 3, none⟩ = _ := hd 3 _ rfl
        have c4 : wr.cell? ⟨b, o + k * 6 + 4, none⟩ = _ := hc 4 _ rfl
        have d4 : wr.cell? ⟨b', o' + k * 6 + 4, none⟩ = _ := hd 4 _ rfl
        have c5 : wr.cell? ⟨b, o + k * 6 + 5, none⟩ = _ := hc 5 _ rfl
        have d5 : wr.cell? ⟨b', o' + k * 6 + 5, none⟩ = _ := hd 5 _ rfl
        clear hc hd hrl hrl'
        by_cases hxy : x = y
        · have hd : decide (x = y) = true := decide_eq_true hxy
          have Hxy := hid hxy
          clear hxy
          go_wp2
          go_still_tail 8, (by kernel_rfl)
          go_wp2_with fail
          refine (eqAsked_any x y _).mono ?_
          rintro e w1 ⟨rfl, hm1⟩
          go_wp2
          go_roundw
          case rel => exact ⟨k + 1, by omega, by go_num, hsame.succ hx (Hxy.out ▸ hy), hmod.drew.thenNone hm1⟩
          case measure => simp [intOf]; omega
        · have hd : decide (x = y) = false := decide_eq_false hxy
          go_wp2
          go_still_tail 8, (by kernel_rfl)
          go_wp2_with fail
          refine (eqAsked_any x y _).mono ?_
          rintro e w1 ⟨rfl, hm1⟩
          go_wp2
          go_ret
          exact ⟨ret_bool (decide_eq_false (ne_at hx hy hxy)).symm, hmod.drew.thenNone hm1⟩
      · go_wp2
        go_ret
        exact ⟨ret_bool (decide_eq_true (hsame.all (by omega) (by omega))).symm, hmod⟩
  · have hn0 : ((l.length : Int) != (m.length : Int)) = true := by simp; omega
    have hne : l ≠ m := fun h => hlen (by rw [h])
    clear hlen
    go_enter Tryz.func64, Tryz.ntmps64
    go_wp2
    go_ret
    exact ⟨ret_bool (decide_eq_false hne).symm, Mod.refl _ _⟩

/-- A marked element's cells, its first mark q. -/
def Asked.marked (q : Int) : List Value := [.int .i64 (q), .int .i64 (q + 1), .int .i64 (q + 1 + 1), .int .i64 (q + 1 + 1 + 1), .int .i64 (q + 1 + 1 + 1 + 1), .bool ((q + 1 + 1 + 1 + 1 + 1) % 3 == 0)]
def Asked.marks (q : Int) : Nat → List Value
  | 0 => []
  | k + 1 => Asked.marks q k ++ Asked.marked (q + k * 6)
theorem Asked.marks_length (q : Int) (k : Nat) : (Asked.marks q k).length = k * 6 := by
  induction k with
  | zero => simp [Asked.marks]
  | succ k ih => simp [Asked.marks, Asked.marked, ih]; omega

set_option maxRecDepth 100000 in
set_option maxHeartbeats 1000000 in
theorem markAskedS_any (n c : Nat) (a : Option Addr) (g N : Nat) (w : World) (q0 : Int) (hq0 : 0 ≤ q0) (hq1 : q0 ≤ 1000000000000000) (hn : n ≤ 1048576) (h : n = 0 ∨ a = some ⟨g, 0, none⟩ ∧ n * 6 ≤ N ∧ Filled g 145 N w []) :
    Calls Tryz.prog 68 #[.slice a n c, .int .i64 q0] w fun e w' => e = .returned (.int .i64 (q0 + n * 6)) ∧ Mod (fun k => k = g) w w' ∧ (n = 0 ∨ Filled g 145 N w' (Asked.marks q0 n)) := by
  have H := hid h
  clear h
  go_enter Tryz.func68, Tryz.ntmps68
  go_wp2
  go_loopw [1, 5] (fun z i wr => ∃ (k : Nat) (q : Int), k ≤ n ∧ z = .int .i64 q ∧ Hid (q = q0 + k * 6) ∧ 0 ≤ q ∧ q ≤ 10000000000000000 ∧ i = .int .i64 k ∧ Mod (fun k => k = g) w wr ∧ (n = 0 ∨ Filled g 145 N wr (Asked.marks q0 k))) (fun _ i _ => n - (intOf i).toNat)
  case atStart =>
    refine ⟨0, q0, by omega, rfl, by show q0 = q0 + _; omega, by omega, by omega, rfl, Mod.refl _ _, ?_⟩
    rcases H.out with h | ⟨_, _, h⟩
    · exact .inl h
    · exact .inr h
  case round =>
    obtain ⟨k, q, hk, rfl, hq, q1, q2, rfl, hM, hF0⟩ := hrel
    by_cases hlt : k < n
    · rcases H.out with h | ⟨rfl, hN, _⟩
      · omega
      have hF := hF0.resolve_left (by omega)
      have hl0 := Asked.marks_length q0 k
      clear hF0
      obtain ⟨v0, d0⟩ := hF.cell (off := k * 6) (by omega)
      have z0 := hF.free (k * 6)
      obtain ⟨v1, d1⟩ := hF.cell (off := k * 6 + 1) (by omega)
      have z1 := hF.free (k * 6 + 1)
      obtain ⟨v2, d2⟩ := hF.cell (off := k * 6 + 2) (by omega)
      have z2 := hF.free (k * 6 + 2)
      obtain ⟨v3, d3⟩ := hF.cell (off := k * 6 + 3) (by omega)
      have z3 := hF.free (k * 6 + 3)
      obtain ⟨v4, d4⟩ := hF.cell (off := k * 6 + 4) (by omega)
      have z4 := hF.free (k * 6 + 4)
      obtain ⟨v5, d5⟩ := hF.cell (off := k * 6 + 5) (by omega)
      have z5 := hF.free (k * 6 + 5)
      have HF := hid hF
      have Hl0 := hid hl0
      clear hF hl0
      go_wp2
      go_roundw
      case rel =>
        have hF := HF.out
        have hl0 := Hl0.out
        have hq' := hq.out
        refine ⟨k + 1, q + 1 + 1 + 1 + 1 + 1 + 1, by omega, rfl, by show q + 1 + 1 + 1 + 1 + 1 + 1 = _; omega, by omega, by omega, by go_num, by (repeat (first | with_reducible exact Mod.refl _ _ | with_reducible refine Mod.drewN ?_ _ | with_reducible refine Mod.drew ?_ | with_reducible refine Mod.alloc ?_ _ | ((with_reducible refine Mod.setNew ?_ ?_ _ _ _); (rotate_left; omega)) | with_reducible refine Mod.setAt ?_ _ _ _ | with_reducible exact hM | with_reducible refine Mod.thenNone ?_ hM )), .inr ?_⟩
        have e : Asked.marks q0 (k + 1) = Asked.marks q0 k ++ [.int .i64 (q)] ++ [.int .i64 (q + 1)] ++ [.int .i64 (q + 1 + 1)] ++ [.int .i64 (q + 1 + 1 + 1)] ++ [.int .i64 (q + 1 + 1 + 1 + 1)] ++ [.bool ((q + 1 + 1 + 1 + 1 + 1) % 3 == 0)] := by
          simp [Asked.marks, Asked.marked, ← hq']
        rw [e]
        exact ((((((hF.push (off := k * 6) (by simp [hl0]) (by omega) _).push (off := k * 6 + 1) (by simp [hl0]) (by omega) _).push (off := k * 6 + 2) (by simp [hl0]) (by omega) _).push (off := k * 6 + 3) (by simp [hl0]) (by omega) _).push (off := k * 6 + 4) (by simp [hl0]) (by omega) _).push (off := k * 6 + 5) (by simp [hl0]) (by omega) _)
      case measure => simp [intOf]; omega
    · have hk' : k = n := by omega
      subst hk'
      go_wp2
      go_ret
      exact ⟨ret_int hq.out, hM, hF0⟩

theorem Asked.marks_at (q0 : Int) (n k j : Nat) (v : Value) (hk : k < n) (hj : (Asked.marked (q0 + k * 6))[j]? = some v) : (Asked.marks q0 n)[k * 6 + j]? = some v := by
  have hjl : j < 6 := by
    have := (List.getElem?_eq_some_iff.1 hj).1
    simpa [Asked.marked] using this
  induction n with
  | zero => omega
  | succ n ih =>
    have hl := Asked.marks_length q0 n
    unfold Asked.marks
    by_cases e : k = n
    · subst e
      rw [List.getElem?_append_right (by omega), hl, Nat.add_sub_cancel_left]
      exact hj
    · rw [List.getElem?_append_left (by rw [hl]; omega)]
      exact ih (by omega)
end Go.Proofs.YtpkpkojmaebflaaGreatDoor
namespace Go.Proofs.YtpkpkojmaebflaaGreatDoor
open Go.RowKit

abbrev AskedSlice (R : Nat → Prop) (w : World) (a : Option Addr) (l : List Asked) : Prop := SliceAt (Flat Asked.cells) 6 R w a l
theorem MemoSlice.wide {o : Bool} {R S : Nat → Prop} {w : World} {a : Option Addr} {l : List Memo} (h : MemoSlice o R w a l) (hs : ∀ k, k < w.heap.size → R k → S k) : MemoSlice o S w a l := SliceAt.wideBy h hs fun _ _ hx => hx.wide hs
theorem MemoIn.old {o : Bool} {R : Nat → Prop} {w : World} {cs : List Value} {x : Memo} (h : MemoIn o R w cs x) : MemoIn false R w cs x := by
  obtain ⟨a, c, h1, h2, _⟩ := h
  exact ⟨a, c, h1, h2, fun h => by cases h⟩

structure KeptT where
  memos : List Memo
  asked : List Asked
  deriving DecidableEq, Inhabited
/-- What is kept, read from its cells; o: it may be written. -/
def KeptIn (o : Bool) (R : Nat → Prop) (w : World) (cs : List Value) (x : KeptT) : Prop :=
  ∃ m c a c', cs = [.slice m x.memos.length c, .slice a x.asked.length c'] ∧ MemoSlice o R w m x.memos ∧ AskedSlice R w a x.asked ∧ (o = true → Wr 101 10 R w m x.memos.length ∧ Wr 145 6 R w a x.asked.length ∧ x.asked.length ≤ c')
theorem KeptIn.mod {o : Bool} {R S : Nat → Prop} {w w' : World} {cs : List Value} {x : KeptT} (h : KeptIn o R w cs x) (hm : Mod S w w') (hs : ∀ k, R k → ¬ S k) : KeptIn o R w' cs x := by
  obtain ⟨m, c, a, c', h1, h2, h3, h4⟩ := h
  exact ⟨m, c, a, c', h1, h2.mod hm hs, h3.flatMod hm hs, fun ho => ⟨(h4 ho).1.mod hm hs, (h4 ho).2.1.mod hm hs, (h4 ho).2.2⟩⟩
theorem KeptIn.keep {o : Bool} {R : Nat → Prop} {w w' : World} {cs : List Value} {x : KeptT} (h : KeptIn o R w cs x) (hm : Mod (fun _ => False) w w') : KeptIn o R w' cs x := h.mod hm fun _ _ f => f
theorem KeptIn.wide {o : Bool} {R S : Nat → Prop} {w : World} {cs : List Value} {x : KeptT} (h : KeptIn o R w cs x) (hs : ∀ k, k < w.heap.size → R k → S k) : KeptIn o S w cs x := by
  obtain ⟨m, c, a, c', h1, h2, h3, h4⟩ := h
  exact ⟨m, c, a, c', h1, h2.wide hs, SliceAt.wide h3 hs, fun ho => ⟨(h4 ho).1.weaken hs, (h4 ho).2.1.weaken hs, (h4 ho).2.2⟩⟩
/-- Lengths that a walk can bear. -/
def KeptT.fits (n : Nat) (x : KeptT) : Prop := x.memos.length ≤ n ∧ x.asked.length ≤ n ∧ ∀ m ∈ x.memos, m.frames.length ≤ n
def KeptT.cost (x : KeptT) : Nat := x.memos.length + costs Memo.cost x.memos + x.asked.length
theorem KeptT.fits_of {x : KeptT} {n : Nat} (h : x.cost ≤ n) : x.fits n := by
  unfold KeptT.cost at h
  refine ⟨by omega, by omega, fun m hm => ?_⟩
  have := costs_mem Memo.cost hm
  unfold Memo.cost at *
  omega

set_option maxHeartbeats 2000000 in
theorem toKept_any (x : KeptT) (o : Bool) (cs : List Value) (R : Nat → Prop) (w : World) (hf : x.fits 1048576) (h : KeptIn o R w cs x) :
    Calls Tryz.prog 21 #[.agg cs.toArray] w fun e w' => ∃ cs', e = .returned (.agg cs'.toArray) ∧ KeptIn true (fun b => w.heap.size ≤ b) w' cs' x ∧ Mod (fun _ => False) w w' := by
  obtain ⟨m, c, a, c', rfl, h1, h2, _⟩ := h
  obtain ⟨f1, f2, f3⟩ := hf
  have H1 := hid h1
  have H2 := hid h2
  have F3 := hid f3
  clear h1 h2 f3
  go_enter Tryz.func21, Tryz.ntmps21
  go_wp2_with fail
  refine (toMemoS_any x.memos o _ _ R _ f1 F3.out (H1.out.keep (by (repeat (first | with_reducible exact Mod.refl _ _ | with_reducible refine Mod.drewN ?_ _ | with_reducible refine Mod.drew ?_ | with_reducible refine Mod.alloc ?_ _ | ((with_reducible refine Mod.setNew ?_ ?_ _ _ _); (rotate_left; omega)) | with_reducible refine Mod.setAt ?_ _ _ _ ))))).mono ?_
  intro e w1 hh
  obtain ⟨g1, rfl, hg1, s1, u1, hm1⟩ := hh.use
  obtain ⟨hq1, hz1⟩ := mcell hm1
  have hs1 := hm1.size
  repeat (rw [World.size_alloc] at hs1)
  have hr1_0 : w.heap.size < w1.heap.size := by omega
  have hr1_1 : w.heap.size + 1 < w1.heap.size := by omega
  have hr1_2 : w.heap.size + 1 + 1 < w1.heap.size := by omega
  have hM1 : Mod (fun _ => False) w w1 := by (repeat (first | with_reducible exact Mod.refl _ _ | with_reducible refine Mod.drewN ?_ _ | with_reducible refine Mod.drew ?_ | with_reducible refine Mod.alloc ?_ _ | ((with_reducible refine Mod.setNew ?_ ?_ _ _ _); (rotate_left; omega)) | with_reducible refine Mod.setAt ?_ _ _ _ | with_reducible exact hm1 | with_reducible refine Mod.thenNone ?_ hm1 ))
  simp only [World.size_alloc] at hg1
  have S1 := hid (MemoSlice.wide s1 (S := fun b => w.heap.size + 1 + 1 + 1 ≤ b) (fun k _ hk => by simpa using hk))
  have U1 := hid (u1.weaken (S := fun b => w.heap.size + 1 + 1 + 1 ≤ b) (fun k _ hk => by simpa using hk))
  have hsz : w.heap.size + 1 + 1 + 1 ≤ w1.heap.size := by have := hm1.size; simpa using this
  clear hh s1 u1
  go_wp2_with fail
  refine (toAskedS_any x.asked _ _ R _ f2 (H2.out.flatKeep (by (repeat (first | with_reducible exact Mod.refl _ _ | with_reducible refine Mod.drewN ?_ _ | with_reducible refine Mod.drew ?_ | with_reducible refine Mod.alloc ?_ _ | ((with_reducible refine Mod.setNew ?_ ?_ _ _ _); (rotate_left; omega)) | with_reducible refine Mod.setAt ?_ _ _ _ | with_reducible exact hM1 | with_reducible refine Mod.thenNone ?_ hM1 ))))).mono ?_
  intro e w2 hh
  obtain ⟨g2, rfl, hg2, s2, u2, hm2⟩ := hh.wr (sz := 6) (fun _ => rfl)
  obtain ⟨hq2, hz2⟩ := mcell hm2
  have hs2 := hm2.size
  repeat (rw [World.size_setCell] at hs2)
  have hr2_0 : w.heap.size < w2.heap.size := by omega
  have hr2_1 : w.heap.size + 1 < w2.heap.size := by omega
  have hr2_2 : w.heap.size + 1 + 1 < w2.heap.size := by omega
  have hM2 : Mod (fun _ => False) w w2 := by (repeat (first | with_reducible exact Mod.refl _ _ | with_reducible refine Mod.drewN ?_ _ | with_reducible refine Mod.drew ?_ | with_reducible refine Mod.alloc ?_ _ | ((with_reducible refine Mod.setNew ?_ ?_ _ _ _); (rotate_left; omega)) | with_reducible refine Mod.setAt ?_ _ _ _ | with_reducible exact hm2 | with_reducible refine Mod.thenNone ?_ hm2 | with_reducible exact hM1 | with_reducible refine Mod.thenNone ?_ hM1 ))
  have hms1 : Mod (fun k => k = w.heap.size + 1 + 1) w1 (w1.setCell ⟨w.heap.size + 1 + 1, 0, none⟩ (.slice (some ⟨g1, 0, none⟩) x.memos.length x.memos.length)) := (Mod.refl _ _).setAt _ _ _
  have hlow : ∀ k, w.heap.size + 1 + 1 + 1 ≤ k → ¬ k = w.heap.size + 1 + 1 := by omega
  have S1' := hid (MemoSlice.keep (MemoSlice.mod S1.out hms1 hlow) hm2)
  have U1' := hid ((U1.out.mod hms1 hlow).mod hm2 (fun _ _ f => f))
  have S2 := hid (SliceAt.wide s2 (S := fun b => w.heap.size + 1 + 1 + 1 ≤ b) (fun k _ hk => Nat.le_trans hsz (by simpa using hk)))
  have U2 := hid (u2.weaken (S := fun b => w.heap.size + 1 + 1 + 1 ≤ b) (fun k _ hk => Nat.le_trans hsz (by simpa using hk)))
  simp only [World.size_alloc, World.size_setCell] at hg2
  clear hh s2 u2 S1 U1 hms1 hm1 hm2
  go_wp2
  have hfin : ∀ W : World, Mod (fun k => k = w.heap.size + 1 + 1 ∨ k = w.heap.size + 1) w2 W → KeptIn true (fun b => w.heap.size ≤ b) W [.slice (some ⟨g1, 0, none⟩) x.memos.length x.memos.length, .slice (some ⟨g2, 0, none⟩) x.asked.length x.asked.length] x := by
    intro W hW
    have k1 : ∀ k, w.heap.size + 1 + 1 + 1 ≤ k → ¬ (k = w.heap.size + 1 + 1 ∨ k = w.heap.size + 1) := by omega
    exact KeptIn.wide ⟨_, _, _, _, rfl, MemoSlice.mod S1'.out hW k1, S2.out.flatMod hW k1, fun _ => ⟨U1'.out.mod hW k1, U2.out.mod hW k1, Nat.le_refl _⟩⟩ (fun k _ hk => by show w.heap.size ≤ k; omega)
  refine bodyPost_ret (v := .agg [.slice (some ⟨g1, 0, none⟩) x.memos.length x.memos.length, .slice (some ⟨g2, 0, none⟩) x.asked.length x.asked.length].toArray) ?_ rfl ⟨_, rfl, hfin _ ?_, ?_⟩
  · simp [results, Tryz.results21, go_sem, *]
  · refine Mod.setCell (Mod.setCell (Mod.setCell (Mod.refl _ _) (fun _ => .inl (.inl rfl)) _) (fun _ => .inl (.inr rfl)) _) (fun _ => .inl (.inr rfl)) _
  · (repeat (first | with_reducible exact Mod.refl _ _ | with_reducible refine Mod.drewN ?_ _ | with_reducible refine Mod.drew ?_ | with_reducible refine Mod.alloc ?_ _ | ((with_reducible refine Mod.setNew ?_ ?_ _ _ _); (rotate_left; omega)) | with_reducible refine Mod.setAt ?_ _ _ _ | with_reducible exact hM2 | with_reducible refine Mod.thenNone ?_ hM2 ))

set_option maxHeartbeats 2000000 in
theorem eqKept_same (x : KeptT) (o o' : Bool) (cs cs' : List Value) (R S : Nat → Prop) (w : World) (hf : x.fits 1048576) (h : KeptIn o R w cs x) (h' : KeptIn o' S w cs' x) :
    Calls Tryz.prog 28 #[.agg cs.toArray, .agg cs'.toArray] w fun e w' => e = .returned (.bool true) ∧ Mod (fun _ => False) w w' := by
  obtain ⟨m, c, a, c', rfl, h1, h2, _⟩ := h
  obtain ⟨m', d, a', d', rfl, h1', h2', _⟩ := h'
  obtain ⟨f1, f2, f3⟩ := hf
  have H1 := hid h1
  have H2 := hid h2
  have H1' := hid h1'
  have H2' := hid h2'
  have F3 := hid f3
  clear h1 h2 h1' h2' f3
  go_enter Tryz.func28, Tryz.ntmps28
  go_wp2_with fail
  refine (eqMemoS_same x.memos o o' _ _ _ _ R S _ f1 F3.out (H1.out.keep (by (repeat (first | with_reducible exact Mod.refl _ _ | with_reducible refine Mod.drewN ?_ _ | with_reducible refine Mod.drew ?_ | with_reducible refine Mod.alloc ?_ _ | ((with_reducible refine Mod.setNew ?_ ?_ _ _ _); (rotate_left; omega)) | with_reducible refine Mod.setAt ?_ _ _ _ )))) (H1'.out.keep (by (repeat (first | with_reducible exact Mod.refl _ _ | with_reducible refine Mod.drewN ?_ _ | with_reducible refine Mod.drew ?_ | with_reducible refine Mod.alloc ?_ _ | ((with_reducible refine Mod.setNew ?_ ?_ _ _ _); (rotate_left; omega)) | with_reducible refine Mod.setAt ?_ _ _ _ ))))).mono ?_
  rintro e w1 ⟨rfl, hm1⟩
  obtain ⟨hq1, hz1⟩ := mcell hm1
  have hs1 := hm1.size
  repeat (rw [World.size_alloc] at hs1)
  have hr1_0 : w.heap.size < w1.heap.size := by omega
  have hr1_1 : w.heap.size + 1 < w1.heap.size := by omega
  have hM1 : Mod (fun _ => False) w w1 := by (repeat (first | with_reducible exact Mod.refl _ _ | with_reducible refine Mod.drewN ?_ _ | with_reducible refine Mod.drew ?_ | with_reducible refine Mod.alloc ?_ _ | ((with_reducible refine Mod.setNew ?_ ?_ _ _ _); (rotate_left; omega)) | with_reducible refine Mod.setAt ?_ _ _ _ | with_reducible exact hm1 | with_reducible refine Mod.thenNone ?_ hm1 ))
  go_wp2_with fail
  refine (eqAskedS_any x.asked x.asked _ _ _ _ R S _ (by omega) (by omega) (H2.out.flatKeep hM1) (H2'.out.flatKeep hM1)).mono ?_
  rintro e w2 ⟨rfl, hm2⟩
  rw [decide_eq_true rfl]
  go_wp2
  go_ret
  exact ⟨rfl, by (repeat (first | with_reducible exact Mod.refl _ _ | with_reducible refine Mod.drewN ?_ _ | with_reducible refine Mod.drew ?_ | with_reducible refine Mod.alloc ?_ _ | ((with_reducible refine Mod.setNew ?_ ?_ _ _ _); (rotate_left; omega)) | with_reducible refine Mod.setAt ?_ _ _ _ | with_reducible exact hm2 | with_reducible refine Mod.thenNone ?_ hm2 | with_reducible exact hM1 | with_reducible refine Mod.thenNone ?_ hM1 ))⟩

set_option maxHeartbeats 2000000 in
theorem szKept_any (x : KeptT) (o : Bool) (cs : List Value) (R : Nat → Prop) (left : Int) (w : World) (h0 : 0 ≤ left) (h1 : left ≤ 1048576) (hf : x.fits 9223372036854775807) (h : KeptIn o R w cs x) :
    Calls Tryz.prog 14 #[.agg cs.toArray, .int .i64 left] w fun e w' => e = .returned (.int .i64 (szRes left x.cost)) ∧ Mod (fun _ => False) w w' := by
  obtain ⟨m, c, a, c', rfl, hs, _, _⟩ := h
  obtain ⟨f1, f2, f3⟩ := hf
  have H := hid hs
  have F3 := hid f3
  clear hs f3
  go_enter Tryz.func14, Tryz.ntmps14
  go_wp2_with fail
  refine (szMemoS_any x.memos o _ _ R left _ h0 h1 f1 F3.out (H.out.keep (by (repeat (first | with_reducible exact Mod.refl _ _ | with_reducible refine Mod.drewN ?_ _ | with_reducible refine Mod.drew ?_ | with_reducible refine Mod.alloc ?_ _ | ((with_reducible refine Mod.setNew ?_ ?_ _ _ _); (rotate_left; omega)) | with_reducible refine Mod.setAt ?_ _ _ _ ))))).mono ?_
  rintro e w1 ⟨rfl, hm1⟩
  obtain ⟨hq1, hz1⟩ := mcell hm1
  have hs1 := hm1.size
  repeat (rw [World.size_alloc] at hs1)
  have hr1_0 : w.heap.size < w1.heap.size := by omega
  have hM1 : Mod (fun _ => False) w w1 := by (repeat (first | with_reducible exact Mod.refl _ _ | with_reducible refine Mod.drewN ?_ _ | with_reducible refine Mod.drew ?_ | with_reducible refine Mod.alloc ?_ _ | ((with_reducible refine Mod.setNew ?_ ?_ _ _ _); (rotate_left; omega)) | with_reducible refine Mod.setAt ?_ _ _ _ | with_reducible exact hm1 | with_reducible refine Mod.thenNone ?_ hm1 ))
  by_cases hs : left < (x.memos.length + costs Memo.cost x.memos : Nat)
  · rw [szRes_less hs]
    have hc := hid (szRes_less (left := left) (n := x.cost) (by unfold KeptT.cost; omega))
    go_wp2
    go_ret
    exact ⟨ret_int hc.out.symm, hM1⟩
  · rw [szRes_more (by omega)]
    have h2 : 0 ≤ left - (x.memos.length + costs Memo.cost x.memos : Nat) := by omega
    have h3 : left - (x.memos.length + costs Memo.cost x.memos : Nat) ≤ 1048576 := by omega
    have hc := hid (show ∀ q : Int, q = left - (x.memos.length + costs Memo.cost x.memos : Nat) → szRes left x.cost = szRes q x.asked.length from by
      intro q hq
      unfold szRes KeptT.cost
      split <;> split <;> omega)
    generalize hq : left - (x.memos.length + costs Memo.cost x.memos : Nat) = q at h2 h3
    have hc2 := hid (hc.out q hq.symm)
    clear hc hq hs
    go_wp2_with fail
    refine (szAskedS_any _ _ _ _ h2 h3 f2 _).mono ?_
    rintro e w2 ⟨rfl, rfl⟩
    by_cases hs2 : q < x.asked.length
    · rw [if_pos hs2]
      have hc3 := hid (hc2.out.trans (szRes_less hs2))
      go_wp2
      go_ret
      exact ⟨ret_int hc3.out.symm, hM1⟩
    · rw [if_neg hs2]
      have hc3 := hid (hc2.out.trans (szRes_more (by omega)))
      have h4 : 0 ≤ q - x.asked.length := by omega
      go_wp2
      go_ret
      exact ⟨ret_int hc3.out.symm, hM1⟩

set_option maxRecDepth 100000 in
theorem rd_Asked {w : World} {cs : List Value} (h : Rd Tryz.prog w 148 cs) : ∃ x : Asked, cs = x.cells := by
  obtain ⟨hl, hf⟩ := h.struct Tryz.underlying148
  have hl2 : cs.length = 6 := hl.trans (by kernel_rfl)
  have c1 : Tryz.prog.cellsOf 3 = 1 := by kernel_rfl
  have c2 : Tryz.prog.cellsOf 4 = 1 := by kernel_rfl
  have c3 : Tryz.prog.cellsOf 131 = 2 := by kernel_rfl
  match cs, hl2 with
  | [q0, q1, q2, q3, q4, q5], _ =>
    obtain ⟨n0, e0, _⟩ := (hf 0 _ rfl).int Tryz.underlying3
    obtain ⟨x1, e1⟩ := rd_Space (hf 1 _ rfl)
    obtain ⟨x2, e2⟩ := rd_Space (hf 2 _ rfl)
    obtain ⟨b3, e3⟩ := (hf 3 _ rfl).bool Tryz.underlying4
    simp [c1, c2, c3, Space.cells] at e0 e1 e2 e3
    exact ⟨⟨n0, x1, x2, b3⟩, by simp [Asked.cells, e0, e1, e2, e3]⟩
set_option maxRecDepth 100000 in
theorem rd_Kept {w : World} {cs : List Value} (h : Rd Tryz.prog w 28 cs) : ∃ x : KeptT, KeptIn false (fun k => k < w.heap.size) w cs x ∧ x.fits 9223372036854775807 ∧ ∀ m ∈ x.memos, m.ok := by
  obtain ⟨hl, hf⟩ := h.struct Tryz.underlying28
  have hl2 : cs.length = 2 := hl.trans (by kernel_rfl)
  have c1 : Tryz.prog.cellsOf 25 = 1 := by kernel_rfl
  have c2 : Tryz.prog.cellsOf 26 = 1 := by kernel_rfl
  match cs, hl2 with
  | [q0, q1], _ =>
    obtain ⟨a, l, c, e0, h1, h2, h3⟩ := (hf 0 _ rfl).list (rep := fun w' r x => MemoIn false (fun k => k < w.heap.size) w' r x ∧ (x.frames.length ≤ 9223372036854775807 ∧ x.ok)) (sz := 10) Tryz.underlying25 (by kernel_rfl) (by decide) (fun cs h => by
      obtain ⟨x, a, c, e, ho, hn, hs⟩ := rd_Memo h
      exact ⟨x, ⟨a, c, e, hs, fun h => by cases h⟩, hn, ho⟩)
    obtain ⟨h4, h5⟩ := h3.split2
    obtain ⟨a', l', c', e1, h1', h2', h3'⟩ := (hf 1 _ rfl).list (rep := Flat Asked.cells) (sz := 6) Tryz.underlying26 (by kernel_rfl) (by decide) (fun cs h => rd_Asked h)
    simp [c1, c2] at e0 e1
    unfold maxLen at h2 h2'
    exact ⟨⟨l, l'⟩, ⟨a, c, a', c', by simp [e0, e1], h4, h3', fun h => by cases h⟩, ⟨by show l.length ≤ _; omega, by show l'.length ≤ _; omega, fun m hm => (h5 m hm).1⟩, fun m hm => (h5 m hm).2⟩

end Go.Proofs.YtpkpkojmaebflaaGreatDoor
namespace Go.Proofs.YtpkpkojmaebflaaGreatDoor
open Go.RowKit
set_option linter.unusedVariables false
set_option linter.unusedSimpArgs false

def askedW (n : Nat) : List UInt8 := [97, 115, 107, 101, 100, 32] ++ Lib.itoa (n : Int)
def keptTo (x : KeptT) (k : Nat) : List (List UInt8) := (x.memos.take k).map memoW
def keptL (x : KeptT) : List (List UInt8) := x.memos.map memoW ++ [askedW x.asked.length]
theorem keptTo_len (x : KeptT) (k : Nat) : (keptTo x k).length ≤ k := by
  unfold keptTo
  rw [List.length_map, List.length_take]; omega
theorem keptTo_succ {x : KeptT} {k : Nat} {m : Memo} (h : x.memos[k]? = some m) : keptTo x (k + 1) = keptTo x k ++ [memoW m] := by
  unfold keptTo
  rw [List.take_add_one, h, List.map_append]; rfl
theorem keptTo_all {x : KeptT} {k : Nat} (h : x.memos.length ≤ k) : keptTo x k = x.memos.map memoW := by
  unfold keptTo
  rw [List.take_of_length_le h]
set_option maxRecDepth 100000 in
set_option maxHeartbeats 8000000 in
theorem keptLines_any (x : KeptT) (o : Bool) (ma aa : Option Addr) (mc ac : Nat) (R S : Nat → Prop) (w : World) (hx : x.fits 1048576) (hok : ∀ m ∈ x.memos, m.ok) (h : MemoSlice o R w ma x.memos) (ht : Tab w) :
    Calls Tryz.prog 26 #[.agg #[.slice ma x.memos.length mc, .slice aa x.asked.length ac]] w (NewSlice 9 1 w (keptL x).length ((keptL x).map tcell).flatten) := by
  refine calls_sx Tryz.func26 rfl rfl (fun a h1 h2 h3 => ((Fr.nil h1 h2).arg (h3 0 _ rfl))) ?_
  have hml := hx.1
  have hal := hx.2.1
  repeat (first | refine SX.seq ?_ | refine SXl.nil ?_ | refine SX.region ?_ | refine SQ.thenNormal ?_ | refine SX.block ?_ | (refine l_load ?_; (refine SXl.v (OpW.load 0 rfl rfl rfl) rfl ?_ ?_ ?_); rfl; rfl) | (refine l_fieldAddr ?_; (refine SXl.v (OpW.fieldAddr rfl) rfl ?_ ?_ ?_); rfl; rfl) | (refine l_move ?_; (refine SXl.v (OpW.move rfl) rfl ?_ ?_ ?_); rfl; rfl) | (refine l_assign ?_; (refine SXl.v (OpW.assign rfl) rfl ?_ ?_ ?_); rfl; rfl) | (refine l_len ?_; (refine SXl.v (OpW.len rfl) rfl ?_ ?_ ?_); rfl; rfl) | (refine l_box ?_; refine SXl.box ?_ ?_ rfl rfl (fun g => ?_); rfl; rfl))
  revert g; intro gk
  refine SX.ownNil 9 1 ?_
  refine SX.loop3 (fun (k : Nat) (_ : Option Addr) (_ : Nat) => k ≤ x.memos.length) (fun k _ _ => x.memos.length - k) (fun _ _ _ => [⟨gk, [.slice ma x.memos.length mc, .slice aa x.asked.length ac], 41⟩]) (fun k a c => [⟨.slice a (keptTo x k).length c, 9, 1, (keptTo x k).length, ((keptTo x k).map tcell).flatten⟩]) (fun _ _ _ => []) (fun k a' c' => [(1, .pointer (some ⟨gk, 0, none⟩)), (3, .slice a' (keptTo x k).length c'), (7, .slice ma x.memos.length mc), (8, .int .i64 x.memos.length), (9, .int .i64 k)]) 0 none 0 (Nat.zero_le _) ?_ (fun _ hl => hl) ?_
  · (repeat (first | exact subF_nil _ | (refine subF_cons rfl ?_) | (refine subF_consv rfl (by rfl) ?_)))
  intro k a' c' hk
  have hle := keptTo_len x k
  by_cases hlt : k < x.memos.length
  · obtain ⟨b1, o1, m, r1, rfl, _, _, hxk, hr1, hl1, hc1⟩ := h.get hlt
    obtain ⟨fa, fc, rfl, _, _⟩ := hr1
    have hS := keptTo_succ hxk.out
    have hm := hok m (List.mem_of_getElem? hxk.out)
    repeat (first | refine SX.seq ?_ | refine SXl.nil ?_ | refine SX.region ?_ | refine SQ.thenNormal ?_ | refine SX.block ?_ | refine SX.skip ?_ | refine SX.condT rfl ?_ | (refine l_load ?_; (first | refine SXl.v (OpW.loadRowOld rfl hc1 rfl (Nat.succ_pos _) (fun h => h)) rfl ?_ ?_ ?_ | refine SXl.v (OpW.loadAll 0 rfl rfl rfl) rfl ?_ ?_ ?_); rfl; rfl) | (refine l_call ?_; (refine SXl.v (OpW.call rfl (fun w hl => memoLine_any m hm _ _ (ht.keep hl.mod))) rfl ?_ ?_ ?_); rfl; rfl) | (refine l_move ?_; (refine SXl.v (OpW.move rfl) rfl ?_ ?_ ?_); rfl; rfl) | (refine l_assign ?_; (refine SXl.v (OpW.assign rfl) rfl ?_ ?_ ?_); rfl; rfl) | (refine l_add ?_; (refine SXl.v (OpW.succ rfl rfl (by omega)) rfl ?_ ?_ ?_); rfl; rfl) | (refine l_lss ?_; (refine SXl.v (OpW.lssT rfl rfl (by omega)) rfl ?_ ?_ ?_); rfl; rfl) | (refine l_indexAddr ?_; (refine SXl.v (OpW.indexAddr (by omega) rfl rfl) rfl ?_ ?_ ?_); rfl; rfl) | (refine l_alloc ?_; refine SXl.alloc ?_ ?_ (fun g => ?_); rfl; rfl) | (refine l_store ?_; first | (refine SXl.storeAll 0 ?_ rfl rfl rfl rfl rfl rfl rfl ?_; rfl; simp only [List.set_cons_zero, List.set_cons_succ]) | (refine SXl.storeAll 1 ?_ rfl rfl rfl rfl rfl rfl rfl ?_; rfl; simp only [List.set_cons_zero, List.set_cons_succ]) | (refine SXl.storeAll 2 ?_ rfl rfl rfl rfl rfl rfl rfl ?_; rfl; simp only [List.set_cons_zero, List.set_cons_succ]) | (refine SXl.storeRow 0 ?_ rfl rfl rfl rfl rfl rfl rfl ?_; rfl; simp only [over, List.set_cons_zero, List.set_cons_succ]) | (refine SXl.storeRow 1 ?_ rfl rfl rfl rfl rfl rfl rfl ?_; rfl; simp only [over, List.set_cons_zero, List.set_cons_succ]) | (refine SXl.storeRow 2 ?_ rfl rfl rfl rfl rfl rfl rfl ?_; rfl; simp only [over, List.set_cons_zero, List.set_cons_succ])) | (refine l_buildSlice ?_; first | (refine SXl.lit1 ?_ ?_ rfl rfl rfl (fun g => ?_); rfl; rfl) | (refine SXl.lit0 ?_ ?_ (fun _ h => h) rfl (fun g => ?_); rfl; rfl)) | (refine l_append ?_; first | (refine SXl.append 0 0 rfl rfl rfl rfl rfl rfl rfl rfl (by omega) (by omega) (fun a c => ?_); simp only [List.set_cons_zero, List.set_cons_succ]) | (refine SXl.append 1 0 rfl rfl rfl rfl rfl rfl rfl rfl (by omega) (by omega) (fun a c => ?_); simp only [List.set_cons_zero, List.set_cons_succ])) | refine SQ.blockNormal ?_)
    refine SQ.round3 (k + 1) _ _ (by omega) (by omega) ?_ (fun w hl => by rw [hS, List.length_append, List.map_append, List.flatten_append]; exact hl.drop1.drop1)
    (repeat (first | exact subF_nil _ | (refine subF_cons rfl ?_) | (refine subF_consv rfl (by rw [hS, List.length_append]; rfl) ?_)))
  · have hk' : k = x.memos.length := by omega
    subst hk'
    have hall := keptTo_all (x := x) (Nat.le_refl _)
    have hd := fun w h => decimal_any (x.asked.length : Int) ⟨by omega, by omega⟩ w h
    have hil := Lib.itoa_length_le (x.asked.length : Int) (by omega) (by omega)
    repeat (first | refine SX.seq ?_ | refine SXl.nil ?_ | refine SX.region ?_ | refine SQ.thenNormal ?_ | refine SX.condF rfl ?_ | (refine l_call ?_; (refine SXl.v (OpW.call rfl (fun w hl => hd _ (ht.keep hl.mod))) rfl ?_ ?_ ?_); rfl; rfl) | (refine l_add ?_; (refine SXl.v ((OpW.cat (a := [97, 115, 107, 101, 100, 32]) rfl rfl (by simp; omega))) rfl ?_ ?_ ?_); rfl; rfl) | (refine l_load ?_; (refine SXl.v (OpW.load 0 rfl rfl rfl) rfl ?_ ?_ ?_); rfl; rfl) | (refine l_fieldAddr ?_; (refine SXl.v (OpW.fieldAddr rfl) rfl ?_ ?_ ?_); rfl; rfl) | (refine l_move ?_; (refine SXl.v (OpW.move rfl) rfl ?_ ?_ ?_); rfl; rfl) | (refine l_assign ?_; (refine SXl.v (OpW.assign rfl) rfl ?_ ?_ ?_); rfl; rfl) | (refine l_len ?_; (refine SXl.v (OpW.len rfl) rfl ?_ ?_ ?_); rfl; rfl) | (refine l_lss ?_; (refine SXl.v (OpW.lssF rfl rfl (by omega)) rfl ?_ ?_ ?_); rfl; rfl) | (refine l_buildSlice ?_; first | (refine SXl.lit1 ?_ ?_ rfl rfl rfl (fun g => ?_); rfl; rfl) | (refine SXl.lit0 ?_ ?_ (fun _ h => h) rfl (fun g => ?_); rfl; rfl)) | (refine l_append ?_; first | (refine SXl.append 0 0 rfl rfl rfl rfl rfl rfl rfl rfl (by omega) (by omega) (fun a c => ?_); simp only [List.set_cons_zero, List.set_cons_succ]) | (refine SXl.append 1 0 rfl rfl rfl rfl rfl rfl rfl rfl (by omega) (by omega) (fun a c => ?_); simp only [List.set_cons_zero, List.set_cons_succ])) | refine SX.ret ?_ | refine SX.exit ?_ | refine SQ.thenExit ?_ | refine SQ.blockExit ?_)
    have hlen : (keptL x).length = (keptTo x x.memos.length).length + 1 := by unfold keptL; rw [List.length_append, ← hall]; rfl
    have hfl : ((keptL x).map tcell).flatten = ((keptTo x x.memos.length).map tcell).flatten ++ [.string ⟨(askedW x.asked.length).toArray⟩] := by unfold keptL; rw [List.map_append, List.flatten_append, ← hall]; rfl
    refine SQ.body1 rfl rfl (fun w' hl => ⟨_, _, by rw [hlen], by rw [hlen, hfl]; exact (hl.own _ List.mem_cons_self).1, hl.mod⟩)

set_option maxRecDepth 100000 in
set_option maxHeartbeats 8000000 in
theorem skeptLines_any (x : KeptT) (o : Bool) (ma aa : Option Addr) (mc ac : Nat) (R S : Nat → Prop) (w : World) (hx : x.fits 1048576) (hok : ∀ m ∈ x.memos, m.ok) (h : MemoSlice o R w ma x.memos) :
    Calls Tryz.prog 19 #[.agg #[.slice ma x.memos.length mc, .slice aa x.asked.length ac]] w (NewSlice 9 1 w (keptL x).length ((keptL x).map tcell).flatten) := by
  refine calls_sx Tryz.func19 rfl rfl (fun a h1 h2 h3 => ((Fr.nil h1 h2).arg (h3 0 _ rfl))) ?_
  have hml := hx.1
  have hal := hx.2.1
  repeat (first | refine SX.seq ?_ | refine SXl.nil ?_ | refine SX.region ?_ | refine SQ.thenNormal ?_ | refine SX.block ?_ | (refine l_assign ?_; (refine SXl.v (OpW.assign rfl) rfl ?_ ?_ ?_); rfl; rfl) | (refine l_box ?_; refine SXl.box ?_ ?_ rfl rfl (fun g => ?_); rfl; rfl) | (refine l_buildSlice ?_; first | (refine SXl.lit1 ?_ ?_ rfl rfl rfl (fun g => ?_); rfl; rfl) | (refine SXl.lit0 ?_ ?_ (fun _ h => h) rfl (fun g => ?_); rfl; rfl)))
  rename_i gk
  refine SX.loop3 (fun (k : Nat) (_ : Option Addr) (_ : Nat) => k ≤ x.memos.length) (fun k _ _ => x.memos.length - k) (fun _ _ _ => [⟨gk, [.slice ma x.memos.length mc, .slice aa x.asked.length ac], 41⟩]) (fun k a c => [⟨.slice a (keptTo x k).length c, 9, 1, (keptTo x k).length, ((keptTo x k).map tcell).flatten⟩]) (fun _ _ _ => []) (fun k a' c' => [(1, .pointer (some ⟨gk, 0, none⟩)), (3, .slice a' (keptTo x k).length c'), (4, .int .i64 k)]) 0 _ 0 (Nat.zero_le _) ?_ (fun _ hl => hl) ?_
  · (repeat (first | exact subF_nil _ | (refine subF_cons rfl ?_) | (refine subF_consv rfl (by rfl) ?_)))
  intro k a' c' hk
  have hle := keptTo_len x k
  by_cases hlt : k < x.memos.length
  · obtain ⟨b1, o1, m, r1, rfl, _, _, hxk, hr1, hl1, hc1⟩ := h.get hlt
    obtain ⟨fa, fc, rfl, _, _⟩ := hr1
    have hS := keptTo_succ hxk.out
    have hm := hok m (List.mem_of_getElem? hxk.out)
    repeat (first | refine SX.seq ?_ | refine SXl.nil ?_ | refine SX.region ?_ | refine SQ.thenNormal ?_ | refine SX.block ?_ | refine SX.skip ?_ | refine SX.condT rfl ?_ | (refine l_load ?_; (first | refine SXl.v (OpW.loadRowOld rfl hc1 rfl (Nat.succ_pos _) (fun h => h)) rfl ?_ ?_ ?_ | refine SXl.v (OpW.load 0 rfl rfl rfl) rfl ?_ ?_ ?_); rfl; rfl) | (refine l_call ?_; (refine SXl.v (OpW.call rfl (fun w hl => smemoLine_any m hm _ _)) rfl ?_ ?_ ?_); rfl; rfl) | (refine l_fieldAddr ?_; (refine SXl.v (OpW.fieldAddr rfl) rfl ?_ ?_ ?_); rfl; rfl) | (refine l_move ?_; (refine SXl.v (OpW.move rfl) rfl ?_ ?_ ?_); rfl; rfl) | (refine l_assign ?_; (refine SXl.v (OpW.assign rfl) rfl ?_ ?_ ?_); rfl; rfl) | (refine l_len ?_; (refine SXl.v (OpW.len rfl) rfl ?_ ?_ ?_); rfl; rfl) | (refine l_add ?_; (refine SXl.v (OpW.succ rfl rfl (by omega)) rfl ?_ ?_ ?_); rfl; rfl) | (refine l_lss ?_; (refine SXl.v (OpW.lssT rfl rfl (by omega)) rfl ?_ ?_ ?_); rfl; rfl) | (refine l_indexAddr ?_; (refine SXl.v (OpW.indexAddr (by omega) rfl rfl) rfl ?_ ?_ ?_); rfl; rfl) | (refine l_buildSlice ?_; first | (refine SXl.lit1 ?_ ?_ rfl rfl rfl (fun g => ?_); rfl; rfl) | (refine SXl.lit0 ?_ ?_ (fun _ h => h) rfl (fun g => ?_); rfl; rfl)) | (refine l_append ?_; first | (refine SXl.append 0 0 rfl rfl rfl rfl rfl rfl rfl rfl (by omega) (by omega) (fun a c => ?_); simp only [List.set_cons_zero, List.set_cons_succ]) | (refine SXl.append 1 0 rfl rfl rfl rfl rfl rfl rfl rfl (by omega) (by omega) (fun a c => ?_); simp only [List.set_cons_zero, List.set_cons_succ])) | refine SQ.blockNormal ?_)
    refine SQ.round3 (k + 1) _ _ (by omega) (by omega) ?_ (fun w hl => by rw [hS, List.length_append, List.map_append, List.flatten_append]; exact hl.drop1)
    (repeat (first | exact subF_nil _ | (refine subF_cons rfl ?_) | (refine subF_consv rfl (by rw [hS, List.length_append]; rfl) ?_)))
  · have hk' : k = x.memos.length := by omega
    subst hk'
    have hall := keptTo_all (x := x) (Nat.le_refl _)
    have hd := fun w => sdecimal_any (x.asked.length : Int) (by omega) (by omega) w
    have hil := Lib.itoa_length_le (x.asked.length : Int) (by omega) (by omega)
    repeat (first | refine SX.seq ?_ | refine SXl.nil ?_ | refine SX.region ?_ | refine SQ.thenNormal ?_ | refine SX.condF rfl ?_ | (refine l_call ?_; (refine SXl.v (OpW.call rfl (fun w hl => hd _)) rfl ?_ ?_ ?_); rfl; rfl) | (refine l_add ?_; (refine SXl.v ((OpW.cat (a := [97, 115, 107, 101, 100, 32]) rfl rfl (by simp; omega))) rfl ?_ ?_ ?_); rfl; rfl) | (refine l_load ?_; (refine SXl.v (OpW.load 0 rfl rfl rfl) rfl ?_ ?_ ?_); rfl; rfl) | (refine l_fieldAddr ?_; (refine SXl.v (OpW.fieldAddr rfl) rfl ?_ ?_ ?_); rfl; rfl) | (refine l_move ?_; (refine SXl.v (OpW.move rfl) rfl ?_ ?_ ?_); rfl; rfl) | (refine l_assign ?_; (refine SXl.v (OpW.assign rfl) rfl ?_ ?_ ?_); rfl; rfl) | (refine l_len ?_; (refine SXl.v (OpW.len rfl) rfl ?_ ?_ ?_); rfl; rfl) | (refine l_lss ?_; (refine SXl.v (OpW.lssF rfl rfl (by omega)) rfl ?_ ?_ ?_); rfl; rfl) | (refine l_buildSlice ?_; first | (refine SXl.lit1 ?_ ?_ rfl rfl rfl (fun g => ?_); rfl; rfl) | (refine SXl.lit0 ?_ ?_ (fun _ h => h) rfl (fun g => ?_); rfl; rfl)) | (refine l_append ?_; first | (refine SXl.append 0 0 rfl rfl rfl rfl rfl rfl rfl rfl (by omega) (by omega) (fun a c => ?_); simp only [List.set_cons_zero, List.set_cons_succ]) | (refine SXl.append 1 0 rfl rfl rfl rfl rfl rfl rfl rfl (by omega) (by omega) (fun a c => ?_); simp only [List.set_cons_zero, List.set_cons_succ])) | refine SX.ret ?_ | refine SX.exit ?_ | refine SQ.thenExit ?_ | refine SQ.blockExit ?_)
    have hlen : (keptL x).length = (keptTo x x.memos.length).length + 1 := by unfold keptL; rw [List.length_append, ← hall]; rfl
    have hfl : ((keptL x).map tcell).flatten = ((keptTo x x.memos.length).map tcell).flatten ++ [.string ⟨(askedW x.asked.length).toArray⟩] := by unfold keptL; rw [List.map_append, List.flatten_append, ← hall]; rfl
    refine SQ.body1 rfl rfl (fun w' hl => ⟨_, _, by rw [hlen], by rw [hlen, hfl]; exact (hl.own _ List.mem_cons_self).1, hl.mod⟩)

end Go.Proofs.YtpkpkojmaebflaaGreatDoor
namespace Go.Proofs.YtpkpkojmaebflaaGreatDoor
open Go.RowKit
set_option linter.unusedVariables false
set_option linter.unusedSimpArgs false

theorem inB_eq {n a b : Int} : inB n a b = true ↔ a ≤ n ∧ n ≤ b := by simp [inB]
theorem node_get {l : List Node} {n : Int} (h : inB n 1 l.length = true) : ∃ (k : Nat) (x : Node), n = ((k + 1 : Nat) : Int) ∧ k < l.length ∧ l[k]? = some x ∧ nodeAt l n = x := by
  obtain ⟨k, rfl, hk⟩ := inB_node h
  have hx := List.getElem?_eq_getElem hk
  exact ⟨k, _, rfl, hk, hx, nodeAt_of hx⟩

/-! ### Depths told by a function -/
/-- d tells the depths of the tree's nodes. -/
structure Deep (l : List Node) (d : Int → Nat) : Prop where
  root : ∀ n, inB n 1 l.length = true → (nodeAt l n).up = 0 → d n = 1
  next : ∀ n, inB n 1 l.length = true → (nodeAt l n).up ≠ 0 → inB (nodeAt l n).up 1 l.length = true ∧ d n = d (nodeAt l n).up + 1 ∧ 1 ≤ d (nodeAt l n).up
theorem Deep.pos {l : List Node} {d : Int → Nat} (h : Deep l d) {n : Int} (hn : inB n 1 l.length = true) : 1 ≤ d n := by
  by_cases h0 : (nodeAt l n).up = 0
  · rw [h.root n hn h0]; exact Nat.le_refl _
  · have := (h.next n hn h0).2.1; omega
/-- The nodes above a node, itself among them. -/
def chain (l : List Node) : Nat → Int → List Int
  | 0, _ => []
  | f + 1, n => n :: chain l f (nodeAt l n).up
theorem chain_mem {l : List Node} {d : Int → Nat} (h : Deep l d) : ∀ (f : Nat) (n : Int), inB n 1 l.length = true → d n = f → ∀ y ∈ chain l f n, inB y 1 l.length = true ∧ d y ≤ f
  | 0, n, hn, hd, y, hy => by cases hy
  | f + 1, n, hn, hd, y, hy => by
    unfold chain at hy
    rcases List.mem_cons.1 hy with rfl | hy
    · exact ⟨hn, by omega⟩
    · by_cases h0 : (nodeAt l n).up = 0
      · have := h.root n hn h0
        obtain rfl : f = 0 := by omega
        cases hy
      · obtain ⟨h1, h2, h3⟩ := h.next n hn h0
        have := chain_mem h f _ h1 (by omega) y hy
        exact ⟨this.1, by omega⟩
theorem chain_len {l : List Node} : ∀ (f : Nat) (n : Int), (chain l f n).length = f
  | 0, _ => rfl
  | f + 1, n => by unfold chain; rw [List.length_cons, chain_len f]
theorem chain_count {l : List Node} {d : Int → Nat} (h : Deep l d) : ∀ (f : Nat) (n : Int), inB n 1 l.length = true → d n = f → ∀ a, (chain l f n).count a ≤ 1
  | 0, n, hn, hd, a => by simp [chain]
  | f + 1, n, hn, hd, a => by
    unfold chain
    rw [List.count_cons]
    by_cases h0 : (nodeAt l n).up = 0
    · have := h.root n hn h0
      obtain rfl : f = 0 := by omega
      simp only [chain, List.count_nil]
      split <;> omega
    · obtain ⟨h1, h2, h3⟩ := h.next n hn h0
      have ih := chain_count h f _ h1 (by omega) a
      by_cases e : n = a
      · subst e
        have : n ∉ chain l f (nodeAt l n).up := fun hm => by
          have := (chain_mem h f _ h1 (by omega) n hm).2
          omega
        rw [List.count_eq_zero.2 this]
        simp
      · have e' : (n == a) = false := by simpa using e
        rw [e']
        simpa using ih
theorem Deep.le {l : List Node} {d : Int → Nat} (h : Deep l d) {n : Int} (hn : inB n 1 l.length = true) : d n ≤ l.length := by
  have := nodup_len l.length (chain l (d n) n) (chain_count h _ n hn rfl) fun x hx => inB_eq.1 (chain_mem h _ n hn rfl x hx).1
  rwa [chain_len] at this
theorem depthF_deep {l : List Node} {d : Int → Nat} (h : Deep l d) : ∀ (f : Nat) (n : Int) (k : Nat), inB n 1 l.length = true → d n < f → depthF l f n k = ((k + d n : Nat) : Int)
  | 0, n, k, hn, hd => by omega
  | f + 1, n, k, hn, hd => by
    have hn' := inB_eq.1 hn
    unfold depthF
    rw [if_neg (by omega), if_pos hn]
    show depthF l f (nodeAt l n).up (k + 1) = _
    by_cases h0 : (nodeAt l n).up = 0
    · have h1 := h.root n hn h0
      obtain ⟨g, rfl⟩ : ∃ g, f = g + 1 := ⟨f - 1, by omega⟩
      rw [h0, h1]
      unfold depthF
      rw [if_pos rfl]
    · obtain ⟨h1, h2, h3⟩ := h.next n hn h0
      rw [depthF_deep h f _ (k + 1) h1 (by omega), h2]
      congr 1
      omega
theorem Deep.dep {l : List Node} {d : Int → Nat} (h : Deep l d) {n : Int} (hn : inB n 1 l.length = true) : dep l n = (d n : Int) := by
  have := h.le hn
  unfold Go.Proofs.YtpkpkojmaebflaaGreatDoor.dep
  rw [depthF_deep h _ n 0 hn (by omega), Nat.zero_add]
/-- A valid tree has such depths. -/
theorem ok_deep {l : List Node} (hv : treeOk l = true) : Deep l (fun n => (dep l n).toNat) where
  root := fun n hn h0 => by
    obtain ⟨k, x, rfl, hk, hx, e⟩ := node_get hn
    rw [e] at h0
    rw [dep_root hx h0 (by omega)]; rfl
  next := fun n hn h0 => by
    obtain ⟨k, x, rfl, hk, hx, e⟩ := node_get hn
    rw [e] at h0 ⊢
    have hd := (ok_node hv hx).2.1
    obtain ⟨ku, hu, hku⟩ := depth_up hx (inB_eq.2 hd) h0
    have hub : inB x.up 1 l.length = true := by rw [hu]; exact inB_true (by omega) (by omega)
    have hu2 := List.getElem?_eq_getElem hku
    have hd2 := (ok_node hv hu2).2.1
    rw [← hu] at hd2
    have := dep_up hx h0 (by omega)
    exact ⟨hub, by omega, by omega⟩
theorem ok_dep {l : List Node} (hv : treeOk l = true) {n : Int} (hn : inB n 1 l.length = true) : 1 ≤ dep l n ∧ dep l n ≤ 4 ∧ dep l n ≤ l.length := by
  obtain ⟨k, x, rfl, hk, hx, e⟩ := node_get hn
  have hd := (ok_node hv hx).2.1
  have := (ok_deep hv).le hn
  exact ⟨hd.1, hd.2, by omega⟩

/-! ### Who is under whom -/
/-- What a node's validity says. -/
structure NodeIs (l : List Node) (n : Int) : Prop where
  style : styleOk (nodeAt l n).style = true
  deep : 1 ≤ dep l n ∧ dep l n ≤ 4
  kids : ∀ y ∈ (nodeAt l n).kids, inB y 1 l.length = true ∧ (nodeAt l y).up = n
  up : (nodeAt l n).up = 0 ∨ (nodeAt l (nodeAt l n).up).kids.count n = 1
  tab : tabOk (nodeAt l n) = true
end Go.Proofs.YtpkpkojmaebflaaGreatDoor
namespace Go.Proofs.YtpkpkojmaebflaaGreatDoor
open Go.RowKit

/-- Where a walk up stands. -/
def UpG (l : List Node) (f : Nat) (m : Int) : Prop := m = 0 ∨ (inB m 1 l.length = true ∧ dep l m < (f : Int))
theorem up_dep {l : List Node} (hv : treeOk l = true) {m : Int} (h : inB m 1 l.length = true) (h0 : (nodeAt l m).up ≠ 0) : inB (nodeAt l m).up 1 l.length = true ∧ dep l (nodeAt l m).up + 1 = dep l m := by
  have h1 := ((ok_deep hv).next m h h0).1
  obtain ⟨k, x, rfl, hk, hx, hnx⟩ := node_get h
  rw [hnx] at h0 h1 ⊢
  have h2 := (ok_node hv hx).2.1
  exact ⟨h1, (dep_up hx h0 (by omega)).symm⟩
theorem UpG.next {l : List Node} (hv : treeOk l = true) {f : Nat} {m : Int} (h : UpG l (f + 1) m) (h0 : m ≠ 0) : UpG l f (nodeAt l m).up := by
  rcases h with h | ⟨h1, h2⟩
  · exact (h0 h).elim
  · by_cases hu : (nodeAt l m).up = 0
    · exact .inl hu
    · obtain ⟨q1, q2⟩ := up_dep hv h1 hu
      exact .inr ⟨q1, by omega⟩
end Go.Proofs.YtpkpkojmaebflaaGreatDoor
namespace Go.Proofs.YtpkpkojmaebflaaGreatDoor
open Go.RowKit

/-- The first frame of a node. -/
def frameAt (fs : List Frame) (n : Int) : Option Frame := fs.find? fun f => decide (f.node = n)
theorem frameAt_none {fs : List Frame} {n : Int} : frameAt fs n = none ↔ ∀ f ∈ fs, f.node ≠ n := by
  unfold frameAt
  rw [List.find?_eq_none]
  simp
/-- The first frame of a node, looked for from place k on. -/
theorem frameAt_here {fs : List Frame} {n : Int} {k : Nat} {f : Frame} (h : fs[k]? = some f) (hn : f.node = n) (hb : ∀ j g, j < k → fs[j]? = some g → g.node ≠ n) : frameAt fs n = some f := by
  induction fs generalizing k with
  | nil => simp at h
  | cons g fs ih =>
    cases k with
    | zero => simp at h; subst h; simp [frameAt, hn]
    | succ k =>
      have h0 : g.node ≠ n := hb 0 g (Nat.succ_pos _) rfl
      have := ih (k := k) (by simpa using h) (fun j g' hj hg => hb (j + 1) g' (by omega) (by simpa using hg))
      unfold frameAt at this ⊢
      rw [List.find?_cons_of_neg (by simpa using h0)]
      exact this
theorem frameAt_out {fs : List Frame} {n : Int} (hb : ∀ j g, j < fs.length → fs[j]? = some g → g.node ≠ n) : frameAt fs n = none :=
  frameAt_none.2 fun f hf => by
    obtain ⟨j, hj⟩ := List.mem_iff_getElem?.1 hf
    exact hb j f (List.getElem?_eq_some_iff.1 hj).1 hj
/-- How far a frame lies from the topmost node: steps up from a node, by fuel. -/
def absF (l : List Node) (fs : List Frame) : Nat → Int → Int → Int → Int × Int
  | 0, _, x, y => (x, y)
  | f + 1, n, x, y => if inB n 1 l.length then
      match frameAt fs (nodeAt l n).up with
      | some g => if (nodeAt l n).up = 0 then (x, y) else absF l fs f (nodeAt l n).up (IntKind.i64.wrap (x + g.x)) (IntKind.i64.wrap (y + g.y))
      | none => (x, y)
    else (x, y)
def absOf (l : List Node) (fs : List Frame) (g : Frame) : Frame := { g with x := (absF l fs 5 g.node g.x g.y).1, y := (absF l fs 5 g.node g.x g.y).2 }
def absolute (l : List Node) (fs : List Frame) : List Frame := if treeOk l then fs.map (absOf l fs) else fs
theorem absF_out {l : List Node} {fs : List Frame} {f : Nat} {n x y : Int} (h : inB n 1 l.length = false) : absF l fs f n x y = (x, y) := by
  cases f with
  | zero => rfl
  | succ f => rw [absF, h]; rfl
/-- Where a walk up stands: a node with steps left. -/
def AbsAt (l : List Node) (f : Nat) (n : Int) : Prop := inB n 1 l.length = true → dep l n < (f : Int)
theorem AbsAt.start {l : List Node} (hv : treeOk l = true) (n : Int) : AbsAt l 5 n := fun h => by have := ok_dep hv h; omega
theorem AbsAt.next {l : List Node} (hv : treeOk l = true) {f : Nat} {n : Int} (h : AbsAt l (f + 1) n) (hn : inB n 1 l.length = true) (h0 : (nodeAt l n).up ≠ 0) : AbsAt l f (nodeAt l n).up := fun h' => by
  have := h hn
  obtain ⟨_, q⟩ := up_dep hv hn h0
  omega
theorem wrap_i64 (a : Int) : -9223372036854775808 ≤ IntKind.i64.wrap a ∧ IntKind.i64.wrap a ≤ 9223372036854775807 := by
  simp only [IntKind.wrap, IntKind.bits, IntKind.signed]
  constructor <;> simp <;> omega
end Go.Proofs.YtpkpkojmaebflaaGreatDoor
namespace Go.Proofs.YtpkpkojmaebflaaGreatDoor
open Go.RowKit
set_option linter.unusedVariables false
set_option linter.unusedSimpArgs false

/-- A field of several cells, of a struct that is no variable. -/
class TFr (P : Program) (T j : Nat) (off m : outParam Nat) : Prop where
  h : ∃ fs f d, P.underlying T = some (.struct fs) ∧ fs[j]? = some f ∧ f.offset = off ∧ P.underlying f.type = some d ∧ d.isRow = true ∧ (P.info? f.type).map (·.size) = some m
instance : TFr Tryz.prog 85 2 2 60 := ⟨_, _, _, Tryz.underlying85, rfl, rfl, Tryz.underlying80, rfl, by kernel_rfl⟩
instance tfvApart : TFv Tryz.prog 80 6 6 := ⟨_, _, _, Tryz.underlying80, rfl, rfl, Tryz.underlying4, rfl⟩
instance tfvHid : TFv Tryz.prog 80 7 7 := ⟨_, _, _, Tryz.underlying80, rfl, rfl, Tryz.underlying4, rfl⟩
instance tfvOrd : TFv Tryz.prog 80 8 8 := ⟨_, _, _, Tryz.underlying80, rfl, rfl, Tryz.underlying3, rfl⟩
abbrev nrow (x : Node) (ka : Option Addr) (kc : Nat) (ra : Option Addr) (rc : Nat) : List Value := nodeRow x.up ka x.kids.length kc x.style x.measured ra x.rules.length rc
section
variable {n : Nat} {W : World} {R : Rg W} {L : List Blk} {O : List Own} {E : List Res} {f : List (Nat × Value)} {d : Option Tmp} {x : Operand} {ty : TypeId} {pos : String} {af : Array Edge} {gd : Option (Nat × Bool)} {z : Node} {ka ra : Option Addr} {kc rc : Nat} {s : Style}
theorem OpW.nodeUp (hx : evO f x = some (.agg (nrow z ka kc ra rc).toArray)) : OpW Tryz.prog n W R L O E f ⟨d, .field 85 x 0, ty, pos, af, gd⟩ (.int .i64 z.up) := OpW.field hx (nodeRow_a0 _ _ _ _ _ _ _ _ _)
end
end Go.Proofs.YtpkpkojmaebflaaGreatDoor
namespace Go.Proofs.YtpkpkojmaebflaaGreatDoor
open Go.RowKit
set_option linter.unusedVariables false
set_option linter.unusedSimpArgs false

/-- A node's row, as both sides hand it back. -/
theorem node_row {l : List Node} {o : Bool} {R : Nat → Prop} {w : World} {a : Option Addr} {c : Nat} (hlen : l.length ≤ 1048576) (h : NodeSlice o R w a l) {n : Int} (hn : inB n 1 l.length = true) :
    ∃ (ka : Option Addr) (kc : Nat) (ra : Option Addr) (rc : Nat), IntSlice R w ka (nodeAt l n).kids ∧
      (∀ w', Mod (fun _ => False) w w' → Calls Tryz.prog 56 #[.agg #[.slice a l.length c], .int .i64 n] w' fun e w'' => e = .returned (.agg (nrow (nodeAt l n) ka kc ra rc).toArray) ∧ Mod (fun _ => False) w' w'') ∧
      (∀ w', Mod (fun _ => False) w w' → Calls Tryz.prog 38 #[.agg #[.slice a l.length c], .int .i64 n] w' fun e w'' => e = .returned (.agg (nrow (nodeAt l n) ka kc ra rc).toArray) ∧ Mod (fun _ => False) w' w'') := by
  obtain ⟨k, x, rfl, hk, hx, hnx⟩ := node_get hn
  obtain ⟨b1, o1, x1, r1, rfl, hR1, hb1, hxk, hr1, hl1, hc1⟩ := h.get hk
  obtain rfl : x1 = x := Option.some.inj (hxk.out.symm.trans hx)
  obtain ⟨ka, kc, ra, rc, rfl, hk1, ht1, _⟩ := hr1
  rw [hnx]
  have hc : ∀ w', Mod (fun _ => False) w w' → ∀ j v, (nodeRow x1.up ka x1.kids.length kc x1.style x1.measured ra x1.rules.length rc)[j]? = some v → w'.cell? ⟨b1, o1 + k * 64 + j, none⟩ = some v := fun w' hm j v hv => by
    rw [hm.cell (a := ⟨b1, o1 + k * 64 + j, none⟩) hb1 (fun h => h)]
    exact hc1 j v hv
  exact ⟨ka, kc, ra, rc, hk1, fun w' hm => node_any _ _ _ _ k _ _ _ _ _ _ _ _ _ w' hlen hk (hc w' hm), fun w' hm => snode_any _ _ _ _ k _ _ _ _ _ _ _ _ _ w' hlen hk (hc w' hm)⟩
end Go.Proofs.YtpkpkojmaebflaaGreatDoor
namespace Go.Proofs.YtpkpkojmaebflaaGreatDoor
open Go.RowKit

end Go.Proofs.YtpkpkojmaebflaaGreatDoor
namespace Go.Proofs.YtpkpkojmaebflaaGreatDoor
open Go.RowKit
set_option linter.unusedVariables false
set_option linter.unusedSimpArgs false

section
variable {P : Program} {n : Nat} {W : World} {R : Rg W} {L : List Blk} {O : List Own} {E : List Res} {f : List (Nat × Value)} {Q : Exit → Go.Act → World → Prop} {ops : Array Oper} {rest : List Oper}
theorem wp_mono_then {c y : Code} {K : Go.Act → World → Prop} {a : Go.Act} {w : World} (h : c.wp P (Exit.then K Q) a w) (hK : ∀ a w, K a w → y.wp P Q a w) : c.wp P (Exit.then (y.wp P Q) Q) a w :=
  wp_mono h (fun e a w q => by
    cases e with
    | normal => exact hK a w q
    | exit id => exact q
    | goto l => exact q
    | ret => exact q
    | panic ch => exact q
    | outgrown => exact q)
/-- A part of the text whose ways are told by one kind of state, and what follows. -/
theorem SX.join {ι : Type} {c y : Code} (inv : ι → Prop) (Lf : ι → List Blk) (Of : ι → List Own) (Ef : ι → List Res) (ff : ι → List (Nat × Value))
    (h1 : SX P n W R L O E f c (Exit.then (fun a w => ∃ i, inv i ∧ Fr n (ff i) a ∧ Loc W R (Lf i) (Of i) (Ef i) w) Q))
    (h2 : ∀ i, inv i → SX P n W R (Lf i) (Of i) (Ef i) (ff i) y Q) : SX P n W R L O E f c (Exit.then (y.wp P Q) Q) := ⟨fun a w hf hl =>
  wp_mono_then (h1.run a w hf hl) fun a w ⟨i, hi, hf, hl⟩ => (h2 i hi).run a w hf hl⟩
theorem SQ.join {ι : Type} {inv : ι → Prop} {Lf : ι → List Blk} {Of : ι → List Own} {Ef : ι → List Res} {ff : ι → List (Nat × Value)} (i : ι) (h : inv i) (hs : subF f (ff i)) (hl : ∀ w, Loc W R L O E w → Loc W R (Lf i) (Of i) (Ef i) w) :
    SQ n W R L O E f .normal (Exit.then (fun a w => ∃ i, inv i ∧ Fr n (ff i) a ∧ Loc W R (Lf i) (Of i) (Ef i) w) Q) := ⟨fun _ w hf hl' => ⟨i, h, hf.sub hs, hl w hl'⟩⟩
/-- A cursor may turn. -/
def curRg (T : TypeId) (B g : Nat) (W : World) (hg : g < W.heap.size) (hB : B ≤ g) : Rg W where
  p := fun k => k = g
  q := fun _ => False
  J := fun w => Cur B T w g
  low := fun k hk => by subst hk; exact hg
  sub := fun _ h => h.elim
  keep := fun S w w' h hm hs => h.mod hm (fun hS => hs g hg hS) (fun k hk hS => hs k (by omega) hS)
/-- What a drawing call gives. -/
def DrewV {ξ : Type} (T : TypeId) (B g : Nat) (w : World) (v : ξ → Value) (K : ξ → Prop) (e : Ending) (w' : World) : Prop := ∃ x, e = .returned (v x) ∧ K x ∧ Mod (fun k => k = g) w w' ∧ Cur B T w' g
theorem Drew.v {T : TypeId} {B g : Nat} {w : World} {p : Int → Prop} {e : Ending} {w' : World} (h : Drew B T g w p e w') : DrewV T B g w (fun x : Int => .int .i64 x) p e w' := by
  obtain ⟨x, hp, he, hc, hm⟩ := h
  exact ⟨x, he, hp, hm, hc⟩
variable {d : Option Nat} {dn g B T : Nat} {fn : FuncId} {ars : List Operand} {args : List Value} {aT : Array TypeId} {ty : TypeId} {pos : String} {af : Array Edge} {gd : Option (Nat × Bool)} {hg : g < W.heap.size} {hB : B ≤ g}
theorem SXl.draw {ξ : Type} {v : ξ → Value} [TFun P fn] (hw : wantO ops f ⟨some dn, .call ⟨.value (.func fn), ars.toArray, aT⟩, ty, pos, af, gd⟩ = some true) (hd : Nat.blt dn n = true) (ha : evL f ars = some args) (K : ξ → Prop)
    (hc : ∀ w, Loc W (curRg T B g W hg hB) L O [] w → Calls P fn args.toArray w (DrewV T B g w v K))
    (h : ∀ x, K x → SXl P n W (curRg T B g W hg hB) ops L O [] ((dn, v x) :: f) rest Q) : SXl P n W (curRg T B g W hg hB) ops L O [] f (⟨some dn, .call ⟨.value (.func fn), ars.toArray, aT⟩, ty, pos, af, gd⟩ :: rest) Q :=
  SXl.callJ (ξ := ξ) (v := v) (fun _ h => h) hw hd ha K hc h
end
end Go.Proofs.YtpkpkojmaebflaaGreatDoor
namespace Go.Proofs.YtpkpkojmaebflaaGreatDoor
open Go.RowKit
set_option linter.unusedVariables false
set_option linter.unusedSimpArgs false

/-- Slices of the call's own, each in a block of its own. -/
structure Owns (base : Nat) (w : World) (os : List Own) : Prop where
  row : ∀ o ∈ os, w.ownsRow base o.e o.sz o.v o.n o.xs
  apart : os.Pairwise (fun a b => ∀ k, a.v.ownBlock = some k → b.v.ownBlock ≠ some k)
theorem Owns.nil (base : Nat) (w : World) : Owns base w [] := ⟨fun _ h => (List.not_mem_nil h).elim, .nil⟩
theorem Owns.mod {base : Nat} {w w' : World} {os : List Own} {S : Nat → Prop} (h : Owns base w os) (hm : Mod S w w') (hs : ∀ o ∈ os, ∀ k, o.v.ownBlock = some k → ¬ S k) : Owns base w' os :=
  ⟨fun o ho => ownsRow_keep (h.row o ho) hm (hs o ho), h.apart⟩
theorem Owns.keep {base : Nat} {w w' : World} {os : List Own} (h : Owns base w os) (hm : Mod (fun _ => False) w w') : Owns base w' os := h.mod hm fun _ _ _ _ f => f
theorem Owns.low {base base' : Nat} {w : World} {os : List Own} (h : Owns base w os) (hb : base' ≤ base) : Owns base' w os := ⟨fun o ho => World.ownsRow.mono (h.row o ho) hb, h.apart⟩
theorem Owns.left {base : Nat} {w : World} {os ps : List Own} (h : Owns base w (os ++ ps)) : Owns base w os := ⟨fun o ho => h.row o (List.mem_append_left _ ho), (List.pairwise_append.1 h.apart).1⟩
theorem Owns.sub {base : Nat} {w : World} {os ps : List Own} (h : Owns base w ps) (hs : os.Sublist ps) : Owns base w os := ⟨fun o ho => h.row o (hs.subset ho), h.apart.sublist hs⟩
def NewO (ξ : Type) (v : ξ → Value) (os : ξ → List Own) (K : ξ → Prop) (w : World) (e : Ending) (w' : World) : Prop :=
  ∃ x, e = .returned (v x) ∧ K x ∧ Owns w.heap.size w' (os x) ∧ Mod (fun _ => False) w w'
section
variable {P : Program} {n : Nat} {W : World} {R : Rg W} {L : List Blk} {O : List Own} {E : List Res} {w w' : World} {B : Nat} {os : List Own}
theorem Loc.owns (h : Loc W R L O E w) : Owns W.heap.size w O := ⟨fun o ho => (h.own o ho).1, h.ownApart⟩
theorem Loc.addOwns (hf : Far W L O E B) (h : Loc W R L O E w) (ho : Owns B w os) : Loc W R L (os ++ O) E w where
  mod := h.mod
  inv := h.inv
  blk := h.blk
  apart := h.apart
  own := fun o hm => by
    rcases List.mem_append.1 hm with hm | hm
    · refine ⟨World.ownsRow.mono (ho.row o hm) hf.old, fun b hb e => ?_⟩
      have := hf.blk b hb
      have := (ownBlock_lt (ho.row o hm) e).1
      omega
    · exact h.own o hm
  ownApart := List.pairwise_append.2 ⟨ho.apart, h.ownApart, fun a ha b hb k hk e => by
    have := hf.own b hb k e
    have := (ownBlock_lt (ho.row a ha) hk).1
    omega⟩
  res := fun F hF => ⟨(h.res F hF).1, (h.res F hF).2.1, (h.res F hF).2.2.1, fun o hm k hk f => by
    rcases List.mem_append.1 hm with hm | hm
    · have := hf.res F hF k f
      have := (ownBlock_lt (ho.row o hm) hk).1
      omega
    · exact (h.res F hF).2.2.2 o hm k hk f⟩
  resNew := h.resNew
  resApart := h.resApart
theorem Loc.gotOwns (h : Loc W R L O E w) (hm : Mod (fun _ => False) w w') (ho : Owns w.heap.size w' os) : Loc W R L (os ++ O) E w' :=
  (h.keep hm).addOwns h.far ho
theorem Loc.ownCell {i g m c e sz j : Nat} {xs : List Value} (h : Loc W R L O E w) (hi : O[i]? = some ⟨.slice (some ⟨g, 0, none⟩) m c, e, sz, m, xs⟩) {v : Value} (hv : xs[j]? = some v) : w.cell? ⟨g, j, none⟩ = some v := by
  have ho := (h.own _ (List.mem_iff_getElem?.2 ⟨i, hi⟩)).1
  simp only at ho
  rw [ho.cellAt j (by rw [← ho.1]; exact (List.getElem?_eq_some_iff.1 hv).1), hv]
end
section
variable {P : Program} {n : Nat} {W : World} {R : Rg W} {L : List Blk} {O : List Own} {E : List Res} {f : List (Nat × Value)} {Q : Exit → Act → World → Prop} {ops : Array Oper} {rest : List Oper} {d : Option Tmp} {dn : Nat} {T : TypeId} {x y : Operand} {ty : TypeId} {pos : String} {af : Array Edge} {gd : Option (Nat × Bool)} {g o : Nat}
/-- One cell that is told. -/
theorem OpW.loadLoc {v : Value} [TOne P T] (hx : evO f x = some (.pointer (some ⟨g, o, none⟩))) (hv : ∀ w, Loc W R L O E w → w.cell? ⟨g, o, none⟩ = some v) : OpW P n W R L O E f ⟨d, .load T x, ty, pos, af, gd⟩ v :=
  OpW.of (fun a w hf hl => by simp [execOp, hf.eval hx, run_load1 (hv w hl)])
/-- One cell of a slice of the call's own. -/
theorem OpW.loadOwn {v : Value} {m c e sz : Nat} {xs : List Value} (i : Nat) [TOne P T] (hx : evO f x = some (.pointer (some ⟨g, o, none⟩))) (hi : O[i]? = some ⟨.slice (some ⟨g, 0, none⟩) m c, e, sz, m, xs⟩) (hv : xs[o]? = some v) : OpW P n W R L O E f ⟨d, .load T x, ty, pos, af, gd⟩ v :=
  OpW.loadLoc hx fun w hl => hl.ownCell hi hv
theorem SXl.storeOwn {v : Value} {O' : List Own} {m c e sz : Nat} {xs : List Value} (i : Nat) [TOne P T] (hw : wantO ops f ⟨none, .store T x y, ty, pos, af, gd⟩ = some true) (hx : evO f x = some (.pointer (some ⟨g, o, none⟩))) (hy : evO f y = some v)
    (hi : O[i]? = some ⟨.slice (some ⟨g, 0, none⟩) m c, e, sz, m, xs⟩) (ho : o < xs.length) (hv : v.oneCell' = true) (hO : O.set i ⟨.slice (some ⟨g, 0, none⟩) m c, e, sz, m, xs.set o v⟩ = O') (h : SXl P n W R ops L O' E f rest Q) : SXl P n W R ops L O E f (⟨none, .store T x y, ty, pos, af, gd⟩ :: rest) Q :=
  SXl.steps hw rfl (fun a w hf hl => by
    have hown := (hl.own _ (List.mem_iff_getElem?.2 ⟨i, hi⟩)).1
    simp only at hown
    refine ⟨w.setCell ⟨g, o, none⟩ v, ?_, hO ▸ hl.ownTurned hi ?_ (hown.stored o v).1 (.inl rfl)⟩
    · simp [execOp, hf.eval hx, hf.eval hy, run_store1 (hl.ownCell hi (List.getElem?_eq_getElem ho)) (hown.frozenAt o) hv]
    · exact ((Mod.refl _ w).setAt _ _ _).mono fun k _ e => by subst e; rfl) h
/-- A call that hands back slices of the call's own. -/
theorem SXl.callO {ξ : Type} {v : ξ → Value} {os : ξ → List Own} {K : ξ → Prop} {fn : FuncId} {ars : List Operand} {args : List Value} {aT : Array TypeId} [TFun P fn] (hw : wantO ops f ⟨some dn, .call ⟨.value (.func fn), ars.toArray, aT⟩, ty, pos, af, gd⟩ = some true) (hd : Nat.blt dn n = true) (ha : evL f ars = some args)
    (hc : ∀ w, Loc W R L O E w → Calls P fn args.toArray w (NewO ξ v os K w))
    (h : ∀ x, K x → SXl P n W R ops L (os x ++ O) E ((dn, v x) :: f) rest Q) : SXl P n W R ops L O E f (⟨some dn, .call ⟨.value (.func fn), ars.toArray, aT⟩, ty, pos, af, gd⟩ :: rest) Q := ⟨fun a w hf hl => by
  unfold wpList
  rw [if_pos (wanted_of hf hw)]
  refine .inl ?_
  unfold Oper.wp
  rw [run_callop hf ha w _ _, Oper.upon_enter]
  refine (hc w hl).mono ?_
  rintro e w' ⟨x, rfl, hk, ho, hm⟩
  exact (h x hk).run _ _ (hf.put hd _) (hl.gotOwns hm ho)⟩
end
end Go.Proofs.YtpkpkojmaebflaaGreatDoor
namespace Go.Proofs.YtpkpkojmaebflaaGreatDoor
open Go.RowKit
set_option linter.unusedVariables false
set_option linter.unusedSimpArgs false

section
variable {P : Program} {n : Nat} {W : World} {R : Rg W} {L : List Blk} {O : List Own} {E : List Res} {f : List (Nat × Value)} {d : Option Tmp} {T : TypeId} {x y : Operand} {ty : TypeId} {pos : String} {af : Array Edge} {gd : Option (Nat × Bool)}
end
end Go.Proofs.YtpkpkojmaebflaaGreatDoor
namespace Go.Proofs.YtpkpkojmaebflaaGreatDoor
open Go.RowKit
set_option linter.unusedVariables false
set_option linter.unusedSimpArgs false

/-- Where a node's slices lie. -/
structure NodeP where
  ka : Option Addr
  kc : Nat
  ra : Option Addr
  rc : Nat
abbrev PNode := Node × NodeP
def rowP (x : PNode) : List Value := nodeRow x.1.up x.2.ka x.1.kids.length x.2.kc x.1.style x.1.measured x.2.ra x.1.rules.length x.2.rc
def kidsO (x : PNode) : Own := ⟨.slice x.2.ka x.1.kids.length x.2.kc, 3, 1, x.1.kids.length, (x.1.kids.map icell).flatten⟩
def rulesO (x : PNode) : Own := ⟨.slice x.2.ra x.1.rules.length x.2.rc, 176, 3, x.1.rules.length, (x.1.rules.map Rule.cells).flatten⟩
def partsO : List PNode → List Own
  | [] => []
  | x :: l => kidsO x :: rulesO x :: partsO l
def nodesO (l : List PNode) (a : Option Addr) (c : Nat) : Own := ⟨.slice a l.length c, 85, 64, l.length, (l.map rowP).flatten⟩
def treeO (l : List PNode) (a : Option Addr) (c : Nat) : List Own := nodesO l a c :: partsO l
/-- A list of rows of one length: one cell of one row set. -/
theorem flat_set {α : Type} {cells : α → List Value} {sz : Nat} (hc : ∀ x, (cells x).length = sz) : ∀ {l : List α} {k j : Nat} {x y : α} {v : Value}, l[k]? = some x → j < sz → cells y = (cells x).set j v → ((l.set k y).map cells).flatten = ((l.map cells).flatten).set (k * sz + j) v
  | z :: l, 0, j, x, y, v, h, hj, hy => by
    obtain rfl : z = x := Option.some.inj h
    simp only [List.set_cons_zero, List.map_cons, List.flatten_cons, hy, Nat.zero_mul, Nat.zero_add]
    rw [List.set_append_left _ _ (by rw [hc]; exact hj)]
  | z :: l, k + 1, j, x, y, v, h, hj, hy => by
    simp only [List.set_cons_succ, List.map_cons, List.flatten_cons]
    rw [flat_set hc (l := l) h hj hy, show (k + 1) * sz + j = (cells z).length + (k * sz + j) by rw [hc, Nat.succ_mul]; omega]
    rw [List.set_append_right _ _ (by omega), Nat.add_sub_cancel_left]
theorem flat_get {α : Type} {cells : α → List Value} {sz : Nat} (hc : ∀ x, (cells x).length = sz) : ∀ {l : List α} {k j : Nat} {x : α} {v : Value}, l[k]? = some x → (cells x)[j]? = some v → ((l.map cells).flatten)[k * sz + j]? = some v
  | z :: l, 0, j, x, v, h, hv => by
    obtain rfl : z = x := Option.some.inj h
    simp only [List.map_cons, List.flatten_cons, Nat.zero_mul, Nat.zero_add]
    rw [List.getElem?_append_left (List.getElem?_eq_some_iff.1 hv).1, hv]
  | z :: l, k + 1, j, x, v, h, hv => by
    simp only [List.map_cons, List.flatten_cons]
    rw [show (k + 1) * sz + j = (cells z).length + (k * sz + j) by rw [hc, Nat.succ_mul]; omega, List.getElem?_append_right (by omega), Nat.add_sub_cancel_left]
    exact flat_get hc (l := l) h hv

end Go.Proofs.YtpkpkojmaebflaaGreatDoor
namespace Go.Proofs.YtpkpkojmaebflaaGreatDoor
open Go.RowKit
set_option linter.unusedVariables false
set_option linter.unusedSimpArgs false

section
variable {P : Program} {n : Nat} {W : World} {R : Rg W} {L : List Blk} {O : List Own} {E : List Res} {f : List (Nat × Value)} {Q : Exit → Act → World → Prop} {ops : Array Oper} {rest : List Oper} {dn : Nat} {T e : TypeId} {x : Operand} {ty : TypeId} {pos : String} {af : Array Edge} {gd : Option (Nat × Bool)}
theorem SXl.lit0R {sz by_ : Nat} {z : Value} [t : TSl P T e sz] [te : TEl P e sz by_ z] (hw : wantO ops f ⟨some dn, .buildSlice T 0 #[], ty, pos, af, gd⟩ = some true) (hd : Nat.blt dn n = true) (hR : ∀ k, ¬ R.q k)
    (h : ∀ g, SXl P n W R ops L (⟨.slice (some ⟨g, 0, none⟩) 0 0, e, sz, 0, []⟩ :: O) E ((dn, .slice (some ⟨g, 0, none⟩) 0 0) :: f) rest Q) : SXl P n W R ops L O E f (⟨some dn, .buildSlice T 0 #[], ty, pos, af, gd⟩ :: rest) Q :=
  SXl.stepn (V := fun g => .slice (some ⟨g, 0, none⟩) 0 0) (L' := fun _ => L) (O' := fun g => ⟨.slice (some ⟨g, 0, none⟩) 0 0, e, sz, 0, []⟩ :: O) hw rfl hd (fun a w hf hl => by
    obtain ⟨i0, q1, q2, q3, q4, q5, q6⟩ := te.h
    refine ⟨w.heap.size, w.alloc (.cells #[] e), ?_, ((hl.alloc [] e).toOwn (m := 0) (hR _) (by simp) (by unfold maxLen; omega))⟩
    simp only [execOp, Instr.buildSlice, Sem.run_bind, run_underlying t.h.1, Result.andThen_ok, sizeOf, typeInfo, run_program, q1, Sem.run_pure, q3]
    have e4 : Array.map (fun _ : Nat => (default : Value)) (Array.range 0) = #[] := by simp
    simp [newRow, q1, q2, q3, e4, Instr.fill]
    done) h
end
end Go.Proofs.YtpkpkojmaebflaaGreatDoor
namespace Go.Proofs.YtpkpkojmaebflaaGreatDoor
open Go.RowKit
set_option linter.unusedVariables false
set_option linter.unusedSimpArgs false

/-- Where a tree of the call's own lies. -/
structure TreeQ where
  ps : List PNode
  a : Option Addr
  c : Nat
def TreeQ.v (q : TreeQ) : Value := .agg [.slice q.a q.ps.length q.c].toArray
def TreeQ.os (q : TreeQ) : List Own := treeO q.ps q.a q.c
end Go.Proofs.YtpkpkojmaebflaaGreatDoor
namespace Go.Proofs.YtpkpkojmaebflaaGreatDoor
open Go.RowKit
set_option linter.unusedVariables false
set_option linter.unusedSimpArgs false

section
variable {P : Program} {n : Nat} {W : World} {R : Rg W} {L : List Blk} {O : List Own} {E : List Res} {f : List (Nat × Value)} {Q : Exit → Act → World → Prop} {ops : Array Oper} {rest : List Oper} {T : TypeId} {xo yo : Operand} {ty : TypeId} {pos : String} {af : Array Edge} {gd : Option (Nat × Bool)} {g k j c : Nat} {ps : List PNode} {x y : PNode}
theorem SXl.know {φ : Prop} (hφ : ∀ w, Loc W R L O E w → φ) (h : φ → SXl P n W R ops L O E f rest Q) : SXl P n W R ops L O E f rest Q := ⟨fun a w hf hl => (h (hφ w hl)).run a w hf hl⟩
theorem SX.know {φ : Prop} {co : Code} (hφ : ∀ w, Loc W R L O E w → φ) (h : φ → SX P n W R L O E f co Q) : SX P n W R L O E f co Q := ⟨fun a w hf hl => (h (hφ w hl)).run a w hf hl⟩
end
end Go.Proofs.YtpkpkojmaebflaaGreatDoor
namespace Go.Proofs.YtpkpkojmaebflaaGreatDoor
open Go.RowKit
set_option linter.unusedVariables false
set_option linter.unusedSimpArgs false

/-- Operation k comes up: not before; whom it waits for have come; who has come up had its own behind it. -/
structure Adm (ops : Array Oper) (d : Nat → Bool) (k : Nat) : Prop where
  not : d k = false
  pre : ∀ i ∈ reach ops ops.size k, d i = true
  clo : ∀ j, d j = true → ∀ i ∈ reach ops ops.size j, d i = true
def upd (d : Nat → Bool) (k : Nat) : Nat → Bool := fun j => Nat.beq j k || d j
def upx (x : Nat → Value) (k : Nat) (v : Value) : Nat → Value := fun j => bif Nat.beq j k then v else x j
theorem Adm.done {ops : Array Oper} {d : Nat → Bool} {k : Nat} (h : Adm ops d k) (i : Nat) (hi : (reach ops ops.size k).contains i = true) : d i = true := h.pre i (by simpa using hi)
/-- Who waits for k has not come up. -/
theorem Adm.later {ops : Array Oper} {d : Nat → Bool} {k : Nat} (h : Adm ops d k) (j : Nat) (hj : (reach ops ops.size j).contains k = true) : d j = false := by
  cases hq : d j with
  | false => rfl
  | true =>
    have := h.clo j hq k (by simpa using hj)
    rw [h.not] at this
    cases this

/-- The walk in the text's order. d: who has come up; x: what the operations gave, by their number. -/
inductive RG (P : Program) (ops : Array Oper) (S : (Nat → Bool) → (Nat → Value) → World → Prop) (Q : Exit → Act → World → Prop) : Nat → List Oper → ((Nat → Value) → Act) → Prop
  | done {k : Nat} {F : (Nat → Value) → Act} (h : ∀ x w, S (fun i => Nat.blt i k) x w → Q .normal (F x) w) : RG P ops S Q k [] F
  | skip {k : Nat} {o : Oper} {rest : List Oper} {F : (Nat → Value) → Act} (hw : ∀ x, Region.wanted o (yielded ops (F x).tmps) = false) (hs : ∀ d x w, S d x w → S (upd d k) x w)
      (h : RG P ops S Q (k + 1) rest (fun x => (F x).put o.dst undef)) : RG P ops S Q k (o :: rest) F
  | val {k : Nat} {o : Oper} {rest : List Oper} {F : (Nat → Value) → Act} (us : List Nat) (g : (Nat → Value) → Value)
      (hus : (us.all fun i => (reach ops ops.size k).contains i) = true) (hg : ∀ x y, (∀ i ∈ us, x i = y i) → g x = g y)
      (hw : ∀ x, Region.wanted o (yielded ops (F x).tmps) = true)
      (ho : ∀ d x w, Adm ops d k → S d x w → o.wp P (F x) w (fun a' w' => a' = (F x).put o.dst (g x) ∧ S (upd d k) x w') never)
      (h : RG P ops S Q (k + 1) rest (fun x => (F x).put o.dst (g x))) : RG P ops S Q k (o :: rest) F
  | new {k : Nat} {o : Oper} {rest : List Oper} {F : (Nat → Value) → Act}
      (hw : ∀ x, Region.wanted o (yielded ops (F x).tmps) = true)
      (ho : ∀ d x w, Adm ops d k → S d x w → o.wp P (F x) w (fun a' w' => ∃ v, a' = (F x).put o.dst v ∧ S (upd d k) (upx x k v) w') never)
      (h : RG P ops S Q (k + 1) rest (fun x => (F x).put o.dst (x k))) : RG P ops S Q k (o :: rest) F

section
variable {P : Program} {ops : Array Oper} {S : (Nat → Bool) → (Nat → Value) → World → Prop} {Q : Exit → Act → World → Prop}
/-- What the walk says of one operation. -/
def SpecG (P : Program) (ops : Array Oper) (S : (Nat → Bool) → (Nat → Value) → World → Prop) (k : Nat) (o : Oper) (A : (Nat → Value) → Act) (g : (Nat → Value) → Value) : Prop :=
  ((∀ x, Region.wanted o (yielded ops (A x).tmps) = false) ∧ g = (fun _ => undef) ∧ ∀ d x w, S d x w → S (upd d k) x w) ∨
  (∃ us : List Nat, (∀ i ∈ us, i ∈ reach ops ops.size k) ∧ (∀ x y, (∀ i ∈ us, x i = y i) → g x = g y) ∧ (∀ x, Region.wanted o (yielded ops (A x).tmps) = true) ∧
    ∀ d x w, Adm ops d k → S d x w → o.wp P (A x) w (fun a' w' => a' = (A x).put o.dst (g x) ∧ S (upd d k) x w') never) ∨
  (g = (fun x => x k) ∧ (∀ x, Region.wanted o (yielded ops (A x).tmps) = true) ∧
    ∀ d x w, Adm ops d k → S d x w → o.wp P (A x) w (fun a' w' => ∃ v, a' = (A x).put o.dst v ∧ S (upd d k) (upx x k v) w') never)

theorem RG.out {k : Nat} {rest : List Oper} {F : (Nat → Value) → Act} (h : RG P ops S Q k rest F) :
    ∀ (a0 : Act) (G0 : Nat → (Nat → Value) → Value), (∀ j, j < rest.length → rest[j]? = ops[k + j]?) → F = (fun x => frm ops a0 G0 x k) →
    ∃ (G : Nat → (Nat → Value) → Value), (∀ i, i < k → G i = G0 i) ∧
      (∀ i o, k ≤ i → i < k + rest.length → ops[i]? = some o → SpecG P ops S i o (fun x => frm ops a0 G x i) (G i)) ∧
      (∀ x w, S (fun i => Nat.blt i (k + rest.length)) x w → Q .normal (frm ops a0 G x (k + rest.length)) w) := by
  have frmEq : ∀ (a0 : Act) (G G' : Nat → (Nat → Value) → Value) (m : Nat), (∀ i, i < m → G i = G' i) → ∀ x, frm ops a0 G x m = frm ops a0 G' x m := by
    intro a0 G G' m
    induction m with
    | zero => intro _ _; rfl
    | succ m ih => intro hG x; simp only [frm]; rw [ih (fun i hi => hG i (by omega)) x, hG m (by omega)]
  have more : ∀ (k : Nat) (o : Oper) (rest : List Oper) (g : (Nat → Value) → Value) (a0 : Act) (G0 : Nat → (Nat → Value) → Value),
      (∀ j, j < (o :: rest).length → (o :: rest)[j]? = ops[k + j]?) → SpecG P ops S k o (fun x => frm ops a0 G0 x k) g →
      (∀ (a1 : Act) (G1 : Nat → (Nat → Value) → Value), (∀ j, j < rest.length → rest[j]? = ops[k + 1 + j]?) → (fun x => (frm ops a0 G0 x k).put o.dst (g x)) = (fun x => frm ops a1 G1 x (k + 1)) →
        ∃ (G : Nat → (Nat → Value) → Value), (∀ i, i < k + 1 → G i = G1 i) ∧
          (∀ i o, k + 1 ≤ i → i < k + 1 + rest.length → ops[i]? = some o → SpecG P ops S i o (fun x => frm ops a1 G x i) (G i)) ∧
          (∀ x w, S (fun i => Nat.blt i (k + 1 + rest.length)) x w → Q .normal (frm ops a1 G x (k + 1 + rest.length)) w)) →
      ∃ (G : Nat → (Nat → Value) → Value), (∀ i, i < k → G i = G0 i) ∧
        (∀ i o', k ≤ i → i < k + (o :: rest).length → ops[i]? = some o' → SpecG P ops S i o' (fun x => frm ops a0 G x i) (G i)) ∧
        (∀ x w, S (fun i => Nat.blt i (k + (o :: rest).length)) x w → Q .normal (frm ops a0 G x (k + (o :: rest).length)) w) := by
    intro k o rest g a0 G0 hr hsp ih
    have ho : ops[k]? = some o := by simpa using (hr 0 (by simp)).symm
    have hd : dstOf ops k = o.dst := by simp [dstOf, ho]
    let G1 : Nat → (Nat → Value) → Value := fun i => if i = k then g else G0 i
    have g1 : ∀ i, i < k → G1 i = G0 i := fun i hi => if_neg (by omega)
    have gk : G1 k = g := if_pos rfl
    obtain ⟨G, e1, e2, e3⟩ := ih a0 G1 (fun j hj => by have := hr (j + 1) (by simp; omega); simpa [Nat.add_assoc, Nat.add_comm 1 j] using this)
      (by funext x; simp only [frm, gk, hd]; rw [frmEq a0 G1 G0 k g1 x])
    refine ⟨G, fun i hi => (e1 i (by omega)).trans (g1 i hi), fun i o' hi hlt ho' => ?_, by simpa [Nat.add_assoc, Nat.add_comm 1] using e3⟩
    by_cases e : i = k
    · subst e
      obtain rfl : o = o' := by rw [ho] at ho'; simpa using ho'
      have fe := frmEq a0 G G0 i (fun j hj => (e1 j (by omega)).trans (g1 j hj))
      have ge : G i = g := (e1 i (by omega)).trans gk
      rw [ge, show (fun x => frm ops a0 G x i) = fun x => frm ops a0 G0 x i from funext fe]
      exact hsp
    · exact e2 i o' (by omega) (by simp only [List.length_cons] at hlt; omega) ho'
  induction h with
  | @done k F h =>
    intro a0 G0 hr hF
    subst hF
    exact ⟨G0, fun i _ => rfl, fun i o hi hlt ho => by simp at hlt; omega, h⟩
  | @skip k o rest F hw hs h ih =>
    intro a0 G0 hr hF
    subst hF
    exact more k o rest (fun _ => undef) a0 G0 hr (.inl ⟨hw, rfl, hs⟩) ih
  | @val k o rest F us g hus hg hw hop h ih =>
    intro a0 G0 hr hF
    subst hF
    exact more k o rest g a0 G0 hr (.inr (.inl ⟨us, contains_all hus, hg, hw, hop⟩)) ih
  | @new k o rest F hw hop h ih =>
    intro a0 G0 hr hF
    subst hF
    exact more k o rest (fun x => x k) a0 G0 hr (.inr (.inr ⟨rfl, hw, hop⟩)) ih

/-- WHATEVER ORDER of the first n: the walk in the text's order serves; behind them the rest goes in its own order. -/
theorem RG.any {n : Nat} {a0 : Act} {w0 : World} (hc : regOkTo n ops = true) (ht : n = ops.size ∨ tailOk ops n = true) (h : RG P ops S (fun _ a w => wpList P ops Q (ops.toList.drop n) a w) 0 (ops.toList.take n) (fun _ => a0)) (hS : S (fun _ => false) (fun _ => undef) w0) :
    wpAny P .any ops Q ops.size (Array.replicate ops.size false) a0 w0 := by
  obtain ⟨c1, c2, c3, c4⟩ := regOk_spec hc
  have hnle : n ≤ ops.size := by
    rcases ht with rfl | ht
    · exact Nat.le_refl _
    · simp only [tailOk, Bool.and_eq_true, decide_eq_true_eq] at ht
      omega
  have htn : 0 + (ops.toList.take n).length = n := by simp; omega
  obtain ⟨G, _, hspec, hfin⟩ := h.out a0 (fun _ _ => undef) (fun j hj => by
    have hj' : j < n := by omega
    simp [hj']) rfl
  rw [htn] at hfin
  have gdep : ∀ i o, i < n → ops[i]? = some o → ∀ x y, (∀ j, (j ∈ reach ops ops.size i ∨ j = i) → x j = y j) → G i x = G i y := fun i o hin ho x y hxy => by
    have hs := hspec i o (Nat.zero_le _) (by rw [htn]; exact hin) ho
    rcases hs with ⟨_, hg, _⟩ | ⟨us, hus, hg, _⟩ | ⟨hg, _⟩
    · rw [hg]
    · exact hg x y fun j hj => hxy j (.inl (hus j hj))
    · rw [hg]; show x i = y i; rw [hxy i (.inr rfl)]
  have main : ∀ (fuel : Nat) (listed : Array Bool) (a : Act) (w : World) (x : Nat → Value), listed.size = ops.size → (unlistedTo n listed).length = fuel →
      (∀ i, listed.getD i false = true → ∀ o, ops[i]? = some o → ∀ e ∈ o.after, Region.binds .any e = true → listed.getD e.on false = true) →
      (∀ t, n ≤ t → t < ops.size → listed.getD t true = false) →
      Laid ops a0 G x (fun i => listed.getD i false = true) a → S (fun i => listed.getD i false) x w → wpAny P .any ops Q (fuel + (ops.size - n)) listed a w := by
    intro fuel
    induction fuel with
    | zero =>
      intro listed a w x hsz hfu hcl htl hla hSw
      have hall : ∀ i, i < n → listed.getD i false = true := fun i hi => by
        have h0 : unlistedTo n listed = [] := List.eq_nil_of_length_eq_zero hfu
        by_cases hn' : listed.getD i false = true
        · exact hn'
        · have : i ∈ unlistedTo n listed := by
            unfold unlistedTo
            rw [List.mem_filter, List.mem_range]
            have hi' : i < listed.size := by omega
            simp only [Array.getD_eq_getD_getElem?, Array.getElem?_eq_getElem hi', Option.getD_some, Bool.not_eq_true] at hn' ⊢
            exact ⟨hi, by rw [hn']; rfl⟩
          rw [h0] at this; simp at this
      have hon : ∀ i, listed.getD i false = true → i < n := fun i hi => by
        by_cases h : i < n
        · exact h
        · by_cases h2 : i < ops.size
          · have := getD_both (htl i (Nat.le_of_not_lt h) h2)
            rw [this] at hi; cases hi
          · rw [Array.getD_eq_getD_getElem?, Array.getElem?_eq_none (by omega)] at hi; cases hi
      have eL : listed = headDone n ops.size := by
        have hds : (headDone n ops.size).size = ops.size := by simp [headDone]; omega
        apply Array.ext (by rw [hds, hsz])
        intro i h1 h2
        have e1 : listed.getD i false = listed[i] := by simp [h1]
        by_cases hi : i < n
        · have := hall i hi
          rw [e1] at this
          rw [this]
          simp [headDone, hi]
        · have := getD_both (htl i (Nat.le_of_not_lt hi) (by omega))
          rw [e1] at this
          rw [this]
          simp [headDone, Array.getElem_append, hi]
      have e : a = frm ops a0 G x n := by
        have hb := laid_frm hc a0 G x n (by omega)
        have ht : a.tmps = (frm ops a0 G x n).tmps := by
          apply Array.ext_getElem?
          intro t
          by_cases hs : t < a0.tmps.size
          · by_cases he : ∃ i, i < n ∧ dstOf ops i = some t
            · obtain ⟨i, hin, hi⟩ := he
              rw [hla.on i t (hall i hin) hi hs, hb.on i t hin hi hs]
            · rw [hla.off t (fun i hli hi => he ⟨i, hon i hli, hi⟩), hb.off t (fun i hin hi => he ⟨i, hin, hi⟩)]
          · rw [Array.getElem?_eq_none (by rw [hla.size]; exact Nat.le_of_not_lt hs), Array.getElem?_eq_none (by rw [hb.size]; exact Nat.le_of_not_lt hs)]
        have hd : a.defers = (frm ops a0 G x n).defers := hla.defers.trans hb.defers.symm
        cases a; cases hf : frm ops a0 G x n
        rw [hf] at ht hd
        simp only at ht hd
        rw [ht, hd]
      have hlen : (ops.toList.drop n).length = ops.size - n := by simp
      have ed : (fun i => listed.getD i false) = fun i => Nat.blt i n := by
        funext i
        by_cases hi : i < n
        · rw [hall i hi]
          exact (show Nat.blt i n = true by simpa using hi).symm
        · have h1 : listed.getD i false = false := by
            cases hq : listed.getD i false with
            | false => rfl
            | true => exact (hi (hon i hq)).elim
          rw [h1]
          cases hq : Nat.blt i n with
          | false => rfl
          | true => exact (hi (by simpa using hq)).elim
      have hw := hfin x w (ed ▸ hSw)
      rw [← e] at hw
      rcases ht with rfl | ht
      · have e0 : ops.toList.drop ops.size = [] := List.drop_eq_nil_of_le (by simp)
        rw [e0] at hw
        rw [Nat.zero_add, Nat.sub_self]
        refine ⟨?_, hw⟩
        cases hr : Region.ready .any ops listed with
        | nil => rfl
        | cons i rest =>
          have hi : i ∈ Region.ready .any ops listed := by rw [hr]; exact List.mem_cons_self
          obtain ⟨h1, o, ho, _⟩ := mem_ready.1 hi
          have hlt := (Array.getElem?_eq_some_iff.1 ho).1
          have h2 := hall i hlt
          have hi' : i < listed.size := by omega
          simp only [Array.getD_eq_getD_getElem?, Array.getElem?_eq_getElem hi', Option.getD_some] at h1 h2
          rw [h1] at h2; cases h2
      · simp only [tailOk, Bool.and_eq_true, decide_eq_true_eq] at ht
        obtain ⟨⟨⟨hn, hs1⟩, hs2⟩, hs3⟩ := ht
        have := wpAny_of_seq (md := .any) (ops.toList.drop n) n listed a w (fun j => by simp [List.getElem?_drop]) (by rw [hlen, eL]; exact hs3) hw
        rw [hlen] at this
        rw [Nat.zero_add]
        exact this
    | succ fuel ih =>
      intro listed a w x hsz hfu hcl htl hla hSw
      have inv : HeadInv .any ops n listed := ⟨hsz, fun j oj hj hl e he hb => hcl j hl oj hj e he hb, htl⟩
      obtain ⟨j0, hj0⟩ : ∃ j0, j0 < n ∧ listed.getD j0 true = false := by
        cases hu : unlistedTo n listed with
        | nil => rw [hu] at hfu; cases hfu
        | cons j r =>
          have : j ∈ unlistedTo n listed := by rw [hu]; exact List.mem_cons_self
          unfold unlistedTo at this
          rw [List.mem_filter, List.mem_range] at this
          exact ⟨j, this.1, by simpa using this.2⟩
      have lt_of_listed : ∀ j, listed.getD j false = true → j < n := fun i hi => by
        by_cases h : i < n
        · exact h
        · by_cases h2 : i < ops.size
          · have := getD_both (htl i (Nat.le_of_not_lt h) h2)
            rw [this] at hi; cases hi
          · rw [Array.getD_eq_getD_getElem?, Array.getElem?_eq_none (by omega)] at hi; cases hi
      -- an operation that comes up
      have step : ∀ i ∈ Region.ready .any ops listed, wpOp P ops Q i (wpAny P .any ops Q (fuel + (ops.size - n)) (listed.setIfInBounds i true)) a w := by
        intro i hi
        have hin : i < n := by
          by_cases h : i < n
          · exact h
          · rcases ht with rfl | ht
            · obtain ⟨_, o, ho, _⟩ := mem_ready.1 hi
              exact (Array.getElem?_eq_some_iff.1 ho).1
            · simp only [tailOk, Bool.and_eq_true, decide_eq_true_eq] at ht
              obtain ⟨⟨⟨hn, hs1⟩, hs2⟩, hs3⟩ := ht
              exact (tail_waits hs1 hs2 hn inv (n - j0) j0 rfl hj0.1 hj0.2 i (Nat.le_of_not_lt h) hi).elim
        obtain ⟨h1, o, ho, h2⟩ := mem_ready.1 hi
        have hlt := (Array.getElem?_eq_some_iff.1 ho).1
        have hli : i < listed.size := by omega
        have hun : listed.getD i false = false := by
          simp only [Array.getD_eq_getD_getElem?, Array.getElem?_eq_getElem hli, Option.getD_some] at h1 ⊢
          exact h1
        have hd : dstOf ops i = o.dst := by simp [dstOf, ho]
        have hset : ∀ j, (listed.setIfInBounds i true).getD j false = true ↔ listed.getD j false = true ∨ j = i := fun j => by
          by_cases e : i = j
          · subst e; simp [hli]
          · rw [getD_set_ne false e]
            exact ⟨.inl, fun h => h.elim id fun h => (e h.symm).elim⟩
        have hcl' : ∀ j, (listed.setIfInBounds i true).getD j false = true → ∀ p, ops[j]? = some p → ∀ e ∈ p.after, Region.binds .any e = true → (listed.setIfInBounds i true).getD e.on false = true := fun j hj p hp e he hb => by
          rw [hset] at hj ⊢
          rcases hj with hj | rfl
          · exact .inl (hcl j hj p hp e he hb)
          · obtain rfl : o = p := by rw [ho] at hp; simpa using hp
            exact .inl (h2 e he hb)
        have hsz' : (listed.setIfInBounds i true).size = ops.size := by simpa using hsz
        have hfu' : (unlistedTo n (listed.setIfInBounds i true)).length = fuel := by
          have e : unlistedTo n (listed.setIfInBounds i true) = (unlistedTo n listed).erase i := by
            unfold unlistedTo
            rw [List.Nodup.erase_eq_filter (List.nodup_range.filter _), List.filter_filter]
            refine List.filter_congr fun j _ => ?_
            by_cases hj : i = j
            · subst hj; simp [hli]
            · rw [getD_set_ne true hj]; simp [Ne.symm hj]
          rw [e, List.length_erase_of_mem, hfu]
          · rfl
          · unfold unlistedTo
            rw [List.mem_filter, List.mem_range]
            exact ⟨hin, by rw [h1]; rfl⟩
        have htl' : ∀ t, n ≤ t → t < ops.size → (listed.setIfInBounds i true).getD t true = false := fun t ht ht' => by rw [getD_set_ne true (by omega)]; exact htl t ht ht'
        have hself : ∀ t ∈ o.looksAt ops, (∃ j, dstOf ops j = some t ∧ listed.getD j false = true ∧ j < i) ∨ ∀ j, dstOf ops j = some t → ¬ listed.getD j false = true ∧ ¬ j < i := fun t ht => by
          by_cases hex : ∃ j, j < n ∧ dstOf ops j = some t
          · obtain ⟨j, hjn, hj⟩ := hex
            obtain ⟨p, hp, hpt⟩ := Option.bind_eq_some_iff.1 hj
            obtain ⟨e, he, hb, rfl⟩ := c4 i j o p t hin hjn ho hp hpt ht
            exact .inl ⟨e.on, hj, h2 e he hb, c2 i o ho e he hb⟩
          · exact .inr fun j hj => ⟨fun hl => hex ⟨j, lt_of_listed j hl, hj⟩, fun hl => hex ⟨j, by omega, hj⟩⟩
        have hreach : ∀ j ∈ reach ops ops.size i, listed.getD j false = true :=
          reach_listed (L := fun j => listed.getD j false = true) hcl ops.size i (fun p hp e he hb => by
            obtain rfl : o = p := by rw [ho] at hp; simpa using hp
            exact h2 e he hb)
        have hdist : ∀ j t, listed.getD j false = true → dstOf ops j = some t → dstOf ops i = some t → j = i := fun j t _ hj hi' => by
          obtain ⟨p, hp, hpt⟩ := Option.bind_eq_some_iff.1 hj
          obtain ⟨q, hq, hqt⟩ := Option.bind_eq_some_iff.1 hi'
          exact c3 j i p q t (lt_of_listed j ‹_›) hin hp hq hqt hpt
        have hsel : ∀ cs c, o.op ≠ .select cs c := fun cs c => Region.noSelect_spec c1 i o cs c ho
        have hfr := laid_frm hc a0 G x i (by omega)
        obtain ⟨he, hwa⟩ := Laid.same hla hfr hsel hself
        have hlaid' : Laid ops a0 G x (fun j => (listed.setIfInBounds i true).getD j false = true) (a.put o.dst (G i x)) := by
          have := hla.put i hdist
          rw [hd] at this
          have e : (fun j => listed.getD j false = true ∨ j = i) = fun j => (listed.setIfInBounds i true).getD j false = true := funext fun j => propext (hset j).symm
          rwa [e] at this
        have hs := hspec i o (Nat.zero_le _) (by rw [htn]; omega) ho
        have adm : Adm ops (fun j => listed.getD j false) i := ⟨hun, hreach, fun j hj => reach_listed (L := fun j => listed.getD j false = true) hcl ops.size j (fun q hq e he hb => hcl j hj q hq e he hb)⟩
        have hupd : (fun j => (listed.setIfInBounds i true).getD j false) = upd (fun j => listed.getD j false) i := by
          funext j
          by_cases e : j = i
          · subst e
            rw [(hset j).2 (.inr rfl)]
            simp [upd]
          · rw [getD_set_ne false (fun h => e h.symm)]
            have e' : Nat.beq j i = false := Bool.eq_false_iff.2 fun h => e (Nat.eq_of_beq_eq_true h)
            simp [upd, e']
        unfold wpOp
        simp only [ho]
        rcases hs with ⟨hw, hg, hsk⟩ | ⟨us, hus, _, hw, hop⟩ | ⟨hg, hw, hop⟩
        · rw [hwa, hw x]
          simp only [Bool.false_eq_true, if_false]
          have hgu : G i x = undef := by rw [hg]
          rw [hgu] at hlaid'
          exact ih _ _ w x hsz' hfu' hcl' htl' hlaid' (by rw [hupd]; exact hsk _ _ _ hSw)
        · rw [hwa, hw x]
          simp only [if_true]
          refine .inl (Oper.wp_mono ?_ (upon_transfer (R := fun v w' => v = G i x ∧ S (upd (fun j => listed.getD j false) i) x w') (b := frm ops a0 G x i) (by rw [hla.size, hfr.size]) he ?_))
          · rintro a' w' ⟨v, rfl, rfl, hS'⟩
            exact ih _ _ w' x hsz' hfu' hcl' htl' hlaid' (by rw [hupd]; exact hS')
          · refine Oper.wp_mono ?_ (hop _ x w adm hSw)
            rintro a' w' ⟨h1, h2⟩
            exact ⟨_, h1, rfl, h2⟩
        · rw [hwa, hw x]
          simp only [if_true]
          refine .inl (Oper.wp_mono ?_ (upon_transfer (R := fun v w' => S (upd (fun j => listed.getD j false) i) (upx x i v) w') (b := frm ops a0 G x i) (by rw [hla.size, hfr.size]) he ?_))
          · rintro a' w' ⟨v, rfl, hS'⟩
            have yi : upx x i v i = v := by simp [upx]
            have yo : ∀ j, j ≠ i → upx x i v j = x j := fun j hj => by
              have e' : Nat.beq j i = false := Bool.eq_false_iff.2 fun h => hj (Nat.eq_of_beq_eq_true h)
              simp [upx, e']
            have hGy : ∀ j, listed.getD j false = true → ∀ p, ops[j]? = some p → G j (upx x i v) = G j x := fun j hj p hp => by
              refine gdep j p (lt_of_listed j hj) hp (upx x i v) x fun m hm => yo m fun e => ?_
              subst e
              rcases hm with hm | rfl
              · have := reach_listed (L := fun j => listed.getD j false = true) hcl ops.size j (fun q hq e he hb => hcl j hj q hq e he hb) m hm
                rw [this] at hun; cases hun
              · rw [hj] at hun; cases hun
            have hla' : Laid ops a0 G (upx x i v) (fun j => listed.getD j false = true) a := by
              refine ⟨hla.defers, hla.size, fun j t hj ht hs => ?_, hla.off⟩
              obtain ⟨p, hp, _⟩ := Option.bind_eq_some_iff.1 ht
              rw [hGy j hj p hp]
              exact hla.on j t hj ht hs
            have hlaid2 : Laid ops a0 G (upx x i v) (fun j => (listed.setIfInBounds i true).getD j false = true) (a.put o.dst v) := by
              have := hla'.put i hdist
              rw [hd, show G i (upx x i v) = v by rw [hg]; exact yi] at this
              have e : (fun j => listed.getD j false = true ∨ j = i) = fun j => (listed.setIfInBounds i true).getD j false = true := funext fun j => propext (hset j).symm
              rwa [e] at this
            exact ih _ _ w' (upx x i v) hsz' hfu' hcl' htl' hlaid2 (by rw [hupd]; exact hS')
          · refine Oper.wp_mono ?_ (hop _ x w adm hSw)
            rintro a' w' ⟨v, h1, h2⟩
            exact ⟨v, h1, h2⟩
      rw [show fuel + 1 + (ops.size - n) = (fuel + (ops.size - n)) + 1 by omega]
      refine ⟨fun hr => ?_, step⟩
      exfalso
      have hall : ∀ i, i < ops.size → listed.getD i false = true := by
        intro i
        induction i using Nat.strongRecOn with
        | _ i ihi =>
          intro hi
          by_cases hn : listed.getD i false = true
          · exact hn
          · have hli : i < listed.size := by omega
            have : i ∈ Region.ready .any ops listed := mem_ready.2 ⟨by
                simp only [Array.getD_eq_getD_getElem?, Array.getElem?_eq_getElem hli, Option.getD_some, Bool.not_eq_true] at hn ⊢
                exact hn, ops[i], Array.getElem?_eq_getElem hi, fun e he hb => ihi e.on (c2 i _ (Array.getElem?_eq_getElem hi) e he hb) (by have := c2 i _ (Array.getElem?_eq_getElem hi) e he hb; omega)⟩
            rw [hr] at this; simp at this
      have h1 := hall j0 (by omega)
      rw [getD_both hj0.2] at h1
      cases h1
  have hcount : (unlistedTo n (Array.replicate ops.size false)).length = n := by
    unfold unlistedTo
    rw [List.filter_eq_self.2, List.length_range]
    intro i hi
    have hi' : i < ops.size := by have := List.mem_range.1 hi; omega
    simp [hi']
  have := main n _ a0 w0 (fun _ => undef) (by simp) hcount (fun i hi => ?_) (fun t _ ht => getD_in (by simpa using ht) (getD_replicate_false _ _)) ⟨rfl, rfl, fun i t hi => ?_, fun _ _ => rfl⟩ (by rw [show (fun i => (Array.replicate ops.size false).getD i false) = fun _ => false from funext fun i => getD_replicate_false _ _]; exact hS)
  · rwa [show n + (ops.size - n) = ops.size by omega] at this
  all_goals
    exfalso
    rw [getD_replicate_false] at hi
    cases hi

theorem wp_region_rg {id : Nat} {a : Act} {w : World} (n : Nat) (S : (Nat → Bool) → (Nat → Value) → World → Prop) (hm : P.follows .mixedOrders = true) (hc : regOkTo n ops = true) (ht : n = ops.size ∨ tailOk ops n = true) (hS : S (fun _ => false) (fun _ => undef) w.drew)
    (h : RG P ops S (fun _ a w => wpList P ops Q (ops.toList.drop n) a w) 0 (ops.toList.take n) (fun _ => a)) : (Code.region id ops true).wp P Q a w :=
  wp_region_any hm (RG.any hc ht h hS)
end
end Go.Proofs.YtpkpkojmaebflaaGreatDoor
namespace Go.Proofs.YtpkpkojmaebflaaGreatDoor
open Go.RowKit
set_option linter.unusedVariables false
set_option linter.unusedSimpArgs false

/-- The number of an int. -/
def intOf : Value → Int
  | .int _ n => n
  | _ => 0
/-- What is known of the values of operations that have come up. -/
def Kall {ζ : Type} : List (Nat × (ζ → Value → Prop)) → (Nat → Bool) → (Nat → Value) → ζ → Prop
  | [], _, _, _ => True
  | e :: l, d, x, p => (d e.1 = true → e.2 p (x e.1)) ∧ Kall l d x p
def Sg {ζ : Type} (W : World) (R : Rg W) (Ld : (Nat → Bool) → ζ → List Blk) (Od : (Nat → Bool) → ζ → List Own) (Ed : (Nat → Bool) → ζ → List Res) (Ks : List (Nat × (ζ → Value → Prop))) (d : Nat → Bool) (x : Nat → Value) (w : World) : Prop :=
  ∃ p, Loc W R (Ld d p) (Od d p) (Ed d p) w ∧ Kall Ks d x p
theorem kall_none {ζ : Type} (x : Nat → Value) (p : ζ) : ∀ Ks : List (Nat × (ζ → Value → Prop)), Kall Ks (fun _ => false) x p
  | [] => trivial
  | _ :: l => ⟨fun h => (Bool.false_ne_true h).elim, kall_none x p l⟩
theorem kall_other {ζ : Type} {d : Nat → Bool} {x : Nat → Value} {p : ζ} {k : Nat} : ∀ {Ks : List (Nat × (ζ → Value → Prop))}, (Ks.all fun e => !Nat.beq e.1 k) = true → Kall Ks d x p → Kall Ks (upd d k) x p
  | [], _, _ => trivial
  | e :: l, h, hk => by
    rw [List.all_cons, Bool.and_eq_true] at h
    refine ⟨fun hd => hk.1 ?_, kall_other h.2 hk.2⟩
    have h1 : Nat.beq e.1 k = false := by simpa using h.1
    unfold upd at hd
    rw [h1] at hd
    simpa using hd
structure SXg {ζ : Type} (P : Program) (n : Nat) (W : World) (R : Rg W) (ops : Array Oper) (Ld : (Nat → Bool) → ζ → List Blk) (Od : (Nat → Bool) → ζ → List Own) (Ed : (Nat → Bool) → ζ → List Res) (Ks : List (Nat × (ζ → Value → Prop))) (k : Nat) (f : (Nat → Value) → List (Nat × Value)) (l : List Oper) (Q : Exit → Act → World → Prop) : Prop where
  run : ∀ F : (Nat → Value) → Act, (∀ x, Fr n (f x) (F x)) → RG P ops (Sg W R Ld Od Ed Ks) Q k l F
/-- What an operation leaves. -/
def PostG {ζ : Type} (W : World) (R : Rg W) (Ld : (Nat → Bool) → ζ → List Blk) (Od : (Nat → Bool) → ζ → List Own) (Ed : (Nat → Bool) → ζ → List Res) (Ks : List (Nat × (ζ → Value → Prop))) (d : Nat → Bool) (k : Nat) (x : Nat → Value) (dst : Option Tmp) (e : Exit) (a : Act) (w : World) : Prop :=
  e = .normal ∧ a.defers = [] ∧ ∃ (p : ζ) (v : Value), (∀ dd, dst = some dd → a.tmps[dd]? = some v) ∧ Loc W R (Ld (upd d k) p) (Od (upd d k) p) (Ed (upd d k) p) w ∧ Kall Ks (upd d k) (upx x k v) p

theorem wp_of_list {P : Program} {ops : Array Oper} {o : Oper} {a : Act} {w : World} {K : Act → World → Prop} (hd : a.defers = []) (hw : Region.wanted o (yielded ops a.tmps) = true)
    (h : wpList P ops (fun e a' w' => e = .normal ∧ a'.defers = [] ∧ K a' w') [o] a w) : o.wp P a w (fun a' w' => ∃ v, a' = a.put o.dst v ∧ K a' w') never := by
  unfold wpList at h
  rw [if_pos hw] at h
  rcases h with h | ⟨_, _, _, h, _⟩
  · unfold Oper.wp at *
    generalize (execOp a.eval o).run P w = r at *
    cases r with
    | ok n w' =>
      cases n <;> simp only [Oper.upon, wpList] at h ⊢
      case value v => exact ⟨v, rfl, h.2.2⟩
      case skip => exact ⟨undef, rfl, h.2.2⟩
      case defer d =>
        have h1 := h.2.1
        rw [put_defers'] at h1
        cases h1
      case enter f args =>
        refine Calls.mono h fun e w'' he => ?_
        cases e with
        | returned u => exact ⟨u, rfl, he.2.2⟩
        | panicked c => exact absurd he.1 (by simp)
        | outgrown => obtain ⟨_, _, hf, _⟩ := he; exact absurd hf (by simp)
      case row row args => exact Rows.mono h fun u w'' he => ⟨u, rfl, he.2.2⟩
    | halt x w' =>
      cases x <;> simp only [Oper.upon, never] at h ⊢
      exact absurd h.1 (by simp)
  · exact absurd h (by simp)

section
variable {ζ : Type} {P : Program} {n : Nat} {W : World} {R : Rg W} {L L' : List Blk} {O O' : List Own} {E E' : List Res} {Ld : (Nat → Bool) → ζ → List Blk} {Od : (Nat → Bool) → ζ → List Own} {Ed : (Nat → Bool) → ζ → List Res} {Ks : List (Nat × (ζ → Value → Prop))} {f : (Nat → Value) → List (Nat × Value)} {f0 : List (Nat × Value)} {Q : Exit → Act → World → Prop} {ops : Array Oper} {rest : List Oper} {k : Nat}
theorem SX.drawnG {id : Nat} {l : List Oper} (m : Nat) (Ld : (Nat → Bool) → ζ → List Blk) (Od : (Nat → Bool) → ζ → List Own) (Ed : (Nat → Bool) → ζ → List Res) (Ks : List (Nat × (ζ → Value → Prop))) (p0 : ζ) (hm : P.follows .mixedOrders = true) (hc : regOkTo m l.toArray = true) (ht : (Nat.beq m l.toArray.size || tailOk l.toArray m) = true)
    (h0 : Ld (fun _ => false) p0 = L ∧ Od (fun _ => false) p0 = O ∧ Ed (fun _ => false) p0 = E)
    (h : SXg P n W R l.toArray Ld Od Ed Ks 0 (fun _ => f0) (l.take m) (fun _ a w => wpList P l.toArray Q (l.drop m) a w)) : SX P n W R L O E f0 (.region id l.toArray true) Q := ⟨fun a w hf hl => by
  refine wp_region_rg m (Sg W R Ld Od Ed Ks) hm hc ?_ ⟨p0, ?_, kall_none _ _ _⟩ (h.run _ fun _ => hf)
  · rcases Bool.or_eq_true_iff.1 ht with h1 | h1
    · exact .inl (Nat.eq_of_beq_eq_true h1)
    · exact .inr h1
  · rw [h0.1, h0.2.1, h0.2.2]
    exact hl.keep ((Mod.refl _ w).drew)⟩
theorem SXg.v {o : Oper} {d : Nat} (us : List Nat) (v : (Nat → Value) → Value) (hus : (us.all fun i => (reach ops ops.size k).contains i) = true) (hv : ∀ x y : Nat → Value, (∀ i ∈ us, x i = y i) → v x = v y)
    (hr : ∀ dn x p, Adm ops dn k → Kall Ks dn x p → OpW P n W R (Ld dn p) (Od dn p) (Ed dn p) (f x) o (v x)) (hdst : o.dst = some d) (hw : ∀ x, wantO ops (f x) o = some true) (hd : Nat.blt d n = true)
    (hs : ∀ dn p, Ld (upd dn k) p = Ld dn p ∧ Od (upd dn k) p = Od dn p ∧ Ed (upd dn k) p = Ed dn p) (hk : (Ks.all fun e => !Nat.beq e.1 k) = true)
    (h : SXg P n W R ops Ld Od Ed Ks (k + 1) (fun x => (d, v x) :: f x) rest Q) : SXg P n W R ops Ld Od Ed Ks k f (o :: rest) Q := ⟨fun F hF =>
  RG.val us v hus hv (fun x => wanted_of (hF x) (hw x)) (fun dn x w ha ⟨p, hl, hK⟩ => wp_never ((hr dn x p ha hK).run _ w (hF x) hl) fun _ _ ⟨h1, h2⟩ => ⟨h1, p, by rw [(hs dn p).1, (hs dn p).2.1, (hs dn p).2.2]; exact hl.keep h2, kall_other hk hK⟩)
    (by rw [hdst]; exact h.run _ fun x => (hF x).put hd (v x))⟩
/-- A value that hangs on no other. -/
theorem SXg.v0 {o : Oper} {d : Nat} {v : Value} (hr : ∀ dn x p, Adm ops dn k → Kall Ks dn x p → OpW P n W R (Ld dn p) (Od dn p) (Ed dn p) (f x) o v) (hdst : o.dst = some d) (hw : ∀ x, wantO ops (f x) o = some true) (hd : Nat.blt d n = true)
    (hs : ∀ dn p, Ld (upd dn k) p = Ld dn p ∧ Od (upd dn k) p = Od dn p ∧ Ed (upd dn k) p = Ed dn p) (hk : (Ks.all fun e => !Nat.beq e.1 k) = true)
    (h : SXg P n W R ops Ld Od Ed Ks (k + 1) (fun x => (d, v) :: f x) rest Q) : SXg P n W R ops Ld Od Ed Ks k f (o :: rest) Q :=
  SXg.v [] (fun _ => v) rfl (fun _ _ _ => rfl) hr hdst hw hd hs hk h
theorem SXg.no {o : Oper} {d : Nat} (hw : ∀ x, wantO ops (f x) o = some false) (hdst : o.dst = some d) (hd : Nat.blt d n = true)
    (hs : ∀ dn p, Ld (upd dn k) p = Ld dn p ∧ Od (upd dn k) p = Od dn p ∧ Ed (upd dn k) p = Ed dn p) (hk : (Ks.all fun e => !Nat.beq e.1 k) = true)
    (h : SXg P n W R ops Ld Od Ed Ks (k + 1) (fun x => (d, undef) :: f x) rest Q) : SXg P n W R ops Ld Od Ed Ks k f (o :: rest) Q := ⟨fun F hF =>
  RG.skip (fun x => wanted_of (hF x) (hw x)) (fun dn x w ⟨p, hl, hK⟩ => ⟨p, by rw [(hs dn p).1, (hs dn p).2.1, (hs dn p).2.2]; exact hl, kall_other hk hK⟩) (by rw [hdst]; exact h.run _ fun x => (hF x).put hd undef)⟩
/-- Any operation, by its rule outside regions. -/
theorem SXg.l {o : Oper} {d : Nat} (hdst : o.dst = some d) (hw : ∀ x, wantO ops (f x) o = some true) (hd : Nat.blt d n = true)
    (hr : ∀ dn x p, Adm ops dn k → Kall Ks dn x p → SXl P n W R ops (Ld dn p) (Od dn p) (Ed dn p) (f x) [o] (PostG W R Ld Od Ed Ks dn k x (some d)))
    (h : SXg P n W R ops Ld Od Ed Ks (k + 1) (fun x => (d, x k) :: f x) rest Q) : SXg P n W R ops Ld Od Ed Ks k f (o :: rest) Q := ⟨fun F hF =>
  RG.new (fun x => wanted_of (hF x) (hw x)) (fun dn x w ha ⟨p, hl, hK⟩ => by
    have h1 := wp_of_list (hF x).defers (wanted_of (hF x) (hw x)) ((hr dn x p ha hK).run _ w (hF x) hl)
    refine Oper.wp_mono ?_ h1
    rintro a' w' ⟨v, rfl, p', v', hv, h2, h3⟩
    have e := hv d rfl
    rw [hdst] at e
    rw [put_at _ d v (Nat.lt_of_lt_of_le (by simpa using hd) (hF x).size)] at e
    obtain rfl := Option.some.inj e
    exact ⟨v, rfl, p', h2, h3⟩) (by rw [hdst]; exact h.run _ fun x => (hF x).put hd _)⟩
/-- An operation that nobody takes a value from. -/
theorem SXg.s {o : Oper} (hdst : o.dst = none) (hw : ∀ x, wantO ops (f x) o = some true)
    (hr : ∀ dn x p, Adm ops dn k → Kall Ks dn x p → SXl P n W R ops (Ld dn p) (Od dn p) (Ed dn p) (f x) [o] (PostG W R Ld Od Ed Ks dn k x none)) (hk : (Ks.all fun e => !Nat.beq e.1 k) = true)
    (h : SXg P n W R ops Ld Od Ed Ks (k + 1) f rest Q) : SXg P n W R ops Ld Od Ed Ks k f (o :: rest) Q := ⟨fun F hF =>
  RG.new (fun x => wanted_of (hF x) (hw x)) (fun dn x w ha ⟨p, hl, hK⟩ => by
    have h1 := wp_of_list (hF x).defers (wanted_of (hF x) (hw x)) ((hr dn x p ha hK).run _ w (hF x) hl)
    refine Oper.wp_mono ?_ h1
    rintro a' w' ⟨v, rfl, p', v', _, h2, h3⟩
    refine ⟨v, rfl, p', h2, ?_⟩
    have other : ∀ (Ks : List (Nat × (ζ → Value → Prop))) (v v' : Value), (Ks.all fun e => !Nat.beq e.1 k) = true → Kall Ks (upd dn k) (upx x k v) p' → Kall Ks (upd dn k) (upx x k v') p' := by
      intro Ks v v'
      induction Ks with
      | nil => intro _ _; trivial
      | cons e l ih =>
        intro hk hK
        rw [List.all_cons, Bool.and_eq_true] at hk
        have h1 : Nat.beq e.1 k = false := by simpa using hk.1
        have e1 : ∀ v, upx x k v e.1 = x e.1 := fun v => by unfold upx; rw [h1]; rfl
        exact ⟨fun hd => by have := hK.1 hd; rw [e1] at this ⊢; exact this, ih hk.2 hK.2⟩
    exact other Ks v' v hk h3) (by rw [hdst]; exact h.run _ fun x => (hF x).puto _)⟩
theorem SQ.g {f' : List (Nat × Value)} {dn : Nat → Bool} {x : Nat → Value} {d : Nat} (p : ζ) (v : Value) (hv : look f' d = some v) (hL : ∀ w, Loc W R L O E w → Loc W R (Ld (upd dn k) p) (Od (upd dn k) p) (Ed (upd dn k) p) w) (hk : Kall Ks (upd dn k) (upx x k v) p) :
    SQ n W R L O E f' .normal (PostG W R Ld Od Ed Ks dn k x (some d)) := ⟨fun a w hf hl => ⟨rfl, hf.defers, p, v, fun dd hd => (Option.some.inj hd) ▸ hf.at_ _ _ hv, hL w hl, hk⟩⟩
theorem SQ.gs {f' : List (Nat × Value)} {dn : Nat → Bool} {x : Nat → Value} (p : ζ) (hL : ∀ w, Loc W R L O E w → Loc W R (Ld (upd dn k) p) (Od (upd dn k) p) (Ed (upd dn k) p) w) (hk : Kall Ks (upd dn k) (upx x k undef) p) :
    SQ n W R L O E f' .normal (PostG W R Ld Od Ed Ks dn k x none) := ⟨fun a w hf hl => ⟨rfl, hf.defers, p, undef, fun dd hd => (nomatch hd), hL w hl, hk⟩⟩
theorem SXg.nil (h : ∀ x p, Kall Ks (fun i => Nat.blt i k) x p → SQ n W R (Ld (fun i => Nat.blt i k) p) (Od (fun i => Nat.blt i k) p) (Ed (fun i => Nat.blt i k) p) (f x) .normal Q) : SXg P n W R ops Ld Od Ed Ks k f [] Q := ⟨fun F hF =>
  RG.done fun x w ⟨p, hl, hK⟩ => (h x p hK).run (F x) w (hF x) hl⟩
theorem SXg.tail (h : ∀ x p, Kall Ks (fun i => Nat.blt i k) x p → SXl P n W R ops (Ld (fun i => Nat.blt i k) p) (Od (fun i => Nat.blt i k) p) (Ed (fun i => Nat.blt i k) p) (f x) rest Q) : SXg P n W R ops Ld Od Ed Ks k f [] (fun _ a w => wpList P ops Q rest a w) := ⟨fun F hF =>
  RG.done fun x w ⟨p, hl, hK⟩ => (h x p hK).run (F x) w (hF x) hl⟩
end
end Go.Proofs.YtpkpkojmaebflaaGreatDoor
namespace Go.Proofs.YtpkpkojmaebflaaGreatDoor
open Go.RowKit
set_option linter.unusedVariables false
set_option linter.unusedSimpArgs false

abbrev FrameSl (R : Nat → Prop) (w : World) (a : Option Addr) (l : List Frame) : Prop := SliceAt (Flat Frame.cells) 5 R w a l
def frame0 : Frame := ⟨0, 0, 0, 0, 0⟩
theorem frameC_len (x : Frame) : x.cells.length = 5 := rfl
theorem frameC_one (x : Frame) : ∀ u ∈ x.cells, u.oneCell' = true := fun u hu => by
  simp only [Frame.cells, List.mem_cons, List.not_mem_nil, or_false] at hu
  rcases hu with rfl | rfl | rfl | rfl | rfl <;> rfl
set_option maxRecDepth 100000 in
set_option maxHeartbeats 8000000 in
theorem frameAt_any (fs : List Frame) (n : Int) (a : Option Addr) (c : Nat) (R : Nat → Prop) (w : World) (hl : fs.length ≤ 1048576) (h : FrameSl R w a fs) :
    Calls Tryz.prog 60 #[.slice a fs.length c, .int .i64 n] w fun e w' => e = .returned (.tuple #[.agg ((frameAt fs n).getD frame0).cells.toArray, .bool (frameAt fs n).isSome]) ∧ Mod (fun _ => False) w w' := by
  refine calls_sx Tryz.func60 rfl rfl (fun a h1 h2 h3 => ((Fr.nil h1 h2).arg (h3 1 _ rfl)).arg (h3 0 _ rfl)) ?_
  repeat (first | refine SX.seq ?_ | refine SXl.nil ?_ | refine SX.region ?_ | refine SQ.thenNormal ?_ | refine SX.block ?_ | (refine l_move ?_; (refine SXl.v (OpW.move rfl) rfl ?_ ?_ ?_); rfl; rfl) | (refine l_assign ?_; (refine SXl.v (OpW.assign rfl) rfl ?_ ?_ ?_); rfl; rfl) | (refine l_len ?_; (refine SXl.v (OpW.len rfl) rfl ?_ ?_ ?_); rfl; rfl) | (refine l_alloc ?_; refine SXl.alloc ?_ ?_ (fun g => ?_); rfl; rfl))
  refine SX.loop3 (fun (k : Nat) (_ _ : Unit) => k ≤ fs.length ∧ ∀ j g, j < k → fs[j]? = some g → g.node ≠ n) (fun k _ _ => fs.length - k) (fun _ _ _ => [⟨g, [.int .i64 0, .int .i64 0, .int .i64 0, .int .i64 0, .int .i64 0], 91⟩]) (fun _ _ _ => []) (fun _ _ _ => []) (fun k _ _ => [(1, .int .i64 n), (4, .pointer (some ⟨g, 0, none⟩)), (8, .slice a fs.length c), (9, .int .i64 fs.length), (10, .int .i64 k)]) 0 () () ⟨Nat.zero_le _, fun j g hj => by omega⟩ ?_ (fun w hl => hl) ?_
  · (repeat (first | exact subF_nil _ | (refine subF_cons rfl ?_) | (refine subF_consv rfl (by rfl) ?_)))
  rintro k _ _ ⟨hk, hb⟩
  by_cases hlt : k < fs.length
  · obtain ⟨b1, o1, x, r, rfl, hR1, hb1, hxk, hr1, hl1, hc1⟩ := h.get hlt
    obtain rfl : r = x.cells := hr1
    by_cases hn : x.node = n
    · rw [frameAt_here hxk.out hn hb]
      repeat (first | refine SX.seq ?_ | refine SXl.nil ?_ | refine SX.region ?_ | refine SQ.thenNormal ?_ | refine SX.block ?_ | refine SX.skip ?_ | refine SX.condT rfl ?_ | (refine l_load ?_; (first | refine SXl.v (OpW.loadRowOld rfl hc1 rfl (Nat.succ_pos _) (fun h => h)) rfl ?_ ?_ ?_ | refine SXl.v (OpW.load 0 rfl rfl rfl) rfl ?_ ?_ ?_ | refine SXl.v (OpW.loadAll 0 rfl rfl rfl) rfl ?_ ?_ ?_); rfl; rfl) | (refine l_fieldAddr ?_; (refine SXl.v (OpW.fieldAddr rfl) rfl ?_ ?_ ?_); rfl; rfl) | (refine l_move ?_; (refine SXl.v (OpW.move rfl) rfl ?_ ?_ ?_); rfl; rfl) | (refine l_assign ?_; (refine SXl.v (OpW.assign rfl) rfl ?_ ?_ ?_); rfl; rfl) | (refine l_eql ?_; (refine SXl.v (OpW.eqlT rfl rfl (by omega)) rfl ?_ ?_ ?_); rfl; rfl) | (refine l_lss ?_; (refine SXl.v (OpW.lssT rfl rfl (by omega)) rfl ?_ ?_ ?_); rfl; rfl) | (refine l_indexAddr ?_; (refine SXl.v (OpW.indexAddr (by omega) rfl rfl) rfl ?_ ?_ ?_); rfl; rfl) | (refine l_alloc ?_; refine SXl.alloc ?_ ?_ (fun g => ?_); rfl; rfl) | (refine l_store ?_; first | (refine SXl.storeAll 0 ?_ rfl rfl rfl rfl rfl rfl rfl ?_; rfl; simp only [List.set_cons_zero, List.set_cons_succ]) | (refine SXl.storeAll 1 ?_ rfl rfl rfl rfl rfl rfl rfl ?_; rfl; simp only [List.set_cons_zero, List.set_cons_succ]) | (refine SXl.storeAll 2 ?_ rfl rfl rfl rfl rfl rfl rfl ?_; rfl; simp only [List.set_cons_zero, List.set_cons_succ]) | (refine SXl.storeRow 0 ?_ rfl rfl rfl rfl rfl rfl rfl ?_; rfl; simp only [over, List.set_cons_zero, List.set_cons_succ]) | (refine SXl.storeRow 1 ?_ rfl rfl rfl rfl rfl rfl rfl ?_; rfl; simp only [over, List.set_cons_zero, List.set_cons_succ]) | (refine SXl.storeRow 2 ?_ rfl rfl rfl rfl rfl rfl rfl ?_; rfl; simp only [over, List.set_cons_zero, List.set_cons_succ])) | refine SX.ret ?_ | refine SQ.thenRet ?_ | refine SQ.blockRet ?_)
      refine SQ.bodyCell2 1 rfl rfl rfl rfl rfl (fun w' hl => ⟨rfl, hl.mod⟩)
    · repeat (first | refine SX.seq ?_ | refine SXl.nil ?_ | refine SX.region ?_ | refine SQ.thenNormal ?_ | refine SX.block ?_ | refine SX.skip ?_ | refine SX.condT rfl ?_ | refine SX.condF rfl ?_ | (refine l_load ?_; (first | refine SXl.v (OpW.loadRowOld rfl hc1 rfl (Nat.succ_pos _) (fun h => h)) rfl ?_ ?_ ?_ | refine SXl.v (OpW.load 0 rfl rfl rfl) rfl ?_ ?_ ?_); rfl; rfl) | (refine l_fieldAddr ?_; (refine SXl.v (OpW.fieldAddr rfl) rfl ?_ ?_ ?_); rfl; rfl) | (refine l_move ?_; (refine SXl.v (OpW.move rfl) rfl ?_ ?_ ?_); rfl; rfl) | (refine l_add ?_; (refine SXl.v (OpW.succ rfl rfl (by omega)) rfl ?_ ?_ ?_); rfl; rfl) | (refine l_eql ?_; (refine SXl.v (OpW.eqlF rfl rfl (by omega)) rfl ?_ ?_ ?_); rfl; rfl) | (refine l_lss ?_; (refine SXl.v (OpW.lssT rfl rfl (by omega)) rfl ?_ ?_ ?_); rfl; rfl) | (refine l_indexAddr ?_; (refine SXl.v (OpW.indexAddr (by omega) rfl rfl) rfl ?_ ?_ ?_); rfl; rfl) | (refine l_alloc ?_; refine SXl.alloc ?_ ?_ (fun g => ?_); rfl; rfl) | (refine l_store ?_; first | (refine SXl.storeAll 0 ?_ rfl rfl rfl rfl rfl rfl rfl ?_; rfl; simp only [List.set_cons_zero, List.set_cons_succ]) | (refine SXl.storeAll 1 ?_ rfl rfl rfl rfl rfl rfl rfl ?_; rfl; simp only [List.set_cons_zero, List.set_cons_succ]) | (refine SXl.storeAll 2 ?_ rfl rfl rfl rfl rfl rfl rfl ?_; rfl; simp only [List.set_cons_zero, List.set_cons_succ]) | (refine SXl.storeRow 0 ?_ rfl rfl rfl rfl rfl rfl rfl ?_; rfl; simp only [over, List.set_cons_zero, List.set_cons_succ]) | (refine SXl.storeRow 1 ?_ rfl rfl rfl rfl rfl rfl rfl ?_; rfl; simp only [over, List.set_cons_zero, List.set_cons_succ]) | (refine SXl.storeRow 2 ?_ rfl rfl rfl rfl rfl rfl rfl ?_; rfl; simp only [over, List.set_cons_zero, List.set_cons_succ])) | refine SQ.blockNormal ?_)
      refine SQ.round3 (k + 1) () () ⟨hlt, fun j g' hj hg => ?_⟩ (by omega) ?_ (fun w hl => hl.drop1)
      · by_cases e : j = k
        · subst e
          rw [hxk.out] at hg
          rw [← Option.some.inj hg]
          exact hn
        · exact hb j g' (by omega) hg
      · (repeat (first | exact subF_nil _ | (refine subF_cons rfl ?_) | (refine subF_consv rfl (by rfl) ?_)))
  · rw [frameAt_out (fun j g' hj hg => hb j g' (by omega) hg)]
    repeat (first | refine SX.seq ?_ | refine SXl.nil ?_ | refine SX.region ?_ | refine SQ.thenNormal ?_ | refine SX.condF rfl ?_ | (refine l_build ?_; (refine SXl.v ((OpW.build (vals := []) (cells := frame0.cells) rfl (by kernel_rfl))) rfl ?_ ?_ ?_); rfl; rfl) | (refine l_assign ?_; (refine SXl.v (OpW.assign rfl) rfl ?_ ?_ ?_); rfl; rfl) | (refine l_lss ?_; (refine SXl.v (OpW.lssF rfl rfl (by omega)) rfl ?_ ?_ ?_); rfl; rfl) | (refine l_store ?_; first | (refine SXl.storeAll 0 ?_ rfl rfl rfl rfl rfl rfl rfl ?_; rfl; simp only [List.set_cons_zero, List.set_cons_succ]) | (refine SXl.storeAll 1 ?_ rfl rfl rfl rfl rfl rfl rfl ?_; rfl; simp only [List.set_cons_zero, List.set_cons_succ]) | (refine SXl.storeAll 2 ?_ rfl rfl rfl rfl rfl rfl rfl ?_; rfl; simp only [List.set_cons_zero, List.set_cons_succ]) | (refine SXl.storeRow 0 ?_ rfl rfl rfl rfl rfl rfl rfl ?_; rfl; simp only [over, List.set_cons_zero, List.set_cons_succ]) | (refine SXl.storeRow 1 ?_ rfl rfl rfl rfl rfl rfl rfl ?_; rfl; simp only [over, List.set_cons_zero, List.set_cons_succ]) | (refine SXl.storeRow 2 ?_ rfl rfl rfl rfl rfl rfl rfl ?_; rfl; simp only [over, List.set_cons_zero, List.set_cons_succ])) | refine SX.ret ?_ | refine SX.exit ?_ | refine SQ.thenExit ?_ | refine SQ.blockExit ?_)
    refine SQ.bodyCell2 0 rfl rfl rfl rfl rfl (fun w' hl => ⟨rfl, hl.mod⟩)
set_option maxRecDepth 100000 in
set_option maxHeartbeats 8000000 in
theorem sframeAt_any (fs : List Frame) (n : Int) (a : Option Addr) (c : Nat) (R : Nat → Prop) (w : World) (hl : fs.length ≤ 1048576) (h : FrameSl R w a fs) :
    Calls Tryz.prog 45 #[.slice a fs.length c, .int .i64 n] w fun e w' => e = .returned (.tuple #[.agg ((frameAt fs n).getD frame0).cells.toArray, .bool (frameAt fs n).isSome]) ∧ Mod (fun _ => False) w w' := by
  refine calls_sx Tryz.func45 rfl rfl (fun a h1 h2 h3 => ((Fr.nil h1 h2).arg (h3 1 _ rfl)).arg (h3 0 _ rfl)) ?_
  repeat (first | refine SX.seq ?_ | refine SXl.nil ?_ | refine SX.region ?_ | refine SQ.thenNormal ?_ | refine SX.block ?_ | (refine l_assign ?_; (refine SXl.v (OpW.assign rfl) rfl ?_ ?_ ?_); rfl; rfl) | (refine l_alloc ?_; refine SXl.alloc ?_ ?_ (fun g => ?_); rfl; rfl))
  refine SX.loop3 (fun (k : Nat) (_ _ : Unit) => k ≤ fs.length ∧ ∀ j g, j < k → fs[j]? = some g → g.node ≠ n) (fun k _ _ => fs.length - k) (fun _ _ _ => [⟨g, [.int .i64 0, .int .i64 0, .int .i64 0, .int .i64 0, .int .i64 0], 91⟩]) (fun _ _ _ => []) (fun _ _ _ => []) (fun k _ _ => [(0, .slice a fs.length c), (1, .int .i64 n), (4, .pointer (some ⟨g, 0, none⟩)), (6, .int .i64 k)]) 0 () () ⟨Nat.zero_le _, fun j g hj => by omega⟩ ?_ (fun w hl => hl) ?_
  · (repeat (first | exact subF_nil _ | (refine subF_cons rfl ?_) | (refine subF_consv rfl (by rfl) ?_)))
  rintro k _ _ ⟨hk, hb⟩
  by_cases hlt : k < fs.length
  · obtain ⟨b1, o1, x, r, rfl, hR1, hb1, hxk, hr1, hl1, hc1⟩ := h.get hlt
    obtain rfl : r = x.cells := hr1
    have hc0 := hc1 0 (.int .i64 x.node) rfl
    by_cases hn : x.node = n
    · rw [frameAt_here hxk.out hn hb]
      repeat (first | refine SX.seq ?_ | refine SXl.nil ?_ | refine SX.region ?_ | refine SQ.thenNormal ?_ | refine SX.block ?_ | refine SX.skip ?_ | refine SX.condT rfl ?_ | (refine l_load ?_; (first | refine SXl.v (OpW.loadOld rfl hc0 (fun h => h)) rfl ?_ ?_ ?_ | refine SXl.v (OpW.loadRowOld rfl hc1 rfl (Nat.succ_pos _) (fun h => h)) rfl ?_ ?_ ?_); rfl; rfl) | (refine l_fieldAddr ?_; (refine SXl.v (OpW.fieldAddr rfl) rfl ?_ ?_ ?_); rfl; rfl) | (refine l_move ?_; (refine SXl.v (OpW.move rfl) rfl ?_ ?_ ?_); rfl; rfl) | (refine l_assign ?_; (refine SXl.v (OpW.assign rfl) rfl ?_ ?_ ?_); rfl; rfl) | (refine l_len ?_; (refine SXl.v (OpW.len rfl) rfl ?_ ?_ ?_); rfl; rfl) | (refine l_eql ?_; (refine SXl.v (OpW.eqlT rfl rfl (by omega)) rfl ?_ ?_ ?_); rfl; rfl) | (refine l_lss ?_; (refine SXl.v (OpW.lssT rfl rfl (by omega)) rfl ?_ ?_ ?_); rfl; rfl) | (refine l_indexAddr ?_; (refine SXl.v (OpW.indexAddr (by omega) rfl rfl) rfl ?_ ?_ ?_); rfl; rfl) | (refine l_store ?_; first | (refine SXl.storeAll 0 ?_ rfl rfl rfl rfl rfl rfl rfl ?_; rfl; simp only [List.set_cons_zero, List.set_cons_succ]) | (refine SXl.storeAll 1 ?_ rfl rfl rfl rfl rfl rfl rfl ?_; rfl; simp only [List.set_cons_zero, List.set_cons_succ]) | (refine SXl.storeAll 2 ?_ rfl rfl rfl rfl rfl rfl rfl ?_; rfl; simp only [List.set_cons_zero, List.set_cons_succ]) | (refine SXl.storeRow 0 ?_ rfl rfl rfl rfl rfl rfl rfl ?_; rfl; simp only [over, List.set_cons_zero, List.set_cons_succ]) | (refine SXl.storeRow 1 ?_ rfl rfl rfl rfl rfl rfl rfl ?_; rfl; simp only [over, List.set_cons_zero, List.set_cons_succ]) | (refine SXl.storeRow 2 ?_ rfl rfl rfl rfl rfl rfl rfl ?_; rfl; simp only [over, List.set_cons_zero, List.set_cons_succ])) | refine SX.ret ?_ | refine SQ.thenRet ?_ | refine SQ.blockRet ?_)
      refine SQ.bodyCell2 0 rfl rfl rfl rfl rfl (fun w' hl => ⟨rfl, hl.mod⟩)
    · repeat (first | refine SX.seq ?_ | refine SXl.nil ?_ | refine SX.region ?_ | refine SQ.thenNormal ?_ | refine SX.block ?_ | refine SX.skip ?_ | refine SX.condT rfl ?_ | refine SX.condF rfl ?_ | (refine l_load ?_; (refine SXl.v (OpW.loadOld rfl hc0 (fun h => h)) rfl ?_ ?_ ?_); rfl; rfl) | (refine l_fieldAddr ?_; (refine SXl.v (OpW.fieldAddr rfl) rfl ?_ ?_ ?_); rfl; rfl) | (refine l_move ?_; (refine SXl.v (OpW.move rfl) rfl ?_ ?_ ?_); rfl; rfl) | (refine l_assign ?_; (refine SXl.v (OpW.assign rfl) rfl ?_ ?_ ?_); rfl; rfl) | (refine l_len ?_; (refine SXl.v (OpW.len rfl) rfl ?_ ?_ ?_); rfl; rfl) | (refine l_add ?_; (refine SXl.v (OpW.succ rfl rfl (by omega)) rfl ?_ ?_ ?_); rfl; rfl) | (refine l_eql ?_; (refine SXl.v (OpW.eqlF rfl rfl (by omega)) rfl ?_ ?_ ?_); rfl; rfl) | (refine l_lss ?_; (refine SXl.v (OpW.lssT rfl rfl (by omega)) rfl ?_ ?_ ?_); rfl; rfl) | (refine l_indexAddr ?_; (refine SXl.v (OpW.indexAddr (by omega) rfl rfl) rfl ?_ ?_ ?_); rfl; rfl) | refine SQ.blockNormal ?_)
      refine SQ.round3 (k + 1) () () ⟨hlt, fun j g' hj hg => ?_⟩ (by omega) ?_ (fun w hl => hl)
      · by_cases e : j = k
        · subst e
          rw [hxk.out] at hg
          rw [← Option.some.inj hg]
          exact hn
        · exact hb j g' (by omega) hg
      · (repeat (first | exact subF_nil _ | (refine subF_cons rfl ?_) | (refine subF_consv rfl (by rfl) ?_)))
  · rw [frameAt_out (fun j g' hj hg => hb j g' (by omega) hg)]
    repeat (first | refine SX.seq ?_ | refine SXl.nil ?_ | refine SX.region ?_ | refine SQ.thenNormal ?_ | refine SX.condF rfl ?_ | (refine l_build ?_; (refine SXl.v ((OpW.build (vals := []) (cells := frame0.cells) rfl (by kernel_rfl))) rfl ?_ ?_ ?_); rfl; rfl) | (refine l_move ?_; (refine SXl.v (OpW.move rfl) rfl ?_ ?_ ?_); rfl; rfl) | (refine l_assign ?_; (refine SXl.v (OpW.assign rfl) rfl ?_ ?_ ?_); rfl; rfl) | (refine l_len ?_; (refine SXl.v (OpW.len rfl) rfl ?_ ?_ ?_); rfl; rfl) | (refine l_lss ?_; (refine SXl.v (OpW.lssF rfl rfl (by omega)) rfl ?_ ?_ ?_); rfl; rfl) | (refine l_store ?_; first | (refine SXl.storeAll 0 ?_ rfl rfl rfl rfl rfl rfl rfl ?_; rfl; simp only [List.set_cons_zero, List.set_cons_succ]) | (refine SXl.storeAll 1 ?_ rfl rfl rfl rfl rfl rfl rfl ?_; rfl; simp only [List.set_cons_zero, List.set_cons_succ]) | (refine SXl.storeAll 2 ?_ rfl rfl rfl rfl rfl rfl rfl ?_; rfl; simp only [List.set_cons_zero, List.set_cons_succ]) | (refine SXl.storeRow 0 ?_ rfl rfl rfl rfl rfl rfl rfl ?_; rfl; simp only [over, List.set_cons_zero, List.set_cons_succ]) | (refine SXl.storeRow 1 ?_ rfl rfl rfl rfl rfl rfl rfl ?_; rfl; simp only [over, List.set_cons_zero, List.set_cons_succ]) | (refine SXl.storeRow 2 ?_ rfl rfl rfl rfl rfl rfl rfl ?_; rfl; simp only [over, List.set_cons_zero, List.set_cons_succ])) | refine SX.ret ?_ | refine SX.exit ?_ | refine SQ.thenExit ?_ | refine SQ.blockExit ?_)
    refine SQ.bodyCell2 0 rfl rfl rfl rfl rfl (fun w' hl => ⟨rfl, hl.mod⟩)
set_option maxRecDepth 100000 in
set_option maxHeartbeats 8000000 in
theorem copyFrames_any (fs : List Frame) (a : Option Addr) (c : Nat) (R : Nat → Prop) (w : World) (hl : fs.length ≤ 1048576) (h : FrameSl R w a fs) :
    Calls Tryz.prog 58 #[.slice a fs.length c] w (NewSlice 91 5 w fs.length (fs.map Frame.cells).flatten) := by
  refine calls_sx Tryz.func58 rfl rfl (fun a h1 h2 h3 => ((Fr.nil h1 h2).arg (h3 0 _ rfl))) ?_
  refine SX.ownNil 91 5 ?_
  repeat (first | refine SX.seq ?_ | refine SXl.nil ?_ | refine SX.region ?_ | refine SQ.thenNormal ?_ | (refine l_move ?_; (refine SXl.v (OpW.move rfl) rfl ?_ ?_ ?_); rfl; rfl) | (refine l_assign ?_; (refine SXl.v (OpW.assign rfl) rfl ?_ ?_ ?_); rfl; rfl))
  refine l_append ?_
  refine SXl.appendS (cs := Frame.cells) 0 fs rfl rfl rfl rfl rfl rfl frameC_len frameC_one (fun w hl => ⟨_, h.flatKeep hl.mod⟩) (by omega) (by omega) (fun a2 c2 => ?_)
  simp only [List.set_cons_zero, Nat.zero_add, List.nil_append]
  repeat (first | refine SXl.nil ?_ | refine SQ.thenNormal ?_ | (refine l_assign ?_; (refine SXl.v (OpW.assign rfl) rfl ?_ ?_ ?_); rfl; rfl) | refine SX.ret ?_)
  refine SQ.body1 rfl rfl (fun w' hl => ⟨a2, c2, rfl, (hl.own _ List.mem_cons_self).1, hl.mod⟩)
theorem newSlice_o {e sz n : Nat} {w w' : World} {xs : List Value} {en : Ending} (h : NewSlice e sz w n xs en w') : NewO (Option Addr × Nat) (fun q => .slice q.1 n q.2) (fun q => [⟨.slice q.1 n q.2, e, sz, n, xs⟩]) (fun _ => True) w en w' := by
  obtain ⟨a, c, he, ho, hm⟩ := h
  exact ⟨(a, c), he, trivial, ⟨fun o ho' => by obtain rfl := List.mem_singleton.1 ho'; exact ho, List.pairwise_singleton _ _⟩, hm⟩
theorem row_addr {w : World} {base e sz n c : Nat} {a : Option Addr} {xs : List Value} (h : w.ownsRow base e sz (.slice a n c) n xs) (h0 : 0 < n) : ∃ g, a = some ⟨g, 0, none⟩ := by
  rcases h.2 with ⟨_, hn⟩ | ⟨g, cap, cur, hv, _⟩
  · omega
  · injection hv with ha _ _
    exact ⟨g, ha⟩
/-- The frames, the first i of them turned. -/
def absTo (l : List Node) (fs : List Frame) (i : Nat) : List Frame := (fs.take i).map (absOf l fs) ++ fs.drop i
theorem frame_mid {A B : List Frame} {g : Frame} {i : Nat} (hA : A.length = i) : (A ++ g :: B)[i]? = some g := by
  rw [List.getElem?_append_right (by omega), hA, Nat.sub_self]; rfl
theorem frame_put {A B : List Frame} {g y : Frame} {i j : Nat} {v : Value} (hA : A.length = i) (hj : j < 5) (hy : y.cells = g.cells.set j v) : ((A ++ g :: B).map Frame.cells).flatten.set (0 + i * 5 + j) v = ((A ++ y :: B).map Frame.cells).flatten := by
  have h := flat_set frameC_len (l := A ++ g :: B) (k := i) (x := g) (y := y) (frame_mid hA) hj hy
  rw [Nat.zero_add, ← h]
  congr 2
  subst hA
  simp
theorem frame_cell {A B : List Frame} {g : Frame} {i j : Nat} {v : Value} (hA : A.length = i) (hv : g.cells[j]? = some v) : ((A ++ g :: B).map Frame.cells).flatten[0 + i * 5 + j]? = some v := by
  rw [Nat.zero_add]
  exact flat_get frameC_len (frame_mid hA) hv
theorem frame_len {A B : List Frame} {g : Frame} {i j : Nat} (hA : A.length = i) (hj : j < 5) : 0 + i * 5 + j < ((A ++ g :: B).map Frame.cells).flatten.length := by
  have hv : g.cells[j]? = some (g.cells[j]'hj) := List.getElem?_eq_getElem _
  exact (List.getElem?_eq_some_iff.1 (frame_cell (B := B) hA hv)).1
set_option maxRecDepth 100000 in
set_option maxHeartbeats 16000000 in
theorem absolute_any (l : List Node) (fs : List Frame) (o : Bool) (a b : Option Addr) (c d : Nat) (R S : Nat → Prop) (w : World) (hlen : l.length ≤ 1048576) (hfit : ∀ x ∈ l, x.fits 1048576) (hfl : fs.length ≤ 1048576) (h : NodeSlice o R w a l) (hf : FrameSl S w b fs) :
    Calls Tryz.prog 25 #[.agg #[.slice a l.length c], .slice b fs.length d] w (NewSlice 91 5 w (absolute l fs).length ((absolute l fs).map Frame.cells).flatten) := by
  refine calls_sx Tryz.func25 rfl rfl (fun a h1 h2 h3 => ((Fr.nil h1 h2).arg (h3 1 _ rfl)).arg (h3 0 _ rfl)) ?_
  have hT := fun w' (hm : Mod (fun _ => False) w w') => treeOk_any l o a c R w' hlen hfit (h.keep hm)
  have hFA := fun (n : Int) w' (hm : Mod (fun _ => False) w w') => frameAt_any fs n b d S w' hfl (hf.flatKeep hm)
  repeat (first | refine SX.seq ?_ | refine SXl.nil ?_ | refine SX.region ?_ | refine SQ.thenNormal ?_ | (refine l_move ?_; (refine SXl.v (OpW.move rfl) rfl ?_ ?_ ?_); rfl; rfl) | (refine l_assign ?_; (refine SXl.v (OpW.assign rfl) rfl ?_ ?_ ?_); rfl; rfl) | (refine l_box ?_; refine SXl.box ?_ ?_ rfl rfl (fun g => ?_); rfl; rfl))
  revert g; intro g2
  refine l_call ?_
  refine SXl.callO rfl rfl rfl (fun w' hl => (copyFrames_any fs b d S w' hfl (hf.flatKeep hl.mod)).mono fun _ _ h => newSlice_o h) (fun ⟨qa, qc⟩ _ => ?_)
  change SXl _ _ _ _ _ _ [⟨.slice qa fs.length qc, 91, 5, fs.length, (fs.map Frame.cells).flatten⟩] _ _ _ _
  cases hv : treeOk l
  · have e : absolute l fs = fs := by unfold absolute; rw [hv]; rfl
    rw [e]
    rw [hv] at hT
    repeat (first | refine SX.seq ?_ | refine SXl.nil ?_ | refine SX.region ?_ | refine SQ.thenNormal ?_ | refine SX.condT rfl ?_ | (refine l_call ?_; (refine SXl.v (OpW.call rfl (fun w hl => hT _ hl.mod)) rfl ?_ ?_ ?_); rfl; rfl) | (refine l_load ?_; (refine SXl.v (OpW.loadAll 0 rfl rfl rfl) rfl ?_ ?_ ?_); rfl; rfl) | (refine l_move ?_; (refine SXl.v (OpW.move rfl) rfl ?_ ?_ ?_); rfl; rfl) | (refine l_assign ?_; (refine SXl.v (OpW.assign rfl) rfl ?_ ?_ ?_); rfl; rfl) | (refine l_not ?_; (refine SXl.v (OpW.not rfl) rfl ?_ ?_ ?_); rfl; rfl) | refine SX.ret ?_ | refine SQ.thenRet ?_)
    refine SQ.body1 rfl rfl (fun w' hl => ⟨qa, qc, rfl, (hl.own _ List.mem_cons_self).1, hl.mod⟩)
  rw [hv] at hT
  have e : absolute l fs = absTo l fs fs.length := by unfold absolute absTo; rw [hv, List.take_length, List.drop_length, List.append_nil]; rfl
  have el : (absolute l fs).length = fs.length := by rw [e]; simp [absTo]
  rw [el, e]
  have e0 : absTo l fs 0 = fs := by simp [absTo]
  repeat (first | refine SX.seq ?_ | refine SXl.nil ?_ | refine SX.region ?_ | refine SQ.thenNormal ?_ | refine SX.block ?_ | refine SX.skip ?_ | refine SX.condF rfl ?_ | (refine l_call ?_; (refine SXl.v (OpW.call rfl (fun w hl => hT _ hl.mod)) rfl ?_ ?_ ?_); rfl; rfl) | (refine l_load ?_; (refine SXl.v (OpW.loadAll 0 rfl rfl rfl) rfl ?_ ?_ ?_); rfl; rfl) | (refine l_move ?_; (refine SXl.v (OpW.move rfl) rfl ?_ ?_ ?_); rfl; rfl) | (refine l_assign ?_; (refine SXl.v (OpW.assign rfl) rfl ?_ ?_ ?_); rfl; rfl) | (refine l_len ?_; (refine SXl.v (OpW.len rfl) rfl ?_ ?_ ?_); rfl; rfl) | (refine l_not ?_; (refine SXl.v (OpW.not rfl) rfl ?_ ?_ ?_); rfl; rfl))
  refine SX.loop3 (fun (i : Nat) (_ _ : Unit) => i ≤ fs.length) (fun i _ _ => fs.length - i) (fun _ _ _ => [⟨g2, [.slice a l.length c], 37⟩]) (fun i _ _ => [⟨.slice qa fs.length qc, 91, 5, fs.length, ((absTo l fs i).map Frame.cells).flatten⟩]) (fun _ _ _ => []) (fun i _ _ => [(1, .slice b fs.length d), (2, .pointer (some ⟨g2, 0, none⟩)), (5, .slice qa fs.length qc), (17, .int .i64 fs.length), (18, .int .i64 i)]) 0 () () (Nat.zero_le _) ?_ (fun w hl => by rw [e0]; exact hl) ?_
  · (repeat (first | exact subF_nil _ | (refine subF_cons rfl ?_) | (refine subF_consv rfl (by rfl) ?_)))
  rintro i _ _ hi
  by_cases hil : i < fs.length
  rotate_left
  · have hie : i = fs.length := by omega
    rw [hie]
    repeat (first | refine SX.seq ?_ | refine SXl.nil ?_ | refine SX.region ?_ | refine SQ.thenNormal ?_ | refine SX.condF rfl ?_ | (refine l_move ?_; (refine SXl.v (OpW.move rfl) rfl ?_ ?_ ?_); rfl; rfl) | (refine l_assign ?_; (refine SXl.v (OpW.assign rfl) rfl ?_ ?_ ?_); rfl; rfl) | (refine l_lss ?_; (refine SXl.v (OpW.lssF rfl rfl (by omega)) rfl ?_ ?_ ?_); rfl; rfl) | refine SX.ret ?_ | refine SX.exit ?_ | refine SQ.thenExit ?_ | refine SQ.blockExit ?_)
    refine SQ.body1 rfl rfl (fun w' hl => ⟨qa, qc, rfl, (hl.own _ List.mem_cons_self).1, hl.mod⟩)
  obtain ⟨gf, hgf⟩ : ∃ gf, fs[i]? = some gf := ⟨_, List.getElem?_eq_getElem hil⟩
  have hA : ((fs.take i).map (absOf l fs)).length = i := by rw [List.length_map, List.length_take]; omega
  have h1 : absTo l fs i = (fs.take i).map (absOf l fs) ++ gf :: fs.drop (i + 1) := by
    unfold absTo
    rw [List.drop_eq_getElem_cons hil]
    rw [List.getElem?_eq_getElem hil] at hgf
    rw [Option.some.inj hgf]
  have h2 : absTo l fs (i + 1) = (fs.take i).map (absOf l fs) ++ absOf l fs gf :: fs.drop (i + 1) := by
    unfold absTo
    rw [List.take_add_one, hgf]
    simp
  rw [h1]
  have h2' : ∀ xx yy, absF l fs 5 gf.node gf.x gf.y = (xx, yy) → absTo l fs (i + 1) = (fs.take i).map (absOf l fs) ++ { gf with x := xx, y := yy } :: fs.drop (i + 1) := fun xx yy he => by rw [h2, absOf, he]
  clear h2
  generalize (fs.take i).map (absOf l fs) = A at *
  generalize fs.drop (i + 1) = B at *
  refine SX.know (fun w hl => row_addr (hl.own _ List.mem_cons_self).1 (by omega)) (fun ⟨go, hgo⟩ => ?_)
  subst hgo
  have hc0 : ((A ++ gf :: B).map Frame.cells).flatten[0 + i * 5 + 0]? = some (.int .i64 gf.node) := frame_cell hA rfl
  repeat (first | refine SX.seq ?_ | refine SXl.nil ?_ | refine SX.region ?_ | refine SQ.thenNormal ?_ | refine SX.block ?_ | refine SX.skip ?_ | refine SX.condT rfl ?_ | (refine l_load ?_; (refine SXl.v (OpW.loadOwn 0 rfl rfl hc0) rfl ?_ ?_ ?_); rfl; rfl) | (refine l_fieldAddr ?_; (refine SXl.v (OpW.fieldAddr rfl) rfl ?_ ?_ ?_); rfl; rfl) | (refine l_move ?_; (refine SXl.v (OpW.move rfl) rfl ?_ ?_ ?_); rfl; rfl) | (refine l_assign ?_; (refine SXl.v (OpW.assign rfl) rfl ?_ ?_ ?_); rfl; rfl) | (refine l_lss ?_; (refine SXl.v (OpW.lssT rfl rfl (by omega)) rfl ?_ ?_ ?_); rfl; rfl) | (refine l_indexAddr ?_; (refine SXl.v (OpW.indexAddr (by omega) rfl rfl) rfl ?_ ?_ ?_); rfl; rfl))
  refine SX.loop3 (fun (f : Nat) (m : Int) (xy : Int × Int) => AbsAt l f m ∧ absF l fs f m xy.1 xy.2 = absF l fs 5 gf.node gf.x gf.y) (fun f _ _ => f) (fun _ _ _ => [⟨g2, [.slice a l.length c], 37⟩]) (fun _ _ xy => [⟨.slice (some ⟨go, 0, none⟩) fs.length qc, 91, 5, fs.length, ((A ++ { gf with x := xy.1, y := xy.2 } :: B).map Frame.cells).flatten⟩]) (fun _ _ _ => []) (fun _ m _ => [(1, .slice b fs.length d), (2, .pointer (some ⟨g2, 0, none⟩)), (5, .slice (some ⟨go, 0, none⟩) fs.length qc), (6, .int .i64 i), (7, .int .i64 m), (17, .int .i64 fs.length), (18, .int .i64 i)]) 5 gf.node (gf.x, gf.y) ⟨AbsAt.start hv _, rfl⟩ ?_ (fun w hl => hl) ?_
  · (repeat (first | exact subF_nil _ | (refine subF_cons rfl ?_) | (refine subF_consv rfl (by rfl) ?_)))
  rintro f m ⟨xx, yy⟩ ⟨hat, he⟩
  simp only at he
  cases hm : inB m 1 l.length
  · rw [absF_out hm] at he
    have h3 := h2' xx yy he.symm
    repeat (first | refine SX.seq ?_ | refine SXl.nil ?_ | refine SX.region ?_ | refine SQ.thenNormal ?_ | refine SX.condF rfl ?_ | (refine l_call ?_; (refine SXl.v (OpW.call rfl (fun w hl => isNode_any _ _ _ _ _)) rfl ?_ ?_ ?_); rfl; rfl) | (refine l_load ?_; (refine SXl.v (OpW.loadAll 0 rfl rfl rfl) rfl ?_ ?_ ?_); rfl; rfl) | (refine l_move ?_; (refine SXl.v (OpW.move rfl) rfl ?_ ?_ ?_); rfl; rfl) | (refine l_add ?_; (refine SXl.v (OpW.succ rfl rfl (by omega)) rfl ?_ ?_ ?_); rfl; rfl) | (rw [hm]) | refine SX.exit ?_ | refine SQ.thenExit ?_ | refine SQ.blockNormal ?_ | refine SQ.blockExit ?_)
    refine SQ.round3 (i + 1) () () (by omega) (by omega) ?_ (fun w hl => by rw [h3]; exact hl)
    (repeat (first | exact subF_nil _ | (refine subF_cons rfl ?_) | (refine subF_consv rfl (by rfl) ?_)))
  have hdm := hat hm
  have hdm1 := ok_dep hv hm
  obtain ⟨f', rfl⟩ : ∃ f', f = f' + 1 := ⟨f - 1, by omega⟩
  have hnx := AbsAt.next hv hat hm
  obtain ⟨ka, kc, ra, rc, -, hN, -⟩ := node_row (c := c) hlen h hm
  rw [absF, hm] at he
  simp only [if_true] at he
  generalize nodeAt l m = z at *
  have hFz := hFA z.up
  by_cases h0 : z.up = 0
  · have he2 : (xx, yy) = absF l fs 5 gf.node gf.x gf.y := by
      rw [← he]
      cases frameAt fs z.up <;> simp [h0]
    have h3 := h2' xx yy he2.symm
    repeat (first | refine SX.seq ?_ | refine SXl.nil ?_ | refine SX.region ?_ | refine SQ.thenNormal ?_ | refine SX.block ?_ | refine SX.skip ?_ | refine SX.condT rfl ?_ | (refine SXl.no rfl rfl rfl ?_) | (refine l_call ?_; (first | refine SXl.v (OpW.call rfl (fun w hl => isNode_any _ _ _ _ _)) rfl ?_ ?_ ?_ | refine SXl.v (OpW.call rfl (fun w hl => hN _ hl.mod)) rfl ?_ ?_ ?_ | refine SXl.v (OpW.call rfl (fun w hl => hFz _ hl.mod)) rfl ?_ ?_ ?_); rfl; rfl) | (refine l_field ?_; (refine SXl.v (OpW.nodeUp rfl) rfl ?_ ?_ ?_); rfl; rfl) | (refine l_load ?_; (refine SXl.v (OpW.loadAll 0 rfl rfl rfl) rfl ?_ ?_ ?_); rfl; rfl) | (refine l_move ?_; (refine SXl.v (OpW.move rfl) rfl ?_ ?_ ?_); rfl; rfl) | (refine l_assign ?_; (refine SXl.v (OpW.assign rfl) rfl ?_ ?_ ?_); rfl; rfl) | (refine l_add ?_; (refine SXl.v (OpW.succ rfl rfl (by omega)) rfl ?_ ?_ ?_); rfl; rfl) | (refine l_eql ?_; (refine SXl.v (OpW.eqlT rfl rfl (by omega)) rfl ?_ ?_ ?_); rfl; rfl) | (refine l_pick ?_; (refine SXl.v (OpW.pick rfl rfl rfl) rfl ?_ ?_ ?_); rfl; rfl) | (refine l_extract ?_; (refine SXl.v (OpW.extract rfl rfl) rfl ?_ ?_ ?_); rfl; rfl) | (refine l_alloc ?_; refine SXl.alloc ?_ ?_ (fun g => ?_); rfl; rfl) | (refine l_store ?_; first | (refine SXl.store 0 ?_ rfl rfl rfl rfl rfl rfl ?_; rfl; simp only [List.set_cons_zero, List.set_cons_succ]) | (refine SXl.store 1 ?_ rfl rfl rfl rfl rfl rfl ?_; rfl; simp only [List.set_cons_zero, List.set_cons_succ]) | (refine SXl.store 2 ?_ rfl rfl rfl rfl rfl rfl ?_; rfl; simp only [List.set_cons_zero, List.set_cons_succ]) | (refine SXl.storeAll 0 ?_ rfl rfl rfl rfl rfl rfl rfl ?_; rfl; simp only [List.set_cons_zero, List.set_cons_succ]) | (refine SXl.storeAll 1 ?_ rfl rfl rfl rfl rfl rfl rfl ?_; rfl; simp only [List.set_cons_zero, List.set_cons_succ]) | (refine SXl.storeAll 2 ?_ rfl rfl rfl rfl rfl rfl rfl ?_; rfl; simp only [List.set_cons_zero, List.set_cons_succ]) | (refine SXl.storeRow 0 ?_ rfl rfl rfl rfl rfl rfl rfl ?_; rfl; simp only [over, List.set_cons_zero, List.set_cons_succ]) | (refine SXl.storeRow 1 ?_ rfl rfl rfl rfl rfl rfl rfl ?_; rfl; simp only [over, List.set_cons_zero, List.set_cons_succ]) | (refine SXl.storeRow 2 ?_ rfl rfl rfl rfl rfl rfl rfl ?_; rfl; simp only [over, List.set_cons_zero, List.set_cons_succ])) | (rw [hm]) | refine SX.exit ?_ | refine SQ.thenExit ?_ | refine SQ.blockNormal ?_ | refine SQ.blockExit ?_ | refine SQ.blockOther rfl ?_)
    refine SQ.round3 (i + 1) () () (by omega) (by omega) ?_ (fun w hl => by rw [h3]; exact hl.drop1)
    (repeat (first | exact subF_nil _ | (refine subF_cons rfl ?_) | (refine subF_consv rfl (by rfl) ?_)))
  cases hfa : frameAt fs z.up with
  | none =>
    rw [hfa] at he hFz
    simp only [Option.getD_none, Option.isSome_none] at he hFz
    have h3 := h2' xx yy he.symm
    repeat (first | refine SX.seq ?_ | refine SXl.nil ?_ | refine SX.region ?_ | refine SQ.thenNormal ?_ | refine SX.block ?_ | refine SX.skip ?_ | refine SX.condT rfl ?_ | (refine l_call ?_; (first | refine SXl.v (OpW.call rfl (fun w hl => isNode_any _ _ _ _ _)) rfl ?_ ?_ ?_ | refine SXl.v (OpW.call rfl (fun w hl => hN _ hl.mod)) rfl ?_ ?_ ?_ | refine SXl.v (OpW.call rfl (fun w hl => hFz _ hl.mod)) rfl ?_ ?_ ?_); rfl; rfl) | (refine l_field ?_; (refine SXl.v (OpW.nodeUp rfl) rfl ?_ ?_ ?_); rfl; rfl) | (refine l_load ?_; (refine SXl.v (OpW.loadAll 0 rfl rfl rfl) rfl ?_ ?_ ?_); rfl; rfl) | (refine l_move ?_; (refine SXl.v (OpW.move rfl) rfl ?_ ?_ ?_); rfl; rfl) | (refine l_assign ?_; (refine SXl.v (OpW.assign rfl) rfl ?_ ?_ ?_); rfl; rfl) | (refine l_add ?_; (refine SXl.v (OpW.succ rfl rfl (by omega)) rfl ?_ ?_ ?_); rfl; rfl) | (refine l_eql ?_; (refine SXl.v (OpW.eqlF rfl rfl (by omega)) rfl ?_ ?_ ?_); rfl; rfl) | (refine l_not ?_; (refine SXl.v (OpW.not rfl) rfl ?_ ?_ ?_); rfl; rfl) | (refine l_pick ?_; (refine SXl.v (OpW.pick rfl rfl rfl) rfl ?_ ?_ ?_); rfl; rfl) | (refine l_extract ?_; (refine SXl.v (OpW.extract rfl rfl) rfl ?_ ?_ ?_); rfl; rfl) | (refine l_alloc ?_; refine SXl.alloc ?_ ?_ (fun g => ?_); rfl; rfl) | (refine l_store ?_; first | (refine SXl.store 0 ?_ rfl rfl rfl rfl rfl rfl ?_; rfl; simp only [List.set_cons_zero, List.set_cons_succ]) | (refine SXl.store 1 ?_ rfl rfl rfl rfl rfl rfl ?_; rfl; simp only [List.set_cons_zero, List.set_cons_succ]) | (refine SXl.store 2 ?_ rfl rfl rfl rfl rfl rfl ?_; rfl; simp only [List.set_cons_zero, List.set_cons_succ]) | (refine SXl.storeAll 0 ?_ rfl rfl rfl rfl rfl rfl rfl ?_; rfl; simp only [List.set_cons_zero, List.set_cons_succ]) | (refine SXl.storeAll 1 ?_ rfl rfl rfl rfl rfl rfl rfl ?_; rfl; simp only [List.set_cons_zero, List.set_cons_succ]) | (refine SXl.storeAll 2 ?_ rfl rfl rfl rfl rfl rfl rfl ?_; rfl; simp only [List.set_cons_zero, List.set_cons_succ]) | (refine SXl.storeRow 0 ?_ rfl rfl rfl rfl rfl rfl rfl ?_; rfl; simp only [over, List.set_cons_zero, List.set_cons_succ]) | (refine SXl.storeRow 1 ?_ rfl rfl rfl rfl rfl rfl rfl ?_; rfl; simp only [over, List.set_cons_zero, List.set_cons_succ]) | (refine SXl.storeRow 2 ?_ rfl rfl rfl rfl rfl rfl rfl ?_; rfl; simp only [over, List.set_cons_zero, List.set_cons_succ])) | (rw [hm]) | refine SX.exit ?_ | refine SQ.thenExit ?_ | refine SQ.blockNormal ?_ | refine SQ.blockExit ?_ | refine SQ.blockOther rfl ?_)
    refine SQ.round3 (i + 1) () () (by omega) (by omega) ?_ (fun w hl => by rw [h3]; exact hl.drop1)
    (repeat (first | exact subF_nil _ | (refine subF_cons rfl ?_) | (refine subF_consv rfl (by rfl) ?_)))
  | some gg =>
    rw [hfa] at he hFz
    simp only [Option.getD_some, Option.isSome_some] at he hFz
    rw [if_neg h0] at he
    · repeat (first | refine SX.seq ?_ | refine SXl.nil ?_ | refine SX.region ?_ | refine SQ.thenNormal ?_ | refine SX.block ?_ | refine SX.skip ?_ | refine SX.condT rfl ?_ | refine SX.condF rfl ?_ | (refine l_call ?_; (first | refine SXl.v (OpW.call rfl (fun w hl => isNode_any _ _ _ _ _)) rfl ?_ ?_ ?_ | refine SXl.v (OpW.call rfl (fun w hl => hN _ hl.mod)) rfl ?_ ?_ ?_ | refine SXl.v (OpW.call rfl (fun w hl => hFz _ hl.mod)) rfl ?_ ?_ ?_); rfl; rfl) | (refine l_field ?_; (refine SXl.v (OpW.nodeUp rfl) rfl ?_ ?_ ?_); rfl; rfl) | (refine l_load ?_; (refine SXl.v (OpW.loadAll 0 rfl rfl rfl) rfl ?_ ?_ ?_); rfl; rfl) | (refine l_move ?_; (refine SXl.v (OpW.move rfl) rfl ?_ ?_ ?_); rfl; rfl) | (refine l_assign ?_; (refine SXl.v (OpW.assign rfl) rfl ?_ ?_ ?_); rfl; rfl) | (refine l_eql ?_; (refine SXl.v (OpW.eqlF rfl rfl (by omega)) rfl ?_ ?_ ?_); rfl; rfl) | (refine l_not ?_; (refine SXl.v (OpW.not rfl) rfl ?_ ?_ ?_); rfl; rfl) | (refine l_pick ?_; (refine SXl.v (OpW.pick rfl rfl rfl) rfl ?_ ?_ ?_); rfl; rfl) | (refine l_extract ?_; (refine SXl.v (OpW.extract rfl rfl) rfl ?_ ?_ ?_); rfl; rfl) | (refine l_alloc ?_; refine SXl.alloc ?_ ?_ (fun g => ?_); rfl; rfl) | (refine l_store ?_; first | (refine SXl.store 0 ?_ rfl rfl rfl rfl rfl rfl ?_; rfl; simp only [List.set_cons_zero, List.set_cons_succ]) | (refine SXl.store 1 ?_ rfl rfl rfl rfl rfl rfl ?_; rfl; simp only [List.set_cons_zero, List.set_cons_succ]) | (refine SXl.store 2 ?_ rfl rfl rfl rfl rfl rfl ?_; rfl; simp only [List.set_cons_zero, List.set_cons_succ]) | (refine SXl.storeAll 0 ?_ rfl rfl rfl rfl rfl rfl rfl ?_; rfl; simp only [List.set_cons_zero, List.set_cons_succ]) | (refine SXl.storeAll 1 ?_ rfl rfl rfl rfl rfl rfl rfl ?_; rfl; simp only [List.set_cons_zero, List.set_cons_succ]) | (refine SXl.storeAll 2 ?_ rfl rfl rfl rfl rfl rfl rfl ?_; rfl; simp only [List.set_cons_zero, List.set_cons_succ]) | (refine SXl.storeRow 0 ?_ rfl rfl rfl rfl rfl rfl rfl ?_; rfl; simp only [over, List.set_cons_zero, List.set_cons_succ]) | (refine SXl.storeRow 1 ?_ rfl rfl rfl rfl rfl rfl rfl ?_; rfl; simp only [over, List.set_cons_zero, List.set_cons_succ]) | (refine SXl.storeRow 2 ?_ rfl rfl rfl rfl rfl rfl rfl ?_; rfl; simp only [over, List.set_cons_zero, List.set_cons_succ])) | (rw [hm]))
      revert g; intro g8
      have hx1 : ((A ++ { gf with x := xx, y := yy } :: B).map Frame.cells).flatten[0 + i * 5 + 1]? = some (.int .i64 xx) := frame_cell hA rfl
      skip
      refine SX.drawnG (ζ := Unit) 10 (fun _ _ => [⟨g8, gg.cells, 91⟩, ⟨g2, [.slice a l.length c], 37⟩]) (fun _ _ => [⟨.slice (some ⟨go, 0, none⟩) fs.length qc, 91, 5, fs.length, ((A ++ { gf with x := xx, y := yy } :: B).map Frame.cells).flatten⟩]) (fun _ _ => []) [] () (by kernel_rfl) (by kernel_rfl) (by kernel_rfl) ⟨rfl, rfl, rfl⟩ ?_
      repeat (first | (refine SXg.v0 (fun dn x p ha hK => (OpW.loadOwn 0 rfl rfl hx1)) rfl (fun _ => rfl) rfl (fun _ _ => ⟨rfl, rfl, rfl⟩) rfl ?_) | (refine SXg.v0 (fun dn x p ha hK => (OpW.load 0 rfl rfl rfl)) rfl (fun _ => rfl) rfl (fun _ _ => ⟨rfl, rfl, rfl⟩) rfl ?_) | (refine SXg.v0 (fun dn x p ha hK => (OpW.fieldAddr rfl)) rfl (fun _ => rfl) rfl (fun _ _ => ⟨rfl, rfl, rfl⟩) rfl ?_) | (refine SXg.v0 (fun dn x p ha hK => (OpW.move rfl)) rfl (fun _ => rfl) rfl (fun _ _ => ⟨rfl, rfl, rfl⟩) rfl ?_) | (refine SXg.v0 (fun dn x p ha hK => (OpW.add rfl rfl)) rfl (fun _ => rfl) rfl (fun _ _ => ⟨rfl, rfl, rfl⟩) rfl ?_) | (refine SXg.v0 (fun dn x p ha hK => (OpW.indexAddr (by omega) rfl rfl)) rfl (fun _ => rfl) rfl (fun _ _ => ⟨rfl, rfl, rfl⟩) rfl ?_))
      refine SXg.tail (fun xq _ _ => ?_)
      change SXl _ _ _ _ _ [⟨g8, gg.cells, 91⟩, ⟨g2, [.slice a l.length c], 37⟩] [⟨.slice (some ⟨go, 0, none⟩) fs.length qc, 91, 5, fs.length, ((A ++ { gf with x := xx, y := yy } :: B).map Frame.cells).flatten⟩] [] _ _ _
      refine l_store ?_
      refine SXl.storeOwn 0 rfl rfl rfl rfl (frame_len hA (by decide)) rfl rfl ?_
      simp only [List.set_cons_zero]
      rw [frame_put (y := { gf with x := IntKind.i64.wrap (xx + gg.x), y := yy }) hA (by decide) rfl]
      have hy1 : ((A ++ { gf with x := IntKind.i64.wrap (xx + gg.x), y := yy } :: B).map Frame.cells).flatten[0 + i * 5 + 2]? = some (.int .i64 yy) := frame_cell hA rfl
      repeat (first | refine SXl.nil ?_ | refine SQ.thenNormal ?_)
      refine SX.drawnG (ζ := Unit) 10 (fun _ _ => [⟨g8, gg.cells, 91⟩, ⟨g2, [.slice a l.length c], 37⟩]) (fun _ _ => [⟨.slice (some ⟨go, 0, none⟩) fs.length qc, 91, 5, fs.length, ((A ++ { gf with x := IntKind.i64.wrap (xx + gg.x), y := yy } :: B).map Frame.cells).flatten⟩]) (fun _ _ => []) [] () (by kernel_rfl) (by kernel_rfl) (by kernel_rfl) ⟨rfl, rfl, rfl⟩ ?_
      repeat (first | (refine SXg.v0 (fun dn x p ha hK => (OpW.loadOwn 0 rfl rfl hy1)) rfl (fun _ => rfl) rfl (fun _ _ => ⟨rfl, rfl, rfl⟩) rfl ?_) | (refine SXg.v0 (fun dn x p ha hK => (OpW.load 0 rfl rfl rfl)) rfl (fun _ => rfl) rfl (fun _ _ => ⟨rfl, rfl, rfl⟩) rfl ?_) | (refine SXg.v0 (fun dn x p ha hK => (OpW.fieldAddr rfl)) rfl (fun _ => rfl) rfl (fun _ _ => ⟨rfl, rfl, rfl⟩) rfl ?_) | (refine SXg.v0 (fun dn x p ha hK => (OpW.move rfl)) rfl (fun _ => rfl) rfl (fun _ _ => ⟨rfl, rfl, rfl⟩) rfl ?_) | (refine SXg.v0 (fun dn x p ha hK => (OpW.add rfl rfl)) rfl (fun _ => rfl) rfl (fun _ _ => ⟨rfl, rfl, rfl⟩) rfl ?_) | (refine SXg.v0 (fun dn x p ha hK => (OpW.indexAddr (by omega) rfl rfl)) rfl (fun _ => rfl) rfl (fun _ _ => ⟨rfl, rfl, rfl⟩) rfl ?_))
      refine SXg.tail (fun xq _ _ => ?_)
      change SXl _ _ _ _ _ [⟨g8, gg.cells, 91⟩, ⟨g2, [.slice a l.length c], 37⟩] [⟨.slice (some ⟨go, 0, none⟩) fs.length qc, 91, 5, fs.length, ((A ++ { gf with x := IntKind.i64.wrap (xx + gg.x), y := yy } :: B).map Frame.cells).flatten⟩] [] _ _ _
      refine l_store ?_
      refine SXl.storeOwn 0 rfl rfl rfl rfl (frame_len hA (by decide)) rfl rfl ?_
      simp only [List.set_cons_zero]
      rw [frame_put (y := { gf with x := IntKind.i64.wrap (xx + gg.x), y := IntKind.i64.wrap (yy + gg.y) }) hA (by decide) rfl]
      repeat (first | refine SXl.nil ?_ | refine SQ.blockNormal ?_)
      refine SQ.round3 f' z.up (IntKind.i64.wrap (xx + gg.x), IntKind.i64.wrap (yy + gg.y)) ⟨hnx h0, he⟩ (Nat.lt_succ_self _) ?_ (fun w hl => hl.drop1)
      (repeat (first | exact subF_nil _ | (refine subF_cons rfl ?_) | (refine subF_consv rfl (by rfl) ?_)))
set_option maxRecDepth 100000 in
set_option maxHeartbeats 16000000 in
theorem sabsolute_any (l : List Node) (fs : List Frame) (o : Bool) (a b : Option Addr) (c d : Nat) (R S : Nat → Prop) (w : World) (hlen : l.length ≤ 1048576) (hfit : ∀ x ∈ l, x.fits 1048576) (hfl : fs.length ≤ 1048576) (h : NodeSlice o R w a l) (hf : FrameSl S w b fs) :
    Calls Tryz.prog 18 #[.agg #[.slice a l.length c], .slice b fs.length d] w (NewSlice 91 5 w (absolute l fs).length ((absolute l fs).map Frame.cells).flatten) := by
  refine calls_sx Tryz.func18 rfl rfl (fun a h1 h2 h3 => ((Fr.nil h1 h2).arg (h3 1 _ rfl)).arg (h3 0 _ rfl)) ?_
  have hT := fun w' (hm : Mod (fun _ => False) w w') => streeOk_any l o a c R w' hlen hfit (h.keep hm)
  have hFA := fun (n : Int) w' (hm : Mod (fun _ => False) w w') => sframeAt_any fs n b d S w' hfl (hf.flatKeep hm)
  repeat (first | refine SX.seq ?_ | refine SXl.nil ?_ | refine SX.region ?_ | refine SQ.thenNormal ?_ | (refine l_move ?_; (refine SXl.v (OpW.move rfl) rfl ?_ ?_ ?_); rfl; rfl) | (refine l_assign ?_; (refine SXl.v (OpW.assign rfl) rfl ?_ ?_ ?_); rfl; rfl) | (refine l_box ?_; refine SXl.box ?_ ?_ rfl rfl (fun g => ?_); rfl; rfl) | (refine l_buildSlice ?_; refine SXl.lit0R rfl rfl (fun _ h => h) (fun g => ?_)))
  rename_i g2
  refine l_append ?_
  refine SXl.appendS (cs := Frame.cells) 0 fs rfl rfl rfl rfl rfl rfl frameC_len frameC_one (fun w hl => ⟨_, hf.flatKeep hl.mod⟩) (by omega) (by omega) (fun qa qc => ?_)
  simp only [List.set_cons_zero, Nat.zero_add, List.nil_append]
  cases hv : treeOk l
  · have e : absolute l fs = fs := by unfold absolute; rw [hv]; rfl
    rw [e]
    rw [hv] at hT
    repeat (first | refine SX.seq ?_ | refine SXl.nil ?_ | refine SX.region ?_ | refine SQ.thenNormal ?_ | refine SX.condT rfl ?_ | (refine l_call ?_; (refine SXl.v (OpW.call rfl (fun w hl => hT _ hl.mod)) rfl ?_ ?_ ?_); rfl; rfl) | (refine l_load ?_; (refine SXl.v (OpW.loadAll 0 rfl rfl rfl) rfl ?_ ?_ ?_); rfl; rfl) | (refine l_move ?_; (refine SXl.v (OpW.move rfl) rfl ?_ ?_ ?_); rfl; rfl) | (refine l_assign ?_; (refine SXl.v (OpW.assign rfl) rfl ?_ ?_ ?_); rfl; rfl) | (refine l_not ?_; (refine SXl.v (OpW.not rfl) rfl ?_ ?_ ?_); rfl; rfl) | refine SX.ret ?_ | refine SQ.thenRet ?_)
    refine SQ.body1 rfl rfl (fun w' hl => ⟨qa, qc, rfl, (hl.own _ List.mem_cons_self).1, hl.mod⟩)
  rw [hv] at hT
  have e : absolute l fs = absTo l fs fs.length := by unfold absolute absTo; rw [hv, List.take_length, List.drop_length, List.append_nil]; rfl
  have el : (absolute l fs).length = fs.length := by rw [e]; simp [absTo]
  rw [el, e]
  have e0 : absTo l fs 0 = fs := by simp [absTo]
  repeat (first | refine SX.seq ?_ | refine SXl.nil ?_ | refine SX.region ?_ | refine SQ.thenNormal ?_ | refine SX.block ?_ | refine SX.skip ?_ | refine SX.condF rfl ?_ | (refine l_call ?_; (refine SXl.v (OpW.call rfl (fun w hl => hT _ hl.mod)) rfl ?_ ?_ ?_); rfl; rfl) | (refine l_load ?_; (refine SXl.v (OpW.loadAll 0 rfl rfl rfl) rfl ?_ ?_ ?_); rfl; rfl) | (refine l_assign ?_; (refine SXl.v (OpW.assign rfl) rfl ?_ ?_ ?_); rfl; rfl) | (refine l_not ?_; (refine SXl.v (OpW.not rfl) rfl ?_ ?_ ?_); rfl; rfl))
  refine SX.loop3 (fun (i : Nat) (_ _ : Unit) => i ≤ fs.length) (fun i _ _ => fs.length - i) (fun _ _ _ => [⟨g2, [.slice a l.length c], 37⟩]) (fun i _ _ => [⟨.slice qa fs.length qc, 91, 5, fs.length, ((absTo l fs i).map Frame.cells).flatten⟩]) (fun _ _ _ => []) (fun i _ _ => [(1, .slice b fs.length d), (2, .pointer (some ⟨g2, 0, none⟩)), (5, .slice qa fs.length qc), (6, .int .i64 i)]) 0 () () (Nat.zero_le _) ?_ (fun w hl => by rw [e0]; exact hl) ?_
  · (repeat (first | exact subF_nil _ | (refine subF_cons rfl ?_) | (refine subF_consv rfl (by rfl) ?_)))
  rintro i _ _ hi
  by_cases hil : i < fs.length
  rotate_left
  · have hie : i = fs.length := by omega
    rw [hie]
    repeat (first | refine SX.seq ?_ | refine SXl.nil ?_ | refine SX.region ?_ | refine SQ.thenNormal ?_ | refine SX.condF rfl ?_ | (refine l_move ?_; (refine SXl.v (OpW.move rfl) rfl ?_ ?_ ?_); rfl; rfl) | (refine l_assign ?_; (refine SXl.v (OpW.assign rfl) rfl ?_ ?_ ?_); rfl; rfl) | (refine l_len ?_; (refine SXl.v (OpW.len rfl) rfl ?_ ?_ ?_); rfl; rfl) | (refine l_lss ?_; (refine SXl.v (OpW.lssF rfl rfl (by omega)) rfl ?_ ?_ ?_); rfl; rfl) | refine SX.ret ?_ | refine SX.exit ?_ | refine SQ.thenExit ?_ | refine SQ.blockExit ?_)
    refine SQ.body1 rfl rfl (fun w' hl => ⟨qa, qc, rfl, (hl.own _ List.mem_cons_self).1, hl.mod⟩)
  obtain ⟨gf, hgf⟩ : ∃ gf, fs[i]? = some gf := ⟨_, List.getElem?_eq_getElem hil⟩
  have hA : ((fs.take i).map (absOf l fs)).length = i := by rw [List.length_map, List.length_take]; omega
  have h1 : absTo l fs i = (fs.take i).map (absOf l fs) ++ gf :: fs.drop (i + 1) := by
    unfold absTo
    rw [List.drop_eq_getElem_cons hil]
    rw [List.getElem?_eq_getElem hil] at hgf
    rw [Option.some.inj hgf]
  have h2 : absTo l fs (i + 1) = (fs.take i).map (absOf l fs) ++ absOf l fs gf :: fs.drop (i + 1) := by
    unfold absTo
    rw [List.take_add_one, hgf]
    simp
  rw [h1]
  have h2' : ∀ xx yy, absF l fs 5 gf.node gf.x gf.y = (xx, yy) → absTo l fs (i + 1) = (fs.take i).map (absOf l fs) ++ { gf with x := xx, y := yy } :: fs.drop (i + 1) := fun xx yy he => by rw [h2, absOf, he]
  clear h2
  generalize (fs.take i).map (absOf l fs) = A at *
  generalize fs.drop (i + 1) = B at *
  refine SX.know (fun w hl => row_addr (hl.own _ List.mem_cons_self).1 (by omega)) (fun ⟨go, hgo⟩ => ?_)
  subst hgo
  have hc0 : ((A ++ gf :: B).map Frame.cells).flatten[0 + i * 5 + 0]? = some (.int .i64 gf.node) := frame_cell hA rfl
  repeat (first | refine SX.seq ?_ | refine SXl.nil ?_ | refine SX.region ?_ | refine SQ.thenNormal ?_ | refine SX.block ?_ | refine SX.skip ?_ | refine SX.condT rfl ?_ | (refine l_load ?_; (refine SXl.v (OpW.loadOwn 0 rfl rfl hc0) rfl ?_ ?_ ?_); rfl; rfl) | (refine l_fieldAddr ?_; (refine SXl.v (OpW.fieldAddr rfl) rfl ?_ ?_ ?_); rfl; rfl) | (refine l_move ?_; (refine SXl.v (OpW.move rfl) rfl ?_ ?_ ?_); rfl; rfl) | (refine l_assign ?_; (refine SXl.v (OpW.assign rfl) rfl ?_ ?_ ?_); rfl; rfl) | (refine l_len ?_; (refine SXl.v (OpW.len rfl) rfl ?_ ?_ ?_); rfl; rfl) | (refine l_lss ?_; (refine SXl.v (OpW.lssT rfl rfl (by omega)) rfl ?_ ?_ ?_); rfl; rfl) | (refine l_indexAddr ?_; (refine SXl.v (OpW.indexAddr (by omega) rfl rfl) rfl ?_ ?_ ?_); rfl; rfl))
  refine SX.loop3 (fun (f : Nat) (m : Int) (xy : Int × Int) => AbsAt l f m ∧ absF l fs f m xy.1 xy.2 = absF l fs 5 gf.node gf.x gf.y) (fun f _ _ => f) (fun _ _ _ => [⟨g2, [.slice a l.length c], 37⟩]) (fun _ _ xy => [⟨.slice (some ⟨go, 0, none⟩) fs.length qc, 91, 5, fs.length, ((A ++ { gf with x := xy.1, y := xy.2 } :: B).map Frame.cells).flatten⟩]) (fun _ _ _ => []) (fun _ m _ => [(1, .slice b fs.length d), (2, .pointer (some ⟨g2, 0, none⟩)), (5, .slice (some ⟨go, 0, none⟩) fs.length qc), (6, .int .i64 i), (7, .int .i64 m)]) 5 gf.node (gf.x, gf.y) ⟨AbsAt.start hv _, rfl⟩ ?_ (fun w hl => hl) ?_
  · (repeat (first | exact subF_nil _ | (refine subF_cons rfl ?_) | (refine subF_consv rfl (by rfl) ?_)))
  rintro f m ⟨xx, yy⟩ ⟨hat, he⟩
  simp only at he
  cases hm : inB m 1 l.length
  · rw [absF_out hm] at he
    have h3 := h2' xx yy he.symm
    repeat (first | refine SX.seq ?_ | refine SXl.nil ?_ | refine SX.region ?_ | refine SQ.thenNormal ?_ | refine SX.condF rfl ?_ | (refine l_call ?_; (refine SXl.v (OpW.call rfl (fun w hl => sisNode_any _ _ _ _ _)) rfl ?_ ?_ ?_); rfl; rfl) | (refine l_load ?_; (refine SXl.v (OpW.loadAll 0 rfl rfl rfl) rfl ?_ ?_ ?_); rfl; rfl) | (refine l_move ?_; (refine SXl.v (OpW.move rfl) rfl ?_ ?_ ?_); rfl; rfl) | (refine l_assign ?_; (refine SXl.v (OpW.assign rfl) rfl ?_ ?_ ?_); rfl; rfl) | (refine l_add ?_; (refine SXl.v (OpW.succ rfl rfl (by omega)) rfl ?_ ?_ ?_); rfl; rfl) | (rw [hm]) | refine SX.exit ?_ | refine SQ.thenExit ?_ | refine SQ.blockNormal ?_ | refine SQ.blockExit ?_)
    refine SQ.round3 (i + 1) () () (by omega) (by omega) ?_ (fun w hl => by rw [h3]; exact hl)
    (repeat (first | exact subF_nil _ | (refine subF_cons rfl ?_) | (refine subF_consv rfl (by rfl) ?_)))
  have hdm := hat hm
  have hdm1 := ok_dep hv hm
  obtain ⟨f', rfl⟩ : ∃ f', f = f' + 1 := ⟨f - 1, by omega⟩
  have hnx := AbsAt.next hv hat hm
  obtain ⟨ka, kc, ra, rc, -, -, hN⟩ := node_row (c := c) hlen h hm
  rw [absF, hm] at he
  simp only [if_true] at he
  generalize nodeAt l m = z at *
  have hFz := hFA z.up
  by_cases h0 : z.up = 0
  · have he2 : (xx, yy) = absF l fs 5 gf.node gf.x gf.y := by
      rw [← he]
      cases frameAt fs z.up <;> simp [h0]
    have h3 := h2' xx yy he2.symm
    repeat (first | refine SX.seq ?_ | refine SXl.nil ?_ | refine SX.region ?_ | refine SQ.thenNormal ?_ | refine SX.block ?_ | refine SX.skip ?_ | refine SX.condT rfl ?_ | (refine SXl.no rfl rfl rfl ?_) | (refine l_call ?_; (first | refine SXl.v (OpW.call rfl (fun w hl => sisNode_any _ _ _ _ _)) rfl ?_ ?_ ?_ | refine SXl.v (OpW.call rfl (fun w hl => hN _ hl.mod)) rfl ?_ ?_ ?_ | refine SXl.v (OpW.call rfl (fun w hl => hFz _ hl.mod)) rfl ?_ ?_ ?_); rfl; rfl) | (refine l_field ?_; (refine SXl.v (OpW.nodeUp rfl) rfl ?_ ?_ ?_); rfl; rfl) | (refine l_load ?_; (refine SXl.v (OpW.loadAll 0 rfl rfl rfl) rfl ?_ ?_ ?_); rfl; rfl) | (refine l_move ?_; (refine SXl.v (OpW.move rfl) rfl ?_ ?_ ?_); rfl; rfl) | (refine l_assign ?_; (refine SXl.v (OpW.assign rfl) rfl ?_ ?_ ?_); rfl; rfl) | (refine l_add ?_; (refine SXl.v (OpW.succ rfl rfl (by omega)) rfl ?_ ?_ ?_); rfl; rfl) | (refine l_eql ?_; (refine SXl.v (OpW.eqlT rfl rfl (by omega)) rfl ?_ ?_ ?_); rfl; rfl) | (refine l_pick ?_; (refine SXl.v (OpW.pick rfl rfl rfl) rfl ?_ ?_ ?_); rfl; rfl) | (refine l_extract ?_; (refine SXl.v (OpW.extract rfl rfl) rfl ?_ ?_ ?_); rfl; rfl) | (refine l_alloc ?_; refine SXl.alloc ?_ ?_ (fun g => ?_); rfl; rfl) | (refine l_store ?_; first | (refine SXl.store 0 ?_ rfl rfl rfl rfl rfl rfl ?_; rfl; simp only [List.set_cons_zero, List.set_cons_succ]) | (refine SXl.store 1 ?_ rfl rfl rfl rfl rfl rfl ?_; rfl; simp only [List.set_cons_zero, List.set_cons_succ]) | (refine SXl.store 2 ?_ rfl rfl rfl rfl rfl rfl ?_; rfl; simp only [List.set_cons_zero, List.set_cons_succ]) | (refine SXl.storeAll 0 ?_ rfl rfl rfl rfl rfl rfl rfl ?_; rfl; simp only [List.set_cons_zero, List.set_cons_succ]) | (refine SXl.storeAll 1 ?_ rfl rfl rfl rfl rfl rfl rfl ?_; rfl; simp only [List.set_cons_zero, List.set_cons_succ]) | (refine SXl.storeAll 2 ?_ rfl rfl rfl rfl rfl rfl rfl ?_; rfl; simp only [List.set_cons_zero, List.set_cons_succ]) | (refine SXl.storeRow 0 ?_ rfl rfl rfl rfl rfl rfl rfl ?_; rfl; simp only [over, List.set_cons_zero, List.set_cons_succ]) | (refine SXl.storeRow 1 ?_ rfl rfl rfl rfl rfl rfl rfl ?_; rfl; simp only [over, List.set_cons_zero, List.set_cons_succ]) | (refine SXl.storeRow 2 ?_ rfl rfl rfl rfl rfl rfl rfl ?_; rfl; simp only [over, List.set_cons_zero, List.set_cons_succ])) | (rw [hm]) | refine SX.exit ?_ | refine SQ.thenExit ?_ | refine SQ.blockNormal ?_ | refine SQ.blockExit ?_ | refine SQ.blockOther rfl ?_)
    refine SQ.round3 (i + 1) () () (by omega) (by omega) ?_ (fun w hl => by rw [h3]; exact hl.drop1)
    (repeat (first | exact subF_nil _ | (refine subF_cons rfl ?_) | (refine subF_consv rfl (by rfl) ?_)))
  cases hfa : frameAt fs z.up with
  | none =>
    rw [hfa] at he hFz
    simp only [Option.getD_none, Option.isSome_none] at he hFz
    have h3 := h2' xx yy he.symm
    repeat (first | refine SX.seq ?_ | refine SXl.nil ?_ | refine SX.region ?_ | refine SQ.thenNormal ?_ | refine SX.block ?_ | refine SX.skip ?_ | refine SX.condT rfl ?_ | (refine l_call ?_; (first | refine SXl.v (OpW.call rfl (fun w hl => sisNode_any _ _ _ _ _)) rfl ?_ ?_ ?_ | refine SXl.v (OpW.call rfl (fun w hl => hN _ hl.mod)) rfl ?_ ?_ ?_ | refine SXl.v (OpW.call rfl (fun w hl => hFz _ hl.mod)) rfl ?_ ?_ ?_); rfl; rfl) | (refine l_field ?_; (refine SXl.v (OpW.nodeUp rfl) rfl ?_ ?_ ?_); rfl; rfl) | (refine l_load ?_; (refine SXl.v (OpW.loadAll 0 rfl rfl rfl) rfl ?_ ?_ ?_); rfl; rfl) | (refine l_move ?_; (refine SXl.v (OpW.move rfl) rfl ?_ ?_ ?_); rfl; rfl) | (refine l_assign ?_; (refine SXl.v (OpW.assign rfl) rfl ?_ ?_ ?_); rfl; rfl) | (refine l_add ?_; (refine SXl.v (OpW.succ rfl rfl (by omega)) rfl ?_ ?_ ?_); rfl; rfl) | (refine l_eql ?_; (refine SXl.v (OpW.eqlF rfl rfl (by omega)) rfl ?_ ?_ ?_); rfl; rfl) | (refine l_not ?_; (refine SXl.v (OpW.not rfl) rfl ?_ ?_ ?_); rfl; rfl) | (refine l_pick ?_; (refine SXl.v (OpW.pick rfl rfl rfl) rfl ?_ ?_ ?_); rfl; rfl) | (refine l_extract ?_; (refine SXl.v (OpW.extract rfl rfl) rfl ?_ ?_ ?_); rfl; rfl) | (refine l_alloc ?_; refine SXl.alloc ?_ ?_ (fun g => ?_); rfl; rfl) | (refine l_store ?_; first | (refine SXl.store 0 ?_ rfl rfl rfl rfl rfl rfl ?_; rfl; simp only [List.set_cons_zero, List.set_cons_succ]) | (refine SXl.store 1 ?_ rfl rfl rfl rfl rfl rfl ?_; rfl; simp only [List.set_cons_zero, List.set_cons_succ]) | (refine SXl.store 2 ?_ rfl rfl rfl rfl rfl rfl ?_; rfl; simp only [List.set_cons_zero, List.set_cons_succ]) | (refine SXl.storeAll 0 ?_ rfl rfl rfl rfl rfl rfl rfl ?_; rfl; simp only [List.set_cons_zero, List.set_cons_succ]) | (refine SXl.storeAll 1 ?_ rfl rfl rfl rfl rfl rfl rfl ?_; rfl; simp only [List.set_cons_zero, List.set_cons_succ]) | (refine SXl.storeAll 2 ?_ rfl rfl rfl rfl rfl rfl rfl ?_; rfl; simp only [List.set_cons_zero, List.set_cons_succ]) | (refine SXl.storeRow 0 ?_ rfl rfl rfl rfl rfl rfl rfl ?_; rfl; simp only [over, List.set_cons_zero, List.set_cons_succ]) | (refine SXl.storeRow 1 ?_ rfl rfl rfl rfl rfl rfl rfl ?_; rfl; simp only [over, List.set_cons_zero, List.set_cons_succ]) | (refine SXl.storeRow 2 ?_ rfl rfl rfl rfl rfl rfl rfl ?_; rfl; simp only [over, List.set_cons_zero, List.set_cons_succ])) | (rw [hm]) | refine SX.exit ?_ | refine SQ.thenExit ?_ | refine SQ.blockNormal ?_ | refine SQ.blockExit ?_ | refine SQ.blockOther rfl ?_)
    refine SQ.round3 (i + 1) () () (by omega) (by omega) ?_ (fun w hl => by rw [h3]; exact hl.drop1)
    (repeat (first | exact subF_nil _ | (refine subF_cons rfl ?_) | (refine subF_consv rfl (by rfl) ?_)))
  | some gg =>
    rw [hfa] at he hFz
    simp only [Option.getD_some, Option.isSome_some] at he hFz
    rw [if_neg h0] at he
    · repeat (first | refine SX.seq ?_ | refine SXl.nil ?_ | refine SX.region ?_ | refine SQ.thenNormal ?_ | refine SX.block ?_ | refine SX.skip ?_ | refine SX.condT rfl ?_ | refine SX.condF rfl ?_ | (refine l_call ?_; (first | refine SXl.v (OpW.call rfl (fun w hl => sisNode_any _ _ _ _ _)) rfl ?_ ?_ ?_ | refine SXl.v (OpW.call rfl (fun w hl => hN _ hl.mod)) rfl ?_ ?_ ?_ | refine SXl.v (OpW.call rfl (fun w hl => hFz _ hl.mod)) rfl ?_ ?_ ?_); rfl; rfl) | (refine l_field ?_; (refine SXl.v (OpW.nodeUp rfl) rfl ?_ ?_ ?_); rfl; rfl) | (refine l_load ?_; (refine SXl.v (OpW.loadAll 0 rfl rfl rfl) rfl ?_ ?_ ?_); rfl; rfl) | (refine l_move ?_; (refine SXl.v (OpW.move rfl) rfl ?_ ?_ ?_); rfl; rfl) | (refine l_assign ?_; (refine SXl.v (OpW.assign rfl) rfl ?_ ?_ ?_); rfl; rfl) | (refine l_eql ?_; (refine SXl.v (OpW.eqlF rfl rfl (by omega)) rfl ?_ ?_ ?_); rfl; rfl) | (refine l_not ?_; (refine SXl.v (OpW.not rfl) rfl ?_ ?_ ?_); rfl; rfl) | (refine l_pick ?_; (refine SXl.v (OpW.pick rfl rfl rfl) rfl ?_ ?_ ?_); rfl; rfl) | (refine l_extract ?_; (refine SXl.v (OpW.extract rfl rfl) rfl ?_ ?_ ?_); rfl; rfl) | (refine l_alloc ?_; refine SXl.alloc ?_ ?_ (fun g => ?_); rfl; rfl) | (refine l_store ?_; first | (refine SXl.store 0 ?_ rfl rfl rfl rfl rfl rfl ?_; rfl; simp only [List.set_cons_zero, List.set_cons_succ]) | (refine SXl.store 1 ?_ rfl rfl rfl rfl rfl rfl ?_; rfl; simp only [List.set_cons_zero, List.set_cons_succ]) | (refine SXl.store 2 ?_ rfl rfl rfl rfl rfl rfl ?_; rfl; simp only [List.set_cons_zero, List.set_cons_succ]) | (refine SXl.storeAll 0 ?_ rfl rfl rfl rfl rfl rfl rfl ?_; rfl; simp only [List.set_cons_zero, List.set_cons_succ]) | (refine SXl.storeAll 1 ?_ rfl rfl rfl rfl rfl rfl rfl ?_; rfl; simp only [List.set_cons_zero, List.set_cons_succ]) | (refine SXl.storeAll 2 ?_ rfl rfl rfl rfl rfl rfl rfl ?_; rfl; simp only [List.set_cons_zero, List.set_cons_succ]) | (refine SXl.storeRow 0 ?_ rfl rfl rfl rfl rfl rfl rfl ?_; rfl; simp only [over, List.set_cons_zero, List.set_cons_succ]) | (refine SXl.storeRow 1 ?_ rfl rfl rfl rfl rfl rfl rfl ?_; rfl; simp only [over, List.set_cons_zero, List.set_cons_succ]) | (refine SXl.storeRow 2 ?_ rfl rfl rfl rfl rfl rfl rfl ?_; rfl; simp only [over, List.set_cons_zero, List.set_cons_succ])) | (rw [hm]))
      revert g; intro g8
      have hx1 : ((A ++ { gf with x := xx, y := yy } :: B).map Frame.cells).flatten[0 + i * 5 + 1]? = some (.int .i64 xx) := frame_cell hA rfl
      skip
      refine SX.drawnG (ζ := Unit) 12 (fun _ _ => [⟨g8, gg.cells, 91⟩, ⟨g2, [.slice a l.length c], 37⟩]) (fun _ _ => [⟨.slice (some ⟨go, 0, none⟩) fs.length qc, 91, 5, fs.length, ((A ++ { gf with x := xx, y := yy } :: B).map Frame.cells).flatten⟩]) (fun _ _ => []) [] () (by kernel_rfl) (by kernel_rfl) (by kernel_rfl) ⟨rfl, rfl, rfl⟩ ?_
      repeat (first | (refine SXg.v0 (fun dn x p ha hK => (OpW.loadOwn 0 rfl rfl hx1)) rfl (fun _ => rfl) rfl (fun _ _ => ⟨rfl, rfl, rfl⟩) rfl ?_) | (refine SXg.v0 (fun dn x p ha hK => (OpW.load 0 rfl rfl rfl)) rfl (fun _ => rfl) rfl (fun _ _ => ⟨rfl, rfl, rfl⟩) rfl ?_) | (refine SXg.v0 (fun dn x p ha hK => (OpW.fieldAddr rfl)) rfl (fun _ => rfl) rfl (fun _ _ => ⟨rfl, rfl, rfl⟩) rfl ?_) | (refine SXg.v0 (fun dn x p ha hK => (OpW.move rfl)) rfl (fun _ => rfl) rfl (fun _ _ => ⟨rfl, rfl, rfl⟩) rfl ?_) | (refine SXg.v0 (fun dn x p ha hK => (OpW.add rfl rfl)) rfl (fun _ => rfl) rfl (fun _ _ => ⟨rfl, rfl, rfl⟩) rfl ?_) | (refine SXg.v0 (fun dn x p ha hK => (OpW.indexAddr (by omega) rfl rfl)) rfl (fun _ => rfl) rfl (fun _ _ => ⟨rfl, rfl, rfl⟩) rfl ?_))
      refine SXg.tail (fun xq _ _ => ?_)
      change SXl _ _ _ _ _ [⟨g8, gg.cells, 91⟩, ⟨g2, [.slice a l.length c], 37⟩] [⟨.slice (some ⟨go, 0, none⟩) fs.length qc, 91, 5, fs.length, ((A ++ { gf with x := xx, y := yy } :: B).map Frame.cells).flatten⟩] [] _ _ _
      refine l_store ?_
      refine SXl.storeOwn 0 rfl rfl rfl rfl (frame_len hA (by decide)) rfl rfl ?_
      simp only [List.set_cons_zero]
      rw [frame_put (y := { gf with x := IntKind.i64.wrap (xx + gg.x), y := yy }) hA (by decide) rfl]
      have hy1 : ((A ++ { gf with x := IntKind.i64.wrap (xx + gg.x), y := yy } :: B).map Frame.cells).flatten[0 + i * 5 + 2]? = some (.int .i64 yy) := frame_cell hA rfl
      repeat (first | refine SXl.nil ?_ | refine SQ.thenNormal ?_)
      refine SX.drawnG (ζ := Unit) 12 (fun _ _ => [⟨g8, gg.cells, 91⟩, ⟨g2, [.slice a l.length c], 37⟩]) (fun _ _ => [⟨.slice (some ⟨go, 0, none⟩) fs.length qc, 91, 5, fs.length, ((A ++ { gf with x := IntKind.i64.wrap (xx + gg.x), y := yy } :: B).map Frame.cells).flatten⟩]) (fun _ _ => []) [] () (by kernel_rfl) (by kernel_rfl) (by kernel_rfl) ⟨rfl, rfl, rfl⟩ ?_
      repeat (first | (refine SXg.v0 (fun dn x p ha hK => (OpW.loadOwn 0 rfl rfl hy1)) rfl (fun _ => rfl) rfl (fun _ _ => ⟨rfl, rfl, rfl⟩) rfl ?_) | (refine SXg.v0 (fun dn x p ha hK => (OpW.load 0 rfl rfl rfl)) rfl (fun _ => rfl) rfl (fun _ _ => ⟨rfl, rfl, rfl⟩) rfl ?_) | (refine SXg.v0 (fun dn x p ha hK => (OpW.fieldAddr rfl)) rfl (fun _ => rfl) rfl (fun _ _ => ⟨rfl, rfl, rfl⟩) rfl ?_) | (refine SXg.v0 (fun dn x p ha hK => (OpW.move rfl)) rfl (fun _ => rfl) rfl (fun _ _ => ⟨rfl, rfl, rfl⟩) rfl ?_) | (refine SXg.v0 (fun dn x p ha hK => (OpW.add rfl rfl)) rfl (fun _ => rfl) rfl (fun _ _ => ⟨rfl, rfl, rfl⟩) rfl ?_) | (refine SXg.v0 (fun dn x p ha hK => (OpW.indexAddr (by omega) rfl rfl)) rfl (fun _ => rfl) rfl (fun _ _ => ⟨rfl, rfl, rfl⟩) rfl ?_))
      refine SXg.tail (fun xq _ _ => ?_)
      change SXl _ _ _ _ _ [⟨g8, gg.cells, 91⟩, ⟨g2, [.slice a l.length c], 37⟩] [⟨.slice (some ⟨go, 0, none⟩) fs.length qc, 91, 5, fs.length, ((A ++ { gf with x := IntKind.i64.wrap (xx + gg.x), y := yy } :: B).map Frame.cells).flatten⟩] [] _ _ _
      refine l_store ?_
      refine SXl.storeOwn 0 rfl rfl rfl rfl (frame_len hA (by decide)) rfl rfl ?_
      simp only [List.set_cons_zero]
      rw [frame_put (y := { gf with x := IntKind.i64.wrap (xx + gg.x), y := IntKind.i64.wrap (yy + gg.y) }) hA (by decide) rfl]
      repeat (first | refine SXl.nil ?_ | refine SQ.blockNormal ?_)
      refine SQ.round3 f' z.up (IntKind.i64.wrap (xx + gg.x), IntKind.i64.wrap (yy + gg.y)) ⟨hnx h0, he⟩ (Nat.lt_succ_self _) ?_ (fun w hl => hl.drop1)
      (repeat (first | exact subF_nil _ | (refine subF_cons rfl ?_) | (refine subF_consv rfl (by rfl) ?_)))
end Go.Proofs.YtpkpkojmaebflaaGreatDoor
namespace Go.Proofs.YtpkpkojmaebflaaGreatDoor
open Go.RowKit

theorem cut_at (cs : List Value) (o n m : Nat) (h : o + n = m) : cs.drop o = (cs.drop o).take n ++ cs.drop m := by
  subst h
  rw [← List.drop_drop, List.take_append_drop]

set_option maxRecDepth 100000 in
set_option maxHeartbeats 4000000 in
theorem rdA_Val {w : World} {cs : List Value} (h : Rd Tryz.prog w 119 cs) : ∃ x : Val, cs = x.cells := by
  obtain ⟨hl, hf⟩ := h.struct Tryz.underlying119
  have hl2 : cs.length = 2 := hl.trans (by kernel_rfl)
  have cz0 : Tryz.prog.cellsOf 3 = 1 := by kernel_rfl
  match cs, hl2 with
  | [q0, q1], _ =>
    obtain ⟨v0, e0, _⟩ := (hf 0 _ rfl).int Tryz.underlying3
    simp [cz0] at e0
    obtain ⟨v1, e1, _⟩ := (hf 1 _ rfl).int Tryz.underlying3
    simp [cz0] at e1
    exact ⟨⟨v0, v1⟩, by simp [Val.cells, e0, e1]⟩

set_option maxRecDepth 100000 in
set_option maxHeartbeats 4000000 in
theorem rdA_Sides {w : World} {cs : List Value} (h : Rd Tryz.prog w 121 cs) : ∃ x : Sides, cs = x.cells := by
  obtain ⟨hl, hf⟩ := h.struct Tryz.underlying121
  have hl2 : cs.length = 12 := hl.trans (by kernel_rfl)
  have cz0 : Tryz.prog.cellsOf 119 = 2 := by kernel_rfl
  match cs, hl2 with
  | [q0, q1, q2, q3, q4, q5, q6, q7, q8, q9, q10, q11], _ =>
    obtain ⟨v0, e0⟩ := rdA_Val (hf 0 _ rfl)
    simp [cz0, Val.cells] at e0
    obtain ⟨v1, e1⟩ := rdA_Val (hf 1 _ rfl)
    simp [cz0, Val.cells] at e1
    obtain ⟨v2, e2⟩ := rdA_Val (hf 2 _ rfl)
    simp [cz0, Val.cells] at e2
    obtain ⟨v3, e3⟩ := rdA_Val (hf 3 _ rfl)
    simp [cz0, Val.cells] at e3
    obtain ⟨v4, e4⟩ := rdA_Val (hf 4 _ rfl)
    simp [cz0, Val.cells] at e4
    obtain ⟨v5, e5⟩ := rdA_Val (hf 5 _ rfl)
    simp [cz0, Val.cells] at e5
    exact ⟨⟨v0, v1, v2, v3, v4, v5⟩, by simp [Sides.cells, e0, e1, e2, e3, e4, e5]⟩

set_option maxRecDepth 100000 in
set_option maxHeartbeats 4000000 in
theorem rdA_Edges {w : World} {cs : List Value} (h : Rd Tryz.prog w 122 cs) : ∃ x : Edges, cs = x.cells := by
  obtain ⟨hl, hf⟩ := h.struct Tryz.underlying122
  have hl2 : cs.length = 4 := hl.trans (by kernel_rfl)
  have cz0 : Tryz.prog.cellsOf 3 = 1 := by kernel_rfl
  match cs, hl2 with
  | [q0, q1, q2, q3], _ =>
    obtain ⟨v0, e0, _⟩ := (hf 0 _ rfl).int Tryz.underlying3
    simp [cz0] at e0
    obtain ⟨v1, e1, _⟩ := (hf 1 _ rfl).int Tryz.underlying3
    simp [cz0] at e1
    obtain ⟨v2, e2, _⟩ := (hf 2 _ rfl).int Tryz.underlying3
    simp [cz0] at e2
    obtain ⟨v3, e3, _⟩ := (hf 3 _ rfl).int Tryz.underlying3
    simp [cz0] at e3
    exact ⟨⟨v0, v1, v2, v3⟩, by simp [Edges.cells, e0, e1, e2, e3]⟩

set_option maxRecDepth 100000 in
set_option maxHeartbeats 4000000 in
theorem rdA_Style {w : World} {cs : List Value} (h : Rd Tryz.prog w 124 cs) : ∃ x : Style, cs = x.cells := by
  obtain ⟨hl, hf⟩ := h.struct Tryz.underlying124
  have hl2 : cs.length = 60 := hl.trans (by kernel_rfl)
  have cz0 : Tryz.prog.cellsOf 122 = 4 := by kernel_rfl
  have cz1 : Tryz.prog.cellsOf 121 = 12 := by kernel_rfl
  have cz2 : Tryz.prog.cellsOf 119 = 2 := by kernel_rfl
  have cz3 : Tryz.prog.cellsOf 4 = 1 := by kernel_rfl
  have cz4 : Tryz.prog.cellsOf 3 = 1 := by kernel_rfl
  obtain ⟨v0, e0, _⟩ := (hf 0 _ rfl).int Tryz.underlying3
  replace e0 : (cs.drop 0).take (Tryz.prog.cellsOf 3) = [.int .i64 v0] := e0
  rw [cz4] at e0
  obtain ⟨v1, e1, _⟩ := (hf 1 _ rfl).int Tryz.underlying3
  replace e1 : (cs.drop 1).take (Tryz.prog.cellsOf 3) = [.int .i64 v1] := e1
  rw [cz4] at e1
  obtain ⟨v2, e2, _⟩ := (hf 2 _ rfl).int Tryz.underlying3
  replace e2 : (cs.drop 2).take (Tryz.prog.cellsOf 3) = [.int .i64 v2] := e2
  rw [cz4] at e2
  obtain ⟨v3, e3, _⟩ := (hf 3 _ rfl).int Tryz.underlying3
  replace e3 : (cs.drop 3).take (Tryz.prog.cellsOf 3) = [.int .i64 v3] := e3
  rw [cz4] at e3
  obtain ⟨v4, e4, _⟩ := (hf 4 _ rfl).int Tryz.underlying3
  replace e4 : (cs.drop 4).take (Tryz.prog.cellsOf 3) = [.int .i64 v4] := e4
  rw [cz4] at e4
  obtain ⟨v5, e5, _⟩ := (hf 5 _ rfl).int Tryz.underlying3
  replace e5 : (cs.drop 5).take (Tryz.prog.cellsOf 3) = [.int .i64 v5] := e5
  rw [cz4] at e5
  obtain ⟨v6, e6⟩ := (hf 6 _ rfl).bool Tryz.underlying4
  replace e6 : (cs.drop 6).take (Tryz.prog.cellsOf 4) = [.bool v6] := e6
  rw [cz3] at e6
  obtain ⟨v7, e7⟩ := (hf 7 _ rfl).bool Tryz.underlying4
  replace e7 : (cs.drop 7).take (Tryz.prog.cellsOf 4) = [.bool v7] := e7
  rw [cz3] at e7
  obtain ⟨v8, e8, _⟩ := (hf 8 _ rfl).int Tryz.underlying3
  replace e8 : (cs.drop 8).take (Tryz.prog.cellsOf 3) = [.int .i64 v8] := e8
  rw [cz4] at e8
  obtain ⟨v9, e9, _⟩ := (hf 9 _ rfl).int Tryz.underlying3
  replace e9 : (cs.drop 9).take (Tryz.prog.cellsOf 3) = [.int .i64 v9] := e9
  rw [cz4] at e9
  obtain ⟨v10, e10, _⟩ := (hf 10 _ rfl).int Tryz.underlying3
  replace e10 : (cs.drop 10).take (Tryz.prog.cellsOf 3) = [.int .i64 v10] := e10
  rw [cz4] at e10
  obtain ⟨v11, e11⟩ := rdA_Val (hf 11 _ rfl)
  replace e11 : (cs.drop 11).take (Tryz.prog.cellsOf 119) = v11.cells := e11
  rw [cz2] at e11
  obtain ⟨v12, e12⟩ := rdA_Val (hf 12 _ rfl)
  replace e12 : (cs.drop 13).take (Tryz.prog.cellsOf 119) = v12.cells := e12
  rw [cz2] at e12
  obtain ⟨v13, e13⟩ := rdA_Val (hf 13 _ rfl)
  replace e13 : (cs.drop 15).take (Tryz.prog.cellsOf 119) = v13.cells := e13
  rw [cz2] at e13
  obtain ⟨v14, e14⟩ := rdA_Val (hf 14 _ rfl)
  replace e14 : (cs.drop 17).take (Tryz.prog.cellsOf 119) = v14.cells := e14
  rw [cz2] at e14
  obtain ⟨v15, e15⟩ := rdA_Val (hf 15 _ rfl)
  replace e15 : (cs.drop 19).take (Tryz.prog.cellsOf 119) = v15.cells := e15
  rw [cz2] at e15
  obtain ⟨v16, e16⟩ := rdA_Val (hf 16 _ rfl)
  replace e16 : (cs.drop 21).take (Tryz.prog.cellsOf 119) = v16.cells := e16
  rw [cz2] at e16
  obtain ⟨v17, e17⟩ := rdA_Val (hf 17 _ rfl)
  replace e17 : (cs.drop 23).take (Tryz.prog.cellsOf 119) = v17.cells := e17
  rw [cz2] at e17
  obtain ⟨v18, e18, _⟩ := (hf 18 _ rfl).int Tryz.underlying3
  replace e18 : (cs.drop 25).take (Tryz.prog.cellsOf 3) = [.int .i64 v18] := e18
  rw [cz4] at e18
  obtain ⟨v19, e19⟩ := rdA_Sides (hf 19 _ rfl)
  replace e19 : (cs.drop 26).take (Tryz.prog.cellsOf 121) = v19.cells := e19
  rw [cz1] at e19
  obtain ⟨v20, e20⟩ := rdA_Sides (hf 20 _ rfl)
  replace e20 : (cs.drop 38).take (Tryz.prog.cellsOf 121) = v20.cells := e20
  rw [cz1] at e20
  obtain ⟨v21, e21⟩ := rdA_Edges (hf 21 _ rfl)
  replace e21 : (cs.drop 50).take (Tryz.prog.cellsOf 122) = v21.cells := e21
  rw [cz0] at e21
  obtain ⟨v22, e22⟩ := rdA_Edges (hf 22 _ rfl)
  replace e22 : (cs.drop 54).take (Tryz.prog.cellsOf 122) = v22.cells := e22
  rw [cz0] at e22
  obtain ⟨v23, e23, _⟩ := (hf 23 _ rfl).int Tryz.underlying3
  replace e23 : (cs.drop 58).take (Tryz.prog.cellsOf 3) = [.int .i64 v23] := e23
  rw [cz4] at e23
  obtain ⟨v24, e24, _⟩ := (hf 24 _ rfl).int Tryz.underlying3
  replace e24 : (cs.drop 59).take (Tryz.prog.cellsOf 3) = [.int .i64 v24] := e24
  rw [cz4] at e24
  have hz : cs.drop 60 = [] := List.drop_eq_nil_of_le (by omega)
  clear hf hl hl2 h
  refine ⟨⟨v0, v1, v2, v3, v4, v5, v6, v7, v8, v9, v10, v11, v12, v13, v14, v15, v16, v17, v18, v19, v20, v21, v22, v23, v24⟩, ?_⟩
  show cs.drop 0 = _
  rw [cut_at cs 0 1 1 rfl, e0, cut_at cs 1 1 2 rfl, e1, cut_at cs 2 1 3 rfl, e2, cut_at cs 3 1 4 rfl, e3, cut_at cs 4 1 5 rfl, e4, cut_at cs 5 1 6 rfl, e5, cut_at cs 6 1 7 rfl, e6, cut_at cs 7 1 8 rfl, e7, cut_at cs 8 1 9 rfl, e8, cut_at cs 9 1 10 rfl, e9, cut_at cs 10 1 11 rfl, e10, cut_at cs 11 2 13 rfl, e11, cut_at cs 13 2 15 rfl, e12, cut_at cs 15 2 17 rfl, e13, cut_at cs 17 2 19 rfl, e14, cut_at cs 19 2 21 rfl, e15, cut_at cs 21 2 23 rfl, e16, cut_at cs 23 2 25 rfl, e17, cut_at cs 25 1 26 rfl, e18, cut_at cs 26 12 38 rfl, e19, cut_at cs 38 12 50 rfl, e20, cut_at cs 50 4 54 rfl, e21, cut_at cs 54 4 58 rfl, e22, cut_at cs 58 1 59 rfl, e23, cut_at cs 59 1 60 rfl, e24, hz]
  rfl

end Go.Proofs.YtpkpkojmaebflaaGreatDoor
namespace Go.Proofs.YtpkpkojmaebflaaGreatDoor
open Go.RowKit

theorem NodeSlice.wide {o : Bool} {R S : Nat → Prop} {w : World} {a : Option Addr} {l : List Node} (h : NodeSlice o R w a l) (hs : ∀ k, k < w.heap.size → R k → S k) : NodeSlice o S w a l := SliceAt.wideBy h hs fun _ _ hx => hx.wide hs
/-- A tree, read from its cells; o: it may be written. -/
def TreeIn (o : Bool) (R : Nat → Prop) (w : World) (cs : List Value) (l : List Node) : Prop :=
  ∃ a c, cs = [.slice a l.length c] ∧ NodeSlice o R w a l ∧ (o = true → Wr 85 64 R w a l.length)
theorem TreeIn.mod {o : Bool} {R S : Nat → Prop} {w w' : World} {cs : List Value} {x : List Node} (h : TreeIn o R w cs x) (hm : Mod S w w') (hs : ∀ k, R k → ¬ S k) : TreeIn o R w' cs x := by
  obtain ⟨a, c, h1, h2, h3⟩ := h
  exact ⟨a, c, h1, NodeSlice.mod h2 hm hs, fun ho => (h3 ho).mod hm hs⟩
theorem TreeIn.keep {o : Bool} {R : Nat → Prop} {w w' : World} {cs : List Value} {x : List Node} (h : TreeIn o R w cs x) (hm : Mod (fun _ => False) w w') : TreeIn o R w' cs x := h.mod hm fun _ _ f => f
theorem TreeIn.wide {o : Bool} {R S : Nat → Prop} {w : World} {cs : List Value} {x : List Node} (h : TreeIn o R w cs x) (hs : ∀ k, k < w.heap.size → R k → S k) : TreeIn o S w cs x := by
  obtain ⟨a, c, h1, h2, h3⟩ := h
  exact ⟨a, c, h1, NodeSlice.wide h2 hs, fun ho => (h3 ho).weaken hs⟩
/-- Lengths that a walk can bear. -/
def treeFits (n : Nat) (l : List Node) : Prop := l.length ≤ n ∧ ∀ x ∈ l, x.fits n
def treeCost (l : List Node) : Nat := l.length + costs Node.cost l
theorem treeFits_of {l : List Node} {n : Nat} (h : treeCost l ≤ n) : treeFits n l := by
  unfold treeCost at h
  refine ⟨by omega, fun x hx => ?_⟩
  have := costs_mem Node.cost hx
  have e : x.cost = x.kids.length + x.rules.length := rfl
  unfold Node.fits
  omega

set_option maxHeartbeats 2000000 in
theorem toTree_any (x : List Node) (o : Bool) (cs : List Value) (R : Nat → Prop) (w : World) (hf : treeFits 1048576 x) (h : TreeIn o R w cs x) :
    Calls Tryz.prog 20 #[.agg cs.toArray] w fun e w' => ∃ cs', e = .returned (.agg cs'.toArray) ∧ TreeIn true (fun b => w.heap.size ≤ b) w' cs' x ∧ Mod (fun _ => False) w w' := by
  obtain ⟨a, c, rfl, h1, _⟩ := h
  obtain ⟨f1, f2⟩ := hf
  have H1 := hid h1
  have F2 := hid f2
  clear h1 f2
  go_enter Tryz.func20, Tryz.ntmps20
  go_wp2_with fail
  refine (toNodeS_any x o _ _ R _ f1 F2.out (H1.out.keep (by (repeat (first | with_reducible exact Mod.refl _ _ | with_reducible refine Mod.drewN ?_ _ | with_reducible refine Mod.drew ?_ | with_reducible refine Mod.alloc ?_ _ | ((with_reducible refine Mod.setNew ?_ ?_ _ _ _); (rotate_left; omega)) | with_reducible refine Mod.setAt ?_ _ _ _ ))))).mono ?_
  intro e w1 hh
  obtain ⟨g1, rfl, hg1, s1, u1, hm1⟩ := hh.use
  obtain ⟨hq1, hz1⟩ := mcell hm1
  have hs1 := hm1.size
  repeat (rw [World.size_alloc] at hs1)
  have hr1_0 : w.heap.size < w1.heap.size := by omega
  have hr1_1 : w.heap.size + 1 < w1.heap.size := by omega
  have hr1_2 : w.heap.size + 1 + 1 < w1.heap.size := by omega
  have hM1 : Mod (fun _ => False) w w1 := by (repeat (first | with_reducible exact Mod.refl _ _ | with_reducible refine Mod.drewN ?_ _ | with_reducible refine Mod.drew ?_ | with_reducible refine Mod.alloc ?_ _ | ((with_reducible refine Mod.setNew ?_ ?_ _ _ _); (rotate_left; omega)) | with_reducible refine Mod.setAt ?_ _ _ _ | with_reducible exact hm1 | with_reducible refine Mod.thenNone ?_ hm1 ))
  have S1 := hid (NodeSlice.wide s1 (S := fun b => w.heap.size + 1 + 1 + 1 ≤ b) (fun k _ hk => by simpa using hk))
  have U1 := hid (u1.weaken (S := fun b => w.heap.size + 1 + 1 + 1 ≤ b) (fun k _ hk => by simpa using hk))
  clear hh s1 u1 hm1
  go_wp2
  have hfin : ∀ W : World, Mod (fun k => k = w.heap.size + 1 + 1 ∨ k = w.heap.size + 1) w1 W → TreeIn true (fun b => w.heap.size ≤ b) W [.slice (some ⟨g1, 0, none⟩) x.length x.length] x := by
    intro W hW
    have k1 : ∀ k, w.heap.size + 1 + 1 + 1 ≤ k → ¬ (k = w.heap.size + 1 + 1 ∨ k = w.heap.size + 1) := by omega
    exact TreeIn.wide ⟨_, _, rfl, NodeSlice.mod S1.out hW k1, fun _ => U1.out.mod hW k1⟩ (fun k _ hk => by show w.heap.size ≤ k; omega)
  refine bodyPost_ret (v := .agg [.slice (some ⟨g1, 0, none⟩) x.length x.length].toArray) ?_ rfl ⟨_, rfl, hfin _ ?_, ?_⟩
  · simp [results, Tryz.results20, go_sem, *]
  · refine Mod.setCell (Mod.setCell (Mod.refl _ _) (fun _ => .inl (.inl rfl)) _) (fun _ => .inl (.inr rfl)) _
  · (repeat (first | with_reducible exact Mod.refl _ _ | with_reducible refine Mod.drewN ?_ _ | with_reducible refine Mod.drew ?_ | with_reducible refine Mod.alloc ?_ _ | ((with_reducible refine Mod.setNew ?_ ?_ _ _ _); (rotate_left; omega)) | with_reducible refine Mod.setAt ?_ _ _ _ | with_reducible exact hM1 | with_reducible refine Mod.thenNone ?_ hM1 ))

set_option maxHeartbeats 2000000 in
theorem eqTree_same (x : List Node) (o o' : Bool) (cs cs' : List Value) (R S : Nat → Prop) (w : World) (hf : treeFits 1048576 x) (h : TreeIn o R w cs x) (h' : TreeIn o' S w cs' x) :
    Calls Tryz.prog 27 #[.agg cs.toArray, .agg cs'.toArray] w fun e w' => e = .returned (.bool true) ∧ Mod (fun _ => False) w w' := by
  obtain ⟨m, c, rfl, h1, _⟩ := h
  obtain ⟨m', d, rfl, h1', _⟩ := h'
  obtain ⟨f1, f3⟩ := hf
  have H1 := hid h1
  have H1' := hid h1'
  have F3 := hid f3
  clear h1 h1' f3
  go_enter Tryz.func27, Tryz.ntmps27
  go_wp2_with fail
  refine (eqNodeS_same x o o' _ _ _ _ R S _ f1 F3.out (H1.out.keep (by (repeat (first | with_reducible exact Mod.refl _ _ | with_reducible refine Mod.drewN ?_ _ | with_reducible refine Mod.drew ?_ | with_reducible refine Mod.alloc ?_ _ | ((with_reducible refine Mod.setNew ?_ ?_ _ _ _); (rotate_left; omega)) | with_reducible refine Mod.setAt ?_ _ _ _ )))) (H1'.out.keep (by (repeat (first | with_reducible exact Mod.refl _ _ | with_reducible refine Mod.drewN ?_ _ | with_reducible refine Mod.drew ?_ | with_reducible refine Mod.alloc ?_ _ | ((with_reducible refine Mod.setNew ?_ ?_ _ _ _); (rotate_left; omega)) | with_reducible refine Mod.setAt ?_ _ _ _ ))))).mono ?_
  rintro e w1 ⟨rfl, hm1⟩
  have hM1 : Mod (fun _ => False) w w1 := by (repeat (first | with_reducible exact Mod.refl _ _ | with_reducible refine Mod.drewN ?_ _ | with_reducible refine Mod.drew ?_ | with_reducible refine Mod.alloc ?_ _ | ((with_reducible refine Mod.setNew ?_ ?_ _ _ _); (rotate_left; omega)) | with_reducible refine Mod.setAt ?_ _ _ _ | with_reducible exact hm1 | with_reducible refine Mod.thenNone ?_ hm1 ))
  go_wp2
  go_ret
  exact ⟨rfl, hM1⟩

set_option maxHeartbeats 2000000 in
theorem szTree_any (x : List Node) (o : Bool) (cs : List Value) (R : Nat → Prop) (left : Int) (w : World) (h0 : 0 ≤ left) (h1 : left ≤ 1048576) (hf : treeFits 9223372036854775807 x) (h : TreeIn o R w cs x) :
    Calls Tryz.prog 13 #[.agg cs.toArray, .int .i64 left] w fun e w' => e = .returned (.int .i64 (szRes left (treeCost x))) ∧ Mod (fun _ => False) w w' := by
  obtain ⟨m, c, rfl, hs, _⟩ := h
  obtain ⟨f1, f3⟩ := hf
  have H := hid hs
  have F3 := hid f3
  clear hs f3
  go_enter Tryz.func13, Tryz.ntmps13
  go_wp2_with fail
  refine (szNodeS_any x o _ _ R left _ h0 h1 f1 F3.out (H.out.keep (by (repeat (first | with_reducible exact Mod.refl _ _ | with_reducible refine Mod.drewN ?_ _ | with_reducible refine Mod.drew ?_ | with_reducible refine Mod.alloc ?_ _ | ((with_reducible refine Mod.setNew ?_ ?_ _ _ _); (rotate_left; omega)) | with_reducible refine Mod.setAt ?_ _ _ _ ))))).mono ?_
  rintro e w1 ⟨rfl, hm1⟩
  have hM1 : Mod (fun _ => False) w w1 := by (repeat (first | with_reducible exact Mod.refl _ _ | with_reducible refine Mod.drewN ?_ _ | with_reducible refine Mod.drew ?_ | with_reducible refine Mod.alloc ?_ _ | ((with_reducible refine Mod.setNew ?_ ?_ _ _ _); (rotate_left; omega)) | with_reducible refine Mod.setAt ?_ _ _ _ | with_reducible exact hm1 | with_reducible refine Mod.thenNone ?_ hm1 ))
  by_cases hs : left < (x.length + costs Node.cost x : Nat)
  · rw [szRes_less hs]
    have hc := hid (szRes_less (left := left) (n := treeCost x) hs)
    go_wp2
    go_ret
    exact ⟨ret_int hc.out.symm, hM1⟩
  · rw [szRes_more (by omega)]
    have hc := hid (szRes_more (left := left) (n := treeCost x) (by unfold treeCost; omega))
    have h2 : 0 ≤ left - (x.length + costs Node.cost x : Nat) := by omega
    unfold treeCost at hc
    generalize left - ((x.length + costs Node.cost x : Nat) : Int) = q at hc h2
    go_wp2
    go_ret
    exact ⟨ret_int hc.out.symm, hM1⟩

set_option maxRecDepth 100000 in
theorem rd_int {w : World} {cs : List Value} (h : Rd Tryz.prog w 3 cs) : ∃ x : Int, cs = icell x := by
  obtain ⟨x, e, _⟩ := h.int Tryz.underlying3
  exact ⟨x, e⟩
set_option maxRecDepth 100000 in
theorem rd_Node {w : World} {cs : List Value} (h : Rd Tryz.prog w 129 cs) : ∃ x : Node, NodeIn false (fun k => k < w.heap.size) w cs x ∧ x.fits 9223372036854775807 := by
  obtain ⟨hl, hf⟩ := h.struct Tryz.underlying129
  have hl2 : cs.length = 64 := hl.trans (by kernel_rfl)
  have z1 : Tryz.prog.cellsOf 3 = 1 := by kernel_rfl
  have z2 : Tryz.prog.cellsOf 72 = 1 := by kernel_rfl
  have z3 : Tryz.prog.cellsOf 124 = 60 := by kernel_rfl
  have z4 : Tryz.prog.cellsOf 4 = 1 := by kernel_rfl
  have z5 : Tryz.prog.cellsOf 127 = 1 := by kernel_rfl
  obtain ⟨up, e0, _⟩ := (hf 0 _ rfl).int Tryz.underlying3
  replace e0 : (cs.drop 0).take (Tryz.prog.cellsOf 3) = [.int .i64 up] := e0
  rw [z1] at e0
  obtain ⟨a, l, c, e1, h1, h2, h3⟩ := (hf 1 _ rfl).list (rep := Flat icell) (sz := 1) Tryz.underlying72 (by kernel_rfl) (by decide) (fun cs h => rd_int h)
  replace e1 : (cs.drop 1).take (Tryz.prog.cellsOf 72) = [.slice a l.length c] := e1
  rw [z2] at e1
  obtain ⟨s, e2⟩ := rdA_Style (hf 2 _ rfl)
  replace e2 : (cs.drop 2).take (Tryz.prog.cellsOf 124) = s.cells := e2
  rw [z3] at e2
  obtain ⟨m, e3⟩ := (hf 3 _ rfl).bool Tryz.underlying4
  replace e3 : (cs.drop 62).take (Tryz.prog.cellsOf 4) = [.bool m] := e3
  rw [z4] at e3
  obtain ⟨a', l', c', e4, h1', h3'⟩ := rd_Table (hf 4 _ rfl)
  replace e4 : (cs.drop 63).take (Tryz.prog.cellsOf 127) = [.slice a' l'.length c'] := e4
  rw [z5] at e4
  have hz : cs.drop 64 = [] := List.drop_eq_nil_of_le (by omega)
  have e : cs = nodeRow up a l.length c s m a' l'.length c' := by
    show cs.drop 0 = _
    rw [cut_at cs 0 1 1 rfl, e0, cut_at cs 1 1 2 rfl, e1, cut_at cs 2 60 62 rfl, e2, cut_at cs 62 1 63 rfl, e3, cut_at cs 63 1 64 rfl, e4, hz]
    simp [nodeRow]
  unfold maxLen at h2
  exact ⟨⟨up, l, s, m, l'⟩, ⟨a, c, a', c', e, h3, h3', fun h => by cases h⟩, by show l.length ≤ _; omega, h1'⟩
set_option maxRecDepth 100000 in
theorem rd_Tree {w : World} {cs : List Value} (h : Rd Tryz.prog w 24 cs) : ∃ x : List Node, TreeIn false (fun k => k < w.heap.size) w cs x ∧ treeFits 9223372036854775807 x := by
  obtain ⟨hl, hf⟩ := h.struct Tryz.underlying24
  have hl2 : cs.length = 1 := hl.trans (by kernel_rfl)
  have c1 : Tryz.prog.cellsOf 22 = 1 := by kernel_rfl
  match cs, hl2 with
  | [q0], _ =>
    obtain ⟨a, l, c, e0, h1, h2, h3⟩ := (hf 0 _ rfl).list (rep := fun w' r x => NodeIn false (fun k => k < w.heap.size) w' r x ∧ x.fits 9223372036854775807) (sz := 64) Tryz.underlying22 (by kernel_rfl) (by decide) (fun cs h => rd_Node h)
    obtain ⟨h4, h5⟩ := h3.split2
    simp [c1] at e0
    unfold maxLen at h2
    exact ⟨l, ⟨a, c, by simp [e0], h4, fun h => by cases h⟩, by omega, h5⟩

end Go.Proofs.YtpkpkojmaebflaaGreatDoor
namespace Go.Proofs.YtpkpkojmaebflaaGreatDoor
open Go.RowKit

structure Engine where
  tree : List Node
  kept : KeptT
  frames : List Frame
  root : Int
  wide : Int
  high : Int
  rtl : Bool
  deriving DecidableEq, Inhabited
/-- An engine, read from its cells; o: it may be written. -/
def EngineIn (o : Bool) (R : Nat → Prop) (w : World) (cs : List Value) (x : Engine) : Prop :=
  ∃ t k0 k1 f c, cs = [t, k0, k1, .slice f x.frames.length c, .int .i64 x.root, .int .i64 x.wide, .int .i64 x.high, .bool x.rtl] ∧ TreeIn o R w [t] x.tree ∧ KeptIn o R w [k0, k1] x.kept ∧ SliceAt (Flat Frame.cells) 5 R w f x.frames ∧ (o = true → Wr 91 5 R w f x.frames.length)
theorem EngineIn.mod {o : Bool} {R S : Nat → Prop} {w w' : World} {cs : List Value} {x : Engine} (h : EngineIn o R w cs x) (hm : Mod S w w') (hs : ∀ k, R k → ¬ S k) : EngineIn o R w' cs x := by
  obtain ⟨t, k0, k1, f, c, h1, h2, h3, h4, h5⟩ := h
  exact ⟨t, k0, k1, f, c, h1, h2.mod hm hs, h3.mod hm hs, h4.flatMod hm hs, fun ho => (h5 ho).mod hm hs⟩
theorem EngineIn.keep {o : Bool} {R : Nat → Prop} {w w' : World} {cs : List Value} {x : Engine} (h : EngineIn o R w cs x) (hm : Mod (fun _ => False) w w') : EngineIn o R w' cs x := h.mod hm fun _ _ f => f
theorem EngineIn.wide {o : Bool} {R S : Nat → Prop} {w : World} {cs : List Value} {x : Engine} (h : EngineIn o R w cs x) (hs : ∀ k, k < w.heap.size → R k → S k) : EngineIn o S w cs x := by
  obtain ⟨t, k0, k1, f, c, h1, h2, h3, h4, h5⟩ := h
  exact ⟨t, k0, k1, f, c, h1, h2.wide hs, h3.wide hs, SliceAt.wide h4 hs, fun ho => (h5 ho).weaken hs⟩
/-- Lengths that a walk can bear. -/
def Engine.fits (n : Nat) (x : Engine) : Prop := treeFits n x.tree ∧ x.kept.fits n ∧ x.frames.length ≤ n
def Engine.cost (x : Engine) : Nat := treeCost x.tree + x.kept.cost + x.frames.length
theorem Engine.fits_of {x : Engine} {n : Nat} (h : x.cost ≤ n) : x.fits n := by
  unfold Engine.cost at h
  exact ⟨treeFits_of (by omega), KeptT.fits_of (by omega), by omega⟩
theorem TreeIn.one {o : Bool} {R : Nat → Prop} {w : World} {cs : List Value} {l : List Node} (h : TreeIn o R w cs l) : ∃ t, cs = [t] ∧ t.oneCell' = true := by
  obtain ⟨a, c, rfl, _⟩ := h
  exact ⟨_, rfl, rfl⟩
theorem KeptIn.two {o : Bool} {R : Nat → Prop} {w : World} {cs : List Value} {x : KeptT} (h : KeptIn o R w cs x) : ∃ p q, cs = [p, q] ∧ p.oneCell' = true ∧ q.oneCell' = true := by
  obtain ⟨m, c, a, c', rfl, _⟩ := h
  exact ⟨_, _, rfl, rfl, rfl⟩

set_option maxRecDepth 100000 in
set_option maxHeartbeats 4000000 in
theorem toEngine_any (x : Engine) (o : Bool) (cs : List Value) (R : Nat → Prop) (w : World) (hf : x.fits 1048576) (h : EngineIn o R w cs x) :
    Calls Tryz.prog 6 #[.agg cs.toArray] w fun e w' => ∃ cs', e = .returned (.agg cs'.toArray) ∧ EngineIn true (fun b => w.heap.size ≤ b) w' cs' x ∧ Mod (fun _ => False) w w' := by
  obtain ⟨t, k0, k1, f, c, rfl, h1, h2, h3, _⟩ := h
  obtain ⟨f1, f2, f3⟩ := hf
  obtain ⟨ta, tc, et, ht⟩ := h1
  obtain ⟨ka, kc, kb, kc', ek, hk⟩ := h2
  simp only [List.cons.injEq, and_true] at et ek
  obtain rfl := et
  obtain ⟨rfl, rfl⟩ := ek
  have H1 := hid (show TreeIn o R w [.slice ta x.tree.length tc] x.tree from ⟨ta, tc, rfl, ht⟩)
  have H2 := hid (show KeptIn o R w [.slice ka x.kept.memos.length kc, .slice kb x.kept.asked.length kc'] x.kept from ⟨ka, kc, kb, kc', rfl, hk⟩)
  have H3 := hid h3
  have F1 := hid f1
  have F2 := hid f2
  clear ht hk h3 f1 f2
  go_enter Tryz.func6, Tryz.ntmps6
  go_wp2_with fail
  refine (toTree_any x.tree o [.slice ta x.tree.length tc] R _ F1.out (H1.out.keep (by (repeat (first | with_reducible exact Mod.refl _ _ | with_reducible refine Mod.drewN ?_ _ | with_reducible refine Mod.drew ?_ | with_reducible refine Mod.alloc ?_ _ | ((with_reducible refine Mod.setNew ?_ ?_ _ _ _); (rotate_left; omega)) | with_reducible refine Mod.setAt ?_ _ _ _ ))))).mono ?_
  rintro e w1 ⟨cs1, rfl, ⟨g1, c1, rfl, s1⟩, hm1⟩
  obtain ⟨hq1, hz1⟩ := mcell hm1
  have hs1 := hm1.size
  repeat (rw [World.size_alloc] at hs1)
  have hr1_0 : w.heap.size < w1.heap.size := by omega
  have hr1_1 : w.heap.size + 1 < w1.heap.size := by omega
  have hr1_2 : w.heap.size + 1 + 1 < w1.heap.size := by omega
  have hM1 : Mod (fun _ => False) w w1 := by (repeat (first | with_reducible exact Mod.refl _ _ | with_reducible refine Mod.drewN ?_ _ | with_reducible refine Mod.drew ?_ | with_reducible refine Mod.alloc ?_ _ | ((with_reducible refine Mod.setNew ?_ ?_ _ _ _); (rotate_left; omega)) | with_reducible refine Mod.setAt ?_ _ _ _ | with_reducible exact hm1 | with_reducible refine Mod.thenNone ?_ hm1 ))
  have hB1 : w.heap.size + 1 + 1 + 1 ≤ w1.heap.size := by have := hm1.size; simpa using this
  have S1 := hid (TreeIn.wide (show TreeIn true _ w1 _ x.tree from ⟨g1, c1, rfl, s1⟩) (S := fun b => w.heap.size + 1 + 1 + 1 ≤ b) (fun k _ hk => by simpa using hk))
  clear s1 hm1
  go_wp2_with fail
  refine (toKept_any x.kept o [.slice ka x.kept.memos.length kc, .slice kb x.kept.asked.length kc'] R _ F2.out (H2.out.keep (by (repeat (first | with_reducible exact Mod.refl _ _ | with_reducible refine Mod.drewN ?_ _ | with_reducible refine Mod.drew ?_ | with_reducible refine Mod.alloc ?_ _ | ((with_reducible refine Mod.setNew ?_ ?_ _ _ _); (rotate_left; omega)) | with_reducible refine Mod.setAt ?_ _ _ _ | with_reducible exact hM1 | with_reducible refine Mod.thenNone ?_ hM1 ))))).mono ?_
  rintro e w2 ⟨cs2, rfl, ⟨g2, c2, g2', c2', rfl, s2⟩, hm2⟩
  obtain ⟨hq2, hz2⟩ := mcell hm2
  have hs2 := hm2.size
  repeat (rw [World.size_setCell] at hs2)
  have hr2_0 : w.heap.size < w2.heap.size := by omega
  have hr2_1 : w.heap.size + 1 < w2.heap.size := by omega
  have hr2_2 : w.heap.size + 1 + 1 < w2.heap.size := by omega
  have hM2 : Mod (fun _ => False) w w2 := by (repeat (first | with_reducible exact Mod.refl _ _ | with_reducible refine Mod.drewN ?_ _ | with_reducible refine Mod.drew ?_ | with_reducible refine Mod.alloc ?_ _ | ((with_reducible refine Mod.setNew ?_ ?_ _ _ _); (rotate_left; omega)) | with_reducible refine Mod.setAt ?_ _ _ _ | with_reducible exact hm2 | with_reducible refine Mod.thenNone ?_ hm2 | with_reducible exact hM1 | with_reducible refine Mod.thenNone ?_ hM1 ))
  have hB2 : w.heap.size + 1 + 1 + 1 ≤ w2.heap.size := by have := hm2.size; simp only [World.size_setCell] at this; omega
  have hms1 : Mod (fun k => k = w.heap.size + 1 + 1) w1 (w1.setCell ⟨w.heap.size + 1 + 1, 0, none⟩ (.slice g1 x.tree.length c1)) := (Mod.refl _ _).setAt _ _ _
  have hlow : ∀ k, w.heap.size + 1 + 1 + 1 ≤ k → ¬ k = w.heap.size + 1 + 1 := by omega
  have S1' := hid ((S1.out.mod hms1 hlow).keep hm2)
  have S2 := hid (KeptIn.wide (show KeptIn true _ w2 _ x.kept from ⟨g2, c2, g2', c2', rfl, s2⟩) (S := fun b => w.heap.size + 1 + 1 + 1 ≤ b) (fun k _ hk => Nat.le_trans hB1 (by simpa using hk)))
  clear s2 hm2 hms1 S1
  go_wp2_with fail
  refine (toFrameS_any x.frames _ _ R _ f3 (H3.out.flatKeep (by (repeat (first | with_reducible exact Mod.refl _ _ | with_reducible refine Mod.drewN ?_ _ | with_reducible refine Mod.drew ?_ | with_reducible refine Mod.alloc ?_ _ | ((with_reducible refine Mod.setNew ?_ ?_ _ _ _); (rotate_left; omega)) | with_reducible refine Mod.setAt ?_ _ _ _ | with_reducible exact hM2 | with_reducible refine Mod.thenNone ?_ hM2 ))))).mono ?_
  intro e w3 hh
  obtain ⟨g3, rfl, hg3, s3, u3, hm3⟩ := hh.wr (sz := 5) (fun _ => rfl)
  obtain ⟨hq3, hz3⟩ := mcell hm3
  have hs3 := hm3.size
  repeat (rw [World.size_setCell] at hs3)
  have hr3_0 : w.heap.size < w3.heap.size := by omega
  have hr3_1 : w.heap.size + 1 < w3.heap.size := by omega
  have hr3_2 : w.heap.size + 1 + 1 < w3.heap.size := by omega
  have hM3 : Mod (fun _ => False) w w3 := by (repeat (first | with_reducible exact Mod.refl _ _ | with_reducible refine Mod.drewN ?_ _ | with_reducible refine Mod.drew ?_ | with_reducible refine Mod.alloc ?_ _ | ((with_reducible refine Mod.setNew ?_ ?_ _ _ _); (rotate_left; omega)) | with_reducible refine Mod.setAt ?_ _ _ _ | with_reducible exact hm3 | with_reducible refine Mod.thenNone ?_ hm3 | with_reducible exact hM2 | with_reducible refine Mod.thenNone ?_ hM2 ))
  have hms2 : Mod (fun k => k = w.heap.size + 1 + 1) w2 ((w2.setCell ⟨w.heap.size + 1 + 1, 1, none⟩ (.slice g2 x.kept.memos.length c2)).setCell ⟨w.heap.size + 1 + 1, 2, none⟩ (.slice g2' x.kept.asked.length c2')) := ((Mod.refl _ _).setAt _ _ _).setAt _ _ _
  have S1'' := hid ((S1'.out.mod hms2 hlow).keep hm3)
  have S2' := hid ((S2.out.mod hms2 hlow).keep hm3)
  have S3 := hid (SliceAt.wide s3 (S := fun b => w.heap.size + 1 + 1 + 1 ≤ b) (fun k _ hk => Nat.le_trans hB2 (by simpa using hk)))
  have U3 := hid (u3.weaken (S := fun b => w.heap.size + 1 + 1 + 1 ≤ b) (fun k _ hk => Nat.le_trans hB2 (by simpa using hk)))
  clear hh s3 u3 hms2 hm3 S1' S2 hg3
  go_wp2
  have hfin : ∀ W : World, Mod (fun k => k = w.heap.size + 1 + 1 ∨ k = w.heap.size + 1) w3 W → EngineIn true (fun b => w.heap.size ≤ b) W [.slice g1 x.tree.length c1, .slice g2 x.kept.memos.length c2, .slice g2' x.kept.asked.length c2', .slice (some ⟨g3, 0, none⟩) x.frames.length x.frames.length, .int .i64 x.root, .int .i64 x.wide, .int .i64 x.high, .bool x.rtl] x := by
    intro W hW
    have k1 : ∀ k, w.heap.size + 1 + 1 + 1 ≤ k → ¬ (k = w.heap.size + 1 + 1 ∨ k = w.heap.size + 1) := by omega
    exact EngineIn.wide ⟨_, _, _, _, _, rfl, S1''.out.mod hW k1, S2'.out.mod hW k1, S3.out.flatMod hW k1, fun _ => U3.out.mod hW k1⟩ (fun k _ hk => by show w.heap.size ≤ k; omega)
  refine bodyPost_ret (v := .agg [.slice g1 x.tree.length c1, .slice g2 x.kept.memos.length c2, .slice g2' x.kept.asked.length c2', .slice (some ⟨g3, 0, none⟩) x.frames.length x.frames.length, .int .i64 x.root, .int .i64 x.wide, .int .i64 x.high, .bool x.rtl].toArray) ?_ rfl ⟨_, rfl, hfin _ ?_, ?_⟩
  · simp [results, Tryz.results6, go_sem, *]
  · iterate 8 refine Mod.setCell ?_ (fun _ => .inl (.inr rfl)) _
    iterate 5 refine Mod.setCell ?_ (fun _ => .inl (.inl rfl)) _
    exact Mod.refl _ _
  · (repeat (first | with_reducible exact Mod.refl _ _ | with_reducible refine Mod.drewN ?_ _ | with_reducible refine Mod.drew ?_ | with_reducible refine Mod.alloc ?_ _ | ((with_reducible refine Mod.setNew ?_ ?_ _ _ _); (rotate_left; omega)) | with_reducible refine Mod.setAt ?_ _ _ _ | with_reducible exact hM3 | with_reducible refine Mod.thenNone ?_ hM3 ))

set_option maxHeartbeats 4000000 in
theorem eqEngine_same (x : Engine) (o o' : Bool) (cs cs' : List Value) (R S : Nat → Prop) (w : World) (hf : x.fits 1048576) (h : EngineIn o R w cs x) (h' : EngineIn o' S w cs' x) :
    Calls Tryz.prog 9 #[.agg cs.toArray, .agg cs'.toArray] w fun e w' => e = .returned (.bool true) ∧ Mod (fun _ => False) w w' := by
  obtain ⟨t, k0, k1, f, c, rfl, h1, h2, h3, _⟩ := h
  obtain ⟨t', k0', k1', f', c', rfl, h1', h2', h3', _⟩ := h'
  obtain ⟨f1, f2, f3⟩ := hf
  obtain ⟨ta, tc, et, ht⟩ := h1
  obtain ⟨ka, kc, kb, kc', ek, hk⟩ := h2
  obtain ⟨ta', tc', et', ht'⟩ := h1'
  obtain ⟨ka', kd, kb', kd', ek', hk'⟩ := h2'
  simp only [List.cons.injEq, and_true] at et ek et' ek'
  obtain rfl := et
  obtain ⟨rfl, rfl⟩ := ek
  obtain rfl := et'
  obtain ⟨rfl, rfl⟩ := ek'
  have H1 := hid (show TreeIn o R w [.slice ta x.tree.length tc] x.tree from ⟨ta, tc, rfl, ht⟩)
  have H2 := hid (show KeptIn o R w [.slice ka x.kept.memos.length kc, .slice kb x.kept.asked.length kc'] x.kept from ⟨ka, kc, kb, kc', rfl, hk⟩)
  have H1' := hid (show TreeIn o' S w [.slice ta' x.tree.length tc'] x.tree from ⟨ta', tc', rfl, ht'⟩)
  have H2' := hid (show KeptIn o' S w [.slice ka' x.kept.memos.length kd, .slice kb' x.kept.asked.length kd'] x.kept from ⟨ka', kd, kb', kd', rfl, hk'⟩)
  have H3 := hid h3
  have H3' := hid h3'
  have F1 := hid f1
  have F2 := hid f2
  clear ht hk ht' hk' h3 h3' f1 f2
  go_enter Tryz.func9, Tryz.ntmps9
  go_wp2_with fail
  refine (eqTree_same x.tree o o' [.slice ta x.tree.length tc] [.slice ta' x.tree.length tc'] R S _ F1.out (H1.out.keep (by (repeat (first | with_reducible exact Mod.refl _ _ | with_reducible refine Mod.drewN ?_ _ | with_reducible refine Mod.drew ?_ | with_reducible refine Mod.alloc ?_ _ | ((with_reducible refine Mod.setNew ?_ ?_ _ _ _); (rotate_left; omega)) | with_reducible refine Mod.setAt ?_ _ _ _ )))) (H1'.out.keep (by (repeat (first | with_reducible exact Mod.refl _ _ | with_reducible refine Mod.drewN ?_ _ | with_reducible refine Mod.drew ?_ | with_reducible refine Mod.alloc ?_ _ | ((with_reducible refine Mod.setNew ?_ ?_ _ _ _); (rotate_left; omega)) | with_reducible refine Mod.setAt ?_ _ _ _ ))))).mono ?_
  rintro e w1 ⟨rfl, hm1⟩
  obtain ⟨hq1, hz1⟩ := mcell hm1
  have hs1 := hm1.size
  repeat (rw [World.size_alloc] at hs1)
  have hr1_0 : w.heap.size < w1.heap.size := by omega
  have hr1_1 : w.heap.size + 1 < w1.heap.size := by omega
  have hM1 : Mod (fun _ => False) w w1 := by (repeat (first | with_reducible exact Mod.refl _ _ | with_reducible refine Mod.drewN ?_ _ | with_reducible refine Mod.drew ?_ | with_reducible refine Mod.alloc ?_ _ | ((with_reducible refine Mod.setNew ?_ ?_ _ _ _); (rotate_left; omega)) | with_reducible refine Mod.setAt ?_ _ _ _ | with_reducible exact hm1 | with_reducible refine Mod.thenNone ?_ hm1 ))
  clear hm1
  go_wp2_with fail
  refine (eqKept_same x.kept o o' [.slice ka x.kept.memos.length kc, .slice kb x.kept.asked.length kc'] [.slice ka' x.kept.memos.length kd, .slice kb' x.kept.asked.length kd'] R S _ F2.out (H2.out.keep hM1) (H2'.out.keep hM1)).mono ?_
  rintro e w2 ⟨rfl, hm2⟩
  obtain ⟨hq2, hz2⟩ := mcell hm2
  have hs2 := hm2.size
  repeat (unfold World.drewN at hs2)
  have hr2_0 : w.heap.size < w2.heap.size := by omega
  have hr2_1 : w.heap.size + 1 < w2.heap.size := by omega
  have hM2 := hM1.thenNone hm2
  clear hm2
  go_wp2_with fail
  refine (eqFrameS_any x.frames x.frames _ _ _ _ R S _ (by omega) (by omega) (H3.out.flatKeep hM2) (H3'.out.flatKeep hM2)).mono ?_
  rintro e w3 ⟨rfl, hm3⟩
  obtain ⟨hq3, hz3⟩ := mcell hm3
  have hs3 := hm3.size
  repeat (unfold World.drewN at hs3)
  have hr3_0 : w.heap.size < w3.heap.size := by omega
  have hr3_1 : w.heap.size + 1 < w3.heap.size := by omega
  rw [decide_eq_true rfl]
  have hM3 := hM2.thenNone hm3
  clear hm3
  go_wp2
  go_ret
  exact ⟨rfl, hM3⟩

theorem szRes_next {left : Int} {a b : Nat} (h : (a : Int) ≤ left) : szRes left (a + b) = szRes (left - a) b := by
  unfold szRes
  split <;> split <;> omega
set_option maxHeartbeats 4000000 in
theorem szEngine_any (x : Engine) (o : Bool) (cs : List Value) (R : Nat → Prop) (left : Int) (w : World) (h0 : 0 ≤ left) (h1 : left ≤ 1048576) (hf : x.fits 9223372036854775807) (h : EngineIn o R w cs x) :
    Calls Tryz.prog 4 #[.agg cs.toArray, .int .i64 left] w fun e w' => e = .returned (.int .i64 (szRes left x.cost)) ∧ Mod (fun _ => False) w w' := by
  obtain ⟨t, k0, k1, f, c, rfl, p1, p2, _, _⟩ := h
  obtain ⟨f1, f2, f3⟩ := hf
  obtain ⟨ta, tc, et, ht⟩ := p1
  obtain ⟨ka, kc, kb, kc', ek, hk⟩ := p2
  simp only [List.cons.injEq, and_true] at et ek
  obtain rfl := et
  obtain ⟨rfl, rfl⟩ := ek
  have H1 := hid (show TreeIn o R w [.slice ta x.tree.length tc] x.tree from ⟨ta, tc, rfl, ht⟩)
  have H2 := hid (show KeptIn o R w [.slice ka x.kept.memos.length kc, .slice kb x.kept.asked.length kc'] x.kept from ⟨ka, kc, kb, kc', rfl, hk⟩)
  have F1 := hid f1
  have F2 := hid f2
  clear ht hk f1 f2
  go_enter Tryz.func4, Tryz.ntmps4
  go_wp2_with fail
  refine (szTree_any x.tree o [.slice ta x.tree.length tc] R left _ h0 h1 F1.out (H1.out.keep (by (repeat (first | with_reducible exact Mod.refl _ _ | with_reducible refine Mod.drewN ?_ _ | with_reducible refine Mod.drew ?_ | with_reducible refine Mod.alloc ?_ _ | ((with_reducible refine Mod.setNew ?_ ?_ _ _ _); (rotate_left; omega)) | with_reducible refine Mod.setAt ?_ _ _ _ ))))).mono ?_
  rintro e w1 ⟨rfl, hm1⟩
  obtain ⟨hq1, hz1⟩ := mcell hm1
  have hs1 := hm1.size
  repeat (rw [World.size_alloc] at hs1)
  have hr1_0 : w.heap.size < w1.heap.size := by omega
  have hM1 : Mod (fun _ => False) w w1 := by (repeat (first | with_reducible exact Mod.refl _ _ | with_reducible refine Mod.drewN ?_ _ | with_reducible refine Mod.drew ?_ | with_reducible refine Mod.alloc ?_ _ | ((with_reducible refine Mod.setNew ?_ ?_ _ _ _); (rotate_left; omega)) | with_reducible refine Mod.setAt ?_ _ _ _ | with_reducible exact hm1 | with_reducible refine Mod.thenNone ?_ hm1 ))
  clear hm1
  by_cases hs : left < treeCost x.tree
  · rw [szRes_less hs]
    have hc := hid (szRes_less (left := left) (n := x.cost) (by unfold Engine.cost; omega))
    go_wp2
    go_ret
    exact ⟨ret_int hc.out.symm, hM1⟩
  · rw [szRes_more (by omega)]
    have hc := hid (show szRes left x.cost = szRes (left - treeCost x.tree) (x.kept.cost + x.frames.length) from by
      rw [← szRes_next (by omega)]
      unfold Engine.cost
      rw [Nat.add_assoc])
    have q0 : 0 ≤ left - treeCost x.tree := by omega
    have q1 : left - treeCost x.tree ≤ 1048576 := by omega
    generalize left - (treeCost x.tree : Int) = q at hc q0 q1
    clear hs
    go_wp2_with fail
    refine (szKept_any x.kept o [.slice ka x.kept.memos.length kc, .slice kb x.kept.asked.length kc'] R q _ q0 q1 F2.out (H2.out.keep hM1)).mono ?_
    rintro e w2 ⟨rfl, hm2⟩
    obtain ⟨hq2, hz2⟩ := mcell hm2
    have hs2 := hm2.size
    repeat (unfold World.drewN at hs2)
    have hr2_0 : w.heap.size < w2.heap.size := by omega
    have hM2 := hM1.thenNone hm2
    clear hm2
    by_cases hs : q < x.kept.cost
    · rw [szRes_less hs]
      have hc2 := hid (hc.out.trans (szRes_less (by omega)))
      clear hc
      go_wp2
      go_ret
      exact ⟨ret_int hc2.out.symm, hM2⟩
    · rw [szRes_more (by omega)]
      have hc2 := hid (hc.out.trans (szRes_next (by omega)))
      have r0 : 0 ≤ q - x.kept.cost := by omega
      have r1 : q - x.kept.cost ≤ 1048576 := by omega
      generalize q - (x.kept.cost : Int) = r at hc2 r0 r1
      clear hs hc
      go_wp2_with fail
      refine (szFrameS_any _ _ _ _ r0 r1 f3 _).mono ?_
      rintro e w3 ⟨rfl, rfl⟩
      by_cases hs : r < x.frames.length
      · rw [if_pos hs]
        have hc3 := hid (hc2.out.trans (szRes_less hs))
        clear hc2
        go_wp2
        go_ret
        exact ⟨ret_int hc3.out.symm, hM2⟩
      · rw [if_neg hs]
        have hc3 := hid (hc2.out.trans (szRes_more (by omega)))
        have s0 : 0 ≤ r - x.frames.length := by omega
        clear hc2
        go_wp2
        go_ret
        exact ⟨ret_int hc3.out.symm, hM2⟩

end Go.Proofs.YtpkpkojmaebflaaGreatDoor
namespace Go.Proofs.YtpkpkojmaebflaaGreatDoor
open Go.RowKit

/-- An engine's cells, written out. -/
theorem EngineIn.lit {o : Bool} {R : Nat → Prop} {w : World} {cs : List Value} {x : Engine} (h : EngineIn o R w cs x) : ∃ ta tc ka kc kb kd fa fc, cs = [.slice ta x.tree.length tc, .slice ka x.kept.memos.length kc, .slice kb x.kept.asked.length kd, .slice fa x.frames.length fc, .int .i64 x.root, .int .i64 x.wide, .int .i64 x.high, .bool x.rtl] ∧ EngineIn o R w [.slice ta x.tree.length tc, .slice ka x.kept.memos.length kc, .slice kb x.kept.asked.length kd, .slice fa x.frames.length fc, .int .i64 x.root, .int .i64 x.wide, .int .i64 x.high, .bool x.rtl] x := by
  have h0 := h
  obtain ⟨t, k0, k1, f, c, rfl, ⟨ta, tc, et, _⟩, ⟨ka, kc, kb, kc', ek, _⟩, _, _⟩ := h
  simp only [List.cons.injEq, and_true] at et ek
  obtain rfl := et
  obtain ⟨rfl, rfl⟩ := ek
  exact ⟨ta, tc, ka, kc, kb, kc', f, c, rfl, h0⟩
/-- An engine's value reads as the engine. -/
def EngAt (x : Engine) (w : World) (v : Value) : Prop := ∃ cs : List Value, v = .agg cs.toArray ∧ ∃ o R, EngineIn o R w cs x
theorem EngAt.keep {x : Engine} {w w' : World} {v : Value} (h : EngAt x w v) (hm : Mod (fun _ => False) w w') : EngAt x w' v := by
  obtain ⟨cs, h1, o, R, h2⟩ := h
  exact ⟨cs, h1, o, R, EngineIn.keep h2 hm⟩
theorem toEngine_at (x : Engine) (o : Bool) (cs : List Value) (R : Nat → Prop) (w : World) (hf : x.fits 1048576) (h : EngineIn o R w cs x) :
    Calls Tryz.prog 6 #[.agg cs.toArray] w fun e w' => ∃ v, e = .returned v ∧ EngAt x w' v ∧ Mod (fun _ => False) w w' :=
  (toEngine_any x o cs R w hf h).mono fun _ _ ⟨cs', he, h1, hm⟩ => ⟨_, he, ⟨cs', rfl, _, _, h1⟩, hm⟩

end Go.Proofs.YtpkpkojmaebflaaGreatDoor
namespace Go.Proofs.YtpkpkojmaebflaaGreatDoor
open Go.RowKit

/-- Where a copy of an engine lies. -/
structure EngP where
  ta : Option Addr
  tc : Nat
  ka : Option Addr
  kc : Nat
  kb : Option Addr
  kd : Nat
  fa : Option Addr
  fc : Nat
  lo : Nat
  hi : Nat
def engL (x : Engine) (q : EngP) : List Value := [.slice q.ta x.tree.length q.tc, .slice q.ka x.kept.memos.length q.kc, .slice q.kb x.kept.asked.length q.kd, .slice q.fa x.frames.length q.fc, .int .i64 x.root, .int .i64 x.wide, .int .i64 x.high, .bool x.rtl]
def engRes (x : Engine) (q : EngP) : Res where
  foot := fun k => q.lo ≤ k ∧ k < q.hi
  says := fun w => EngineIn true (fun k => q.lo ≤ k ∧ k < q.hi) w (engL x q) x
  stable := fun S w w' h hm hs => h.mod hm hs
theorem toEngine_new (x : Engine) (o : Bool) (cs : List Value) (R : Nat → Prop) (w : World) (hf : x.fits 1048576) (h : EngineIn o R w cs x) :
    Calls Tryz.prog 6 #[.agg cs.toArray] w (NewR EngP (fun q => .agg (engL x q).toArray) (engRes x) w) :=
  (toEngine_any x o cs R w hf h).mono fun e w' ⟨cs', he, h1, hm⟩ => by
    obtain ⟨ta, tc, ka, kc, kb, kd, fa, fc, rfl, h1⟩ := h1.lit
    refine ⟨⟨ta, tc, ka, kc, kb, kd, fa, fc, w.heap.size, w'.heap.size⟩, he, ⟨h1.wide fun k hk hlo => ⟨hlo, hk⟩, fun k hk => hk⟩, hm⟩
theorem szEngine_less {x : Engine} {o : Bool} {cs : List Value} {R : Nat → Prop} {left : Int} {w : World} (h0 : 0 ≤ left) (h1 : left ≤ 1048576) (hf : x.fits 9223372036854775807) (hb : left < x.cost) (h : EngineIn o R w cs x) :
    Calls Tryz.prog 4 #[.agg cs.toArray, .int .i64 left] w fun e w' => e = .returned (.int .i64 (-1)) ∧ Mod (fun _ => False) w w' := by
  have := szEngine_any x o cs R left w h0 h1 hf h
  rwa [szRes_less hb] at this
theorem szEngine_more {x : Engine} {o : Bool} {cs : List Value} {R : Nat → Prop} {left : Int} {w : World} (h0 : 0 ≤ left) (h1 : left ≤ 1048576) (hf : x.fits 9223372036854775807) (hb : (x.cost : Int) ≤ left) (h : EngineIn o R w cs x) :
    Calls Tryz.prog 4 #[.agg cs.toArray, .int .i64 left] w fun e w' => e = .returned (.int .i64 (left - x.cost)) ∧ Mod (fun _ => False) w w' := by
  have := szEngine_any x o cs R left w h0 h1 hf h
  rwa [szRes_more hb] at this
theorem engRes_in {x : Engine} {q : EngP} {W : World} {R : Rg W} {L : List Blk} {O : List Own} {E : List Res} {w : World} (h : Loc W R L O E w) (hm : engRes x q ∈ E) : EngineIn true (fun k => q.lo ≤ k ∧ k < q.hi) w (engL x q) x := (h.res _ hm).1

end Go.Proofs.YtpkpkojmaebflaaGreatDoor
namespace Go.Proofs.YtpkpkojmaebflaaGreatDoor
open Go.RowKit
set_option linter.unusedVariables false
set_option linter.unusedSimpArgs false

def engineLines (x : Engine) : List (List UInt8) := treeLines x.tree ++ (absolute x.tree x.frames).map frameW ++ keptL x.kept
theorem treeL_len (l : List Node) : (treeLines l).length ≤ 400000 := by
  unfold treeLines
  cases hv : treeOk l
  · simp
  · have h1 := upLines_len hv l.length (Nat.le_refl _)
    have h2 := ok_len hv
    simp only [if_true]
    omega
theorem absolute_len (l : List Node) (fs : List Frame) : (absolute l fs).length = fs.length := by
  unfold absolute
  split <;> simp
theorem engineLines_len (x : Engine) (h : x.cost ≤ 1048576) : (engineLines x).length ≤ 2000000 := by
  have h1 := treeL_len x.tree
  have h2 : x.kept.memos.length + x.frames.length ≤ x.cost := by unfold Engine.cost KeptT.cost; omega
  simp only [engineLines, List.length_append, List.length_map, absolute_len, keptL, List.length_singleton]
  omega
theorem absF_ok {l : List Node} {fs : List Frame} : ∀ (f : Nat) (n x y : Int), I64 x → I64 y → I64 (absF l fs f n x y).1 ∧ I64 (absF l fs f n x y).2
  | 0, n, x, y, hx, hy => ⟨hx, hy⟩
  | f + 1, n, x, y, hx, hy => by
    rw [absF]
    split
    · split
      · split
        · exact ⟨hx, hy⟩
        · exact absF_ok f _ _ _ (wrap_i64 _) (wrap_i64 _)
      · exact ⟨hx, hy⟩
    · exact ⟨hx, hy⟩
theorem absolute_ok {l : List Node} {fs : List Frame} (h : ∀ f ∈ fs, f.ok) : ∀ f ∈ absolute l fs, f.ok := fun f hf => by
  unfold absolute at hf
  split at hf
  · obtain ⟨g, hg, rfl⟩ := List.mem_map.1 hf
    obtain ⟨b0, b1, b2, b3, b4⟩ := h g hg
    obtain ⟨q1, q2⟩ := absF_ok (l := l) (fs := fs) 5 g.node g.x g.y b1 b2
    exact ⟨b0, q1, q2, b3, b4⟩
  · exact h f hf
set_option maxRecDepth 100000 in
theorem rd_EngineOk {w : World} {cs : List Value} (h : Rd Tryz.prog w 31 cs) : ∃ x : Engine, EngineIn false (fun k => k < w.heap.size) w cs x ∧ x.fits 9223372036854775807 ∧ (∀ m ∈ x.kept.memos, m.ok) ∧ ∀ f ∈ x.frames, f.ok := by
  obtain ⟨hl, hf⟩ := h.struct Tryz.underlying31
  have hl2 : cs.length = 8 := hl.trans (by kernel_rfl)
  have c1 : Tryz.prog.cellsOf 24 = 1 := by kernel_rfl
  have c2 : Tryz.prog.cellsOf 28 = 2 := by kernel_rfl
  have c3 : Tryz.prog.cellsOf 29 = 1 := by kernel_rfl
  have c4 : Tryz.prog.cellsOf 3 = 1 := by kernel_rfl
  have c5 : Tryz.prog.cellsOf 4 = 1 := by kernel_rfl
  match cs, hl2 with
  | [q0, q1, q2, q3, q4, q5, q6, q7], _ =>
    obtain ⟨tr, e0, t1⟩ := rd_Tree (hf 0 _ rfl)
    obtain ⟨ke, e1, t2, t3⟩ := rd_Kept (hf 1 _ rfl)
    obtain ⟨a, l, c, e2, h1, h2, h3⟩ := (hf 2 _ rfl).list (rep := fun w' r x => Flat Frame.cells w' r x ∧ x.ok) (sz := 5) Tryz.underlying29 (by kernel_rfl) (by decide) (fun cs h => by
      obtain ⟨x, e, ho⟩ := rd_Frame h
      exact ⟨x, e, ho⟩)
    obtain ⟨h4, h5⟩ := h3.split2
    obtain ⟨n3, e3, _⟩ := (hf 3 _ rfl).int Tryz.underlying3
    obtain ⟨n4, e4, _⟩ := (hf 4 _ rfl).int Tryz.underlying3
    obtain ⟨n5, e5, _⟩ := (hf 5 _ rfl).int Tryz.underlying3
    obtain ⟨b6, e6⟩ := (hf 6 _ rfl).bool Tryz.underlying4
    simp [c1, c2, c3, c4, c5] at e0 e1 e2 e3 e4 e5 e6
    unfold maxLen at h2
    exact ⟨⟨tr, ke, l, n3, n4, n5, b6⟩, ⟨q0, q1, q2, a, c, by simp [e2, e3, e4, e5, e6], e0, e1, h4, fun h => by cases h⟩, ⟨t1, t2, by show l.length ≤ _; omega⟩, t3, h5⟩
theorem engIn_all {x : Engine} {q : EngP} {R : Nat → Prop} {w : World} (h : EngineIn true R w (engL x q) x) : NodeSlice true R w q.ta x.tree ∧ MemoSlice true R w q.ka x.kept.memos ∧ FrameSl R w q.fa x.frames := by
  obtain ⟨t, k0, k1, f, c, e, ⟨ta, tc, et, hn, _⟩, ⟨ka, kc, kb, kd, ek, hm, ha, hw⟩, hfr, _⟩ := h
  simp only [List.cons.injEq, and_true] at et ek
  obtain rfl := et
  obtain ⟨rfl, rfl⟩ := ek
  simp only [engL, List.cons.injEq, Value.slice.injEq, true_and, and_true] at e
  obtain ⟨⟨e1, e2⟩, ⟨e3, e4⟩, ⟨e5, e6⟩, e7, e8⟩ := e
  rw [e1, e3, e7]
  exact ⟨hn, hm, hfr⟩
theorem tcell_len (x : List UInt8) : (tcell x).length = 1 := rfl
theorem tcell_one (x : List UInt8) : ∀ u ∈ tcell x, u.oneCell' = true := fun u hu => by simp [tcell] at hu; subst hu; rfl
structure Q5 where
  a1 : Option Addr
  c1 : Nat
  qf : SlP
  qt : SlP
  a2 : Option Addr
  c2 : Nat
set_option maxRecDepth 100000 in
set_option maxHeartbeats 8000000 in
theorem engineLines_any (x : Engine) (q : EngP) (R : Nat → Prop) (w : World) (F : x.fits 1048576) (hc : x.cost ≤ 1048576) (hmok : ∀ m ∈ x.kept.memos, m.ok) (hfok : ∀ f ∈ x.frames, f.ok) (h : EngineIn true R w (engL x q) x) (ht : Tab w) :
    Calls Tryz.prog 7 #[.agg (engL x q).toArray] w (NewSlice 9 1 w (engineLines x).length ((engineLines x).map tcell).flatten) := by
  obtain ⟨hn, hm, hf⟩ := engIn_all h
  have F1 := F.1
  have hT := fun w' (hm : Mod (fun _ => False) w w') => treeLines_any x.tree true q.ta q.tc R w' F1.1 F1.2 (hn.keep hm) (ht.keep hm)
  have hA := fun w' (hm : Mod (fun _ => False) w w') => absolute_any x.tree x.frames true q.ta q.fa q.tc q.fc R R w' F1.1 F1.2 F.2.2 (hn.keep hm) (hf.flatKeep hm)
  have hal := absolute_len x.tree x.frames
  have hfl : x.frames.length ≤ 1048576 := F.2.2
  have hFL := fun (a : Option Addr) (c : Nat) (S : Nat → Prop) w' (hm : Mod (fun _ => False) w w') (hs : FrameSl S w' a (absolute x.tree x.frames)) => frameLines_any (absolute x.tree x.frames) a c S w' (by omega) hs (absolute_ok hfok) (ht.keep hm)
  have hK := fun w' (hm' : Mod (fun _ => False) w w') => keptLines_any x.kept true q.ka q.kb q.kc q.kd R R w' F.2.1 hmok (MemoSlice.keep hm hm') (ht.keep hm')
  have hTl := treeL_len x.tree
  have hKl : (keptL x.kept).length ≤ 1048577 := by have := F.2.1.1; simp only [keptL, List.length_append, List.length_map, List.length_singleton]; omega
  have he : engineLines x = treeLines x.tree ++ (absolute x.tree x.frames).map frameW ++ keptL x.kept := rfl
  rw [he]
  have hml : ((absolute x.tree x.frames).map frameW).length ≤ 1048576 := by rw [List.length_map]; omega
  generalize absolute x.tree x.frames = G at *
  generalize treeLines x.tree = T at *
  generalize keptL x.kept = K at *
  generalize G.map frameW = M at *
  have hlen : (T ++ M ++ K).length = T.length + M.length + K.length := by rw [List.length_append, List.length_append]
  have hflat : ((T ++ M ++ K).map tcell).flatten = (T.map tcell).flatten ++ (M.map tcell).flatten ++ (K.map tcell).flatten := by rw [List.map_append, List.map_append, List.flatten_append, List.flatten_append]
  rw [hlen, hflat]
  refine calls_sx Tryz.func7 rfl rfl (fun a h1 h2 h3 => ((Fr.nil h1 h2).arg (h3 0 _ rfl))) ?_
  repeat (first | refine SX.seq ?_ | refine SXl.nil ?_ | refine SX.region ?_ | refine SQ.thenNormal ?_ | (refine l_assign ?_; (refine SXl.v (OpW.assign rfl) rfl ?_ ?_ ?_); rfl; rfl) | (refine l_box ?_; refine SXl.box ?_ ?_ rfl rfl (fun g => ?_); rfl; rfl))
  revert g; intro g1
  refine SX.drawnG (ζ := Q5) 10 (fun _ _ => [⟨g1, engL x q, 44⟩]) (fun d p => bif d 2 then [bif d 9 then ⟨.slice p.a2 (T.length + M.length) p.c2, 9, 1, T.length + M.length, (T.map tcell).flatten ++ (M.map tcell).flatten⟩ else ⟨.slice p.a1 T.length p.c1, 9, 1, T.length, (T.map tcell).flatten⟩] else []) (fun d p => (bif d 8 then [ownRes tcell 9 1 M p.qt] else []) ++ ((bif d 7 then [ownRes Frame.cells 91 5 G p.qf] else []) ++ []))
    [(2, fun p v => v = .slice p.a1 T.length p.c1), (7, fun p v => v = .slice p.qf.a G.length p.qf.c), (8, fun p v => v = .slice p.qt.a M.length p.qt.c), (9, fun p v => v = .slice p.a2 (T.length + M.length) p.c2)] ⟨none, 0, ⟨none, 0, 0⟩, ⟨none, 0, 0⟩, none, 0⟩ (by kernel_rfl) (by kernel_rfl) (by kernel_rfl) ⟨rfl, rfl, rfl⟩ ?_
  repeat (first | (refine SXg.v0 (fun dn x p ha hK => (OpW.loadRow 0 rfl rfl rfl rfl)) rfl (fun _ => rfl) rfl (fun _ _ => ⟨rfl, rfl, rfl⟩) rfl ?_) | (refine SXg.v0 (fun dn x p ha hK => (OpW.fieldAddr rfl)) rfl (fun _ => rfl) rfl (fun _ _ => ⟨rfl, rfl, rfl⟩) rfl ?_))
  refine SXg.l rfl (fun _ => rfl) rfl (fun dn x p ha hk => ?_) ?_
  · have d7 : dn 7 = false := ha.later 7 (by kernel_rfl)
    have u7 : upd dn 2 7 = false := d7
    have d8 : dn 8 = false := ha.later 8 (by kernel_rfl)
    have u8 : upd dn 2 8 = false := d8
    have d9 : dn 9 = false := ha.later 9 (by kernel_rfl)
    have u9 : upd dn 2 9 = false := d9
    have d2 : dn 2 = false := ha.not
    have u2 : upd dn 2 2 = true := rfl
    simp only [d7, d8, d9, d2, cond_true, cond_false, List.append_nil, List.nil_append]
    refine SXl.callO rfl rfl rfl (fun w' hl => (hT w' hl.mod).mono fun _ _ h => newSlice_o h) (fun ac _ => ?_)
    refine SXl.nil (SQ.g { p with a1 := ac.1, c1 := ac.2 } _ rfl (fun w hl => ?_) ⟨fun _ => rfl, hk.2.1, hk.2.2.1, hk.2.2.2.1, trivial⟩)
    simp only [u7, u8, u9, u2, cond_true, cond_false, List.append_nil, List.nil_append]
    exact hl
  repeat (first | (refine SXg.v0 (fun dn x p ha hK => (OpW.load 0 rfl rfl rfl)) rfl (fun _ => rfl) rfl (fun _ _ => ⟨rfl, rfl, rfl⟩) rfl ?_) | (refine SXg.v0 (fun dn x p ha hK => (OpW.loadRow 0 rfl rfl rfl rfl)) rfl (fun _ => rfl) rfl (fun _ _ => ⟨rfl, rfl, rfl⟩) rfl ?_) | (refine SXg.v0 (fun dn x p ha hK => (OpW.fieldAddr rfl)) rfl (fun _ => rfl) rfl (fun _ _ => ⟨rfl, rfl, rfl⟩) rfl ?_))
  refine SXg.l rfl (fun _ => rfl) rfl (fun dn x p ha hk => ?_) ?_
  · have d2 : dn 2 = true := ha.done 2 (by kernel_rfl)
    have u2 : upd dn 7 2 = true := d2
    have d8 : dn 8 = false := ha.later 8 (by kernel_rfl)
    have u8 : upd dn 7 8 = false := d8
    have d9 : dn 9 = false := ha.later 9 (by kernel_rfl)
    have u9 : upd dn 7 9 = false := d9
    have d7 : dn 7 = false := ha.not
    have u7 : upd dn 7 7 = true := rfl
    simp only [d2, d8, d9, d7, cond_true, cond_false, List.append_nil, List.nil_append]
    refine SXl.calln1 (v := fun q => .slice q.a G.length q.c) (F1 := ownRes Frame.cells 91 5 G) rfl rfl rfl (fun w hl => (hA w hl.mod).mono fun _ _ h => new_own h) (fun q => ?_)
    refine SXl.nil (SQ.g { p with qf := q } _ rfl (fun w hl => ?_) ⟨hk.1, fun _ => rfl, hk.2.2.1, hk.2.2.2.1, trivial⟩)
    simp only [u2, u8, u9, u7, cond_true, cond_false, List.append_nil, List.nil_append]
    exact hl
  refine SXg.l rfl (fun _ => rfl) rfl (fun dn x p ha hk => ?_) ?_
  · have d2 : dn 2 = true := ha.done 2 (by kernel_rfl)
    have u2 : upd dn 8 2 = true := d2
    have d7 : dn 7 = true := ha.done 7 (by kernel_rfl)
    have u7 : upd dn 8 7 = true := d7
    have d9 : dn 9 = false := ha.later 9 (by kernel_rfl)
    have u9 : upd dn 8 9 = false := d9
    have d8 : dn 8 = false := ha.not
    have u8 : upd dn 8 8 = true := rfl
    simp only [d2, d7, d9, d8, cond_true, cond_false, List.append_nil, List.nil_append]
    have x7 : x 7 = .slice p.qf.a G.length p.qf.c := hk.2.1 d7
    simp only [x7]
    refine SXl.calln1 (v := fun q => .slice q.a M.length q.c) (F1 := ownRes tcell 9 1 M) rfl rfl rfl (fun w hl => (hFL p.qf.a p.qf.c _ w hl.mod (own_in hl (List.mem_cons_self) frameC_len (by decide))).mono fun _ _ h => new_own h) (fun q => ?_)
    refine SXl.nil (SQ.g { p with qt := q } _ rfl (fun w hl => ?_) ⟨hk.1, hk.2.1, fun _ => rfl, hk.2.2.2.1, trivial⟩)
    simp only [u2, u7, u9, u8, cond_true, cond_false, List.append_nil, List.nil_append]
    exact hl
  refine SXg.l rfl (fun _ => rfl) rfl (fun dn x p ha hk => ?_) ?_
  · have d2 : dn 2 = true := ha.done 2 (by kernel_rfl)
    have u2 : upd dn 9 2 = true := d2
    have d7 : dn 7 = true := ha.done 7 (by kernel_rfl)
    have u7 : upd dn 9 7 = true := d7
    have d8 : dn 8 = true := ha.done 8 (by kernel_rfl)
    have u8 : upd dn 9 8 = true := d8
    have d9 : dn 9 = false := ha.not
    have u9 : upd dn 9 9 = true := rfl
    simp only [d2, d7, d8, d9, cond_true, cond_false, List.append_nil, List.nil_append]
    have x2 : x 2 = .slice p.a1 T.length p.c1 := hk.1 d2
    have x8 : x 8 = .slice p.qt.a M.length p.qt.c := hk.2.2.1 d8
    simp only [x2, x8]
    refine SXl.appendS (cs := tcell) 0 M rfl rfl rfl rfl rfl rfl tcell_len tcell_one (fun w hl => ⟨_, own_in hl (List.mem_cons_self) tcell_len (by decide)⟩) (by omega) (by omega) (fun a' c' => ?_)
    try simp only [List.set_cons_zero]
    refine SXl.nil (SQ.g { p with a2 := a', c2 := c' } _ rfl (fun w hl => ?_) ⟨hk.1, hk.2.1, hk.2.2.1, fun _ => rfl, trivial⟩)
    simp only [u2, u7, u8, u9, cond_true, cond_false, List.append_nil, List.nil_append]
    exact hl
  refine SXg.tail (fun xq pq hkq => ?_)
  have x9 : xq 9 = .slice pq.a2 (T.length + M.length) pq.c2 := hkq.2.2.2.1 rfl
  simp only [x9]
  change SXl _ _ _ _ _ [⟨g1, engL x q, 44⟩] [⟨.slice pq.a2 (T.length + M.length) pq.c2, 9, 1, T.length + M.length, (T.map tcell).flatten ++ (M.map tcell).flatten⟩] [ownRes tcell 9 1 M pq.qt, ownRes Frame.cells 91 5 G pq.qf] _ _ _
  repeat (first | refine SX.seq ?_ | refine SXl.nil ?_ | refine SX.region ?_ | refine SQ.thenNormal ?_ | (refine l_load ?_; (refine SXl.v (OpW.loadRow 0 rfl rfl rfl rfl) rfl ?_ ?_ ?_); rfl; rfl) | (refine l_fieldAddr ?_; (refine SXl.v (OpW.fieldAddr rfl) rfl ?_ ?_ ?_); rfl; rfl) | (refine l_move ?_; (refine SXl.v (OpW.move rfl) rfl ?_ ?_ ?_); rfl; rfl) | (refine l_assign ?_; (refine SXl.v (OpW.assign rfl) rfl ?_ ?_ ?_); rfl; rfl))
  refine l_call ?_
  refine SXl.calln1 (v := fun q => .slice q.a K.length q.c) (F1 := ownRes tcell 9 1 K) rfl rfl rfl (fun w hl => (hK _ hl.mod).mono fun _ _ h => new_own h) (fun qk => ?_)
  skip
  refine l_append ?_
  refine SXl.appendS (cs := tcell) 0 K rfl rfl rfl rfl rfl rfl tcell_len tcell_one (fun w hl => ⟨_, own_in hl (.head _) tcell_len (by decide)⟩) (by omega) (by omega) (fun a3 c3 => ?_)
  simp only [List.set_cons_zero]
  repeat (first | refine SXl.nil ?_ | refine SQ.thenNormal ?_ | (refine l_assign ?_; (refine SXl.v (OpW.assign rfl) rfl ?_ ?_ ?_); rfl; rfl) | refine SX.ret ?_)
  refine SQ.body1 rfl rfl (fun w' hl => ⟨a3, c3, rfl, (hl.own _ List.mem_cons_self).1, hl.mod⟩)
set_option maxRecDepth 100000 in
set_option maxHeartbeats 8000000 in
theorem sengineLines_any (x : Engine) (q : EngP) (R : Nat → Prop) (w : World) (F : x.fits 1048576) (hc : x.cost ≤ 1048576) (hmok : ∀ m ∈ x.kept.memos, m.ok) (hfok : ∀ f ∈ x.frames, f.ok) (h : EngineIn true R w (engL x q) x) :
    Calls Tryz.prog 5 #[.agg (engL x q).toArray] w (NewSlice 9 1 w (engineLines x).length ((engineLines x).map tcell).flatten) := by
  obtain ⟨hn, hm, hf⟩ := engIn_all h
  have F1 := F.1
  have hT := fun w' (hm : Mod (fun _ => False) w w') => streeLines_any x.tree true q.ta q.tc R w' F1.1 F1.2 (hn.keep hm)
  have hA := fun w' (hm : Mod (fun _ => False) w w') => sabsolute_any x.tree x.frames true q.ta q.fa q.tc q.fc R R w' F1.1 F1.2 F.2.2 (hn.keep hm) (hf.flatKeep hm)
  have hal := absolute_len x.tree x.frames
  have hfl : x.frames.length ≤ 1048576 := F.2.2
  have hFL := fun (a : Option Addr) (c : Nat) (S : Nat → Prop) w' (hm : Mod (fun _ => False) w w') (hs : FrameSl S w' a (absolute x.tree x.frames)) => sframeLines_any (absolute x.tree x.frames) a c S w' (by omega) hs (absolute_ok hfok)
  have hK := fun w' (hm' : Mod (fun _ => False) w w') => skeptLines_any x.kept true q.ka q.kb q.kc q.kd R R w' F.2.1 hmok (MemoSlice.keep hm hm')
  have hTl := treeL_len x.tree
  have hKl : (keptL x.kept).length ≤ 1048577 := by have := F.2.1.1; simp only [keptL, List.length_append, List.length_map, List.length_singleton]; omega
  have he : engineLines x = treeLines x.tree ++ (absolute x.tree x.frames).map frameW ++ keptL x.kept := rfl
  rw [he]
  have hml : ((absolute x.tree x.frames).map frameW).length ≤ 1048576 := by rw [List.length_map]; omega
  generalize absolute x.tree x.frames = G at *
  generalize treeLines x.tree = T at *
  generalize keptL x.kept = K at *
  generalize G.map frameW = M at *
  have hlen : (T ++ M ++ K).length = T.length + M.length + K.length := by rw [List.length_append, List.length_append]
  have hflat : ((T ++ M ++ K).map tcell).flatten = (T.map tcell).flatten ++ (M.map tcell).flatten ++ (K.map tcell).flatten := by rw [List.map_append, List.map_append, List.flatten_append, List.flatten_append]
  rw [hlen, hflat]
  refine calls_sx Tryz.func5 rfl rfl (fun a h1 h2 h3 => ((Fr.nil h1 h2).arg (h3 0 _ rfl))) ?_
  repeat (first | refine SX.seq ?_ | refine SXl.nil ?_ | refine SX.region ?_ | refine SQ.thenNormal ?_ | (refine l_load ?_; (refine SXl.v (OpW.loadRow 0 rfl rfl rfl rfl) rfl ?_ ?_ ?_); rfl; rfl) | (refine l_fieldAddr ?_; (refine SXl.v (OpW.fieldAddr rfl) rfl ?_ ?_ ?_); rfl; rfl) | (refine l_assign ?_; (refine SXl.v (OpW.assign rfl) rfl ?_ ?_ ?_); rfl; rfl) | (refine l_box ?_; refine SXl.box ?_ ?_ rfl rfl (fun g => ?_); rfl; rfl))
  refine l_call ?_
  refine SXl.callO rfl rfl rfl (fun w' hl => (hT w' hl.mod).mono fun _ _ h => newSlice_o h) (fun ⟨a1, c1⟩ _ => ?_)
  change SXl _ _ _ _ _ _ [⟨.slice a1 T.length c1, 9, 1, T.length, (T.map tcell).flatten⟩] _ _ _ _
  repeat (first | refine SX.seq ?_ | refine SXl.nil ?_ | refine SX.region ?_ | refine SQ.thenNormal ?_ | (refine l_load ?_; (first | refine SXl.v (OpW.load 0 rfl rfl rfl) rfl ?_ ?_ ?_ | refine SXl.v (OpW.loadRow 0 rfl rfl rfl rfl) rfl ?_ ?_ ?_); rfl; rfl) | (refine l_fieldAddr ?_; (refine SXl.v (OpW.fieldAddr rfl) rfl ?_ ?_ ?_); rfl; rfl) | (refine l_move ?_; (refine SXl.v (OpW.move rfl) rfl ?_ ?_ ?_); rfl; rfl) | (refine l_assign ?_; (refine SXl.v (OpW.assign rfl) rfl ?_ ?_ ?_); rfl; rfl))
  refine l_call ?_
  refine SXl.calln1 (v := fun q => .slice q.a G.length q.c) (F1 := ownRes Frame.cells 91 5 G) rfl rfl rfl (fun w hl => (hA w hl.mod).mono fun _ _ h => new_own h) (fun qf => ?_)
  skip
  refine l_call ?_
  refine SXl.calln1 (v := fun q => .slice q.a M.length q.c) (F1 := ownRes tcell 9 1 M) rfl rfl rfl (fun w hl => (hFL qf.a qf.c _ w hl.mod (own_in hl (List.mem_cons_self) frameC_len (by decide))).mono fun _ _ h => new_own h) (fun qt => ?_)
  skip
  refine l_append ?_
  refine SXl.appendS (cs := tcell) 0 M rfl rfl rfl rfl rfl rfl tcell_len tcell_one (fun w hl => ⟨_, own_in hl (.head _) tcell_len (by decide)⟩) (by omega) (by omega) (fun a2 c2 => ?_)
  simp only [List.set_cons_zero]
  repeat (first | refine SX.seq ?_ | refine SXl.nil ?_ | refine SX.region ?_ | refine SQ.thenNormal ?_ | (refine l_load ?_; (refine SXl.v (OpW.loadRow 0 rfl rfl rfl rfl) rfl ?_ ?_ ?_); rfl; rfl) | (refine l_fieldAddr ?_; (refine SXl.v (OpW.fieldAddr rfl) rfl ?_ ?_ ?_); rfl; rfl) | (refine l_move ?_; (refine SXl.v (OpW.move rfl) rfl ?_ ?_ ?_); rfl; rfl) | (refine l_assign ?_; (refine SXl.v (OpW.assign rfl) rfl ?_ ?_ ?_); rfl; rfl))
  refine l_call ?_
  refine SXl.calln1 (v := fun q => .slice q.a K.length q.c) (F1 := ownRes tcell 9 1 K) rfl rfl rfl (fun w hl => (hK _ hl.mod).mono fun _ _ h => new_own h) (fun qk => ?_)
  skip
  refine l_append ?_
  refine SXl.appendS (cs := tcell) 0 K rfl rfl rfl rfl rfl rfl tcell_len tcell_one (fun w hl => ⟨_, own_in hl (.head _) tcell_len (by decide)⟩) (by omega) (by omega) (fun a3 c3 => ?_)
  simp only [List.set_cons_zero]
  repeat (first | refine SXl.nil ?_ | refine SQ.thenNormal ?_ | (refine l_assign ?_; (refine SXl.v (OpW.assign rfl) rfl ?_ ?_ ?_); rfl; rfl) | refine SX.ret ?_)
  refine SQ.body1 rfl rfl (fun w' hl => ⟨a3, c3, rfl, (hl.own _ List.mem_cons_self).1, hl.mod⟩)
end Go.Proofs.YtpkpkojmaebflaaGreatDoor
namespace Go.Proofs.YtpkpkojmaebflaaGreatDoor
open Go.RowKit

theorem keepB_far {P S : Nat → Prop} {W w w' : World} (h : KeepB P W w) (hm : Mod S w w') (hs : ∀ k, k < W.heap.size → ¬ S k) (hz : W.heap.size ≤ w.heap.size) : KeepB P W w' := fun g e N hf => by
  have hg := hf.size
  have e1 := hm.block g (by omega) (hs g hg)
  exact ⟨(h g e N hf).1.mod hm (hs g hg), fun hp => e1.trans ((h g e N hf).2 hp)⟩
/-- What marks keep: blocks that may be written stay so; those of no type in P are as they were. -/
def markRg (W : World) (R : Nat → Prop) (P : Nat → Prop) : Rg W where
  p := fun k => R k ∧ k < W.heap.size
  q := fun _ => False
  J := fun w => W.heap.size ≤ w.heap.size ∧ KeepB P W w
  low := fun _ h => h.2
  sub := fun _ h => h.elim
  keep := fun _ _ _ ⟨hz, h1⟩ hm hs => ⟨Nat.le_trans hz hm.size, keepB_far h1 hm (fun k hk h => (hs k hk h).elim) hz⟩
theorem modlow {R : Nat → Prop} {W w w' : World} (h : Mod (fun k => R k ∧ k < W.heap.size) w w') : Mod R w w' := h.mono fun _ _ h => h.1
theorem Wr.low {e sz : Nat} {R : Nat → Prop} {w : World} {a : Option Addr} {n : Nat} (h : Wr e sz R w a n) : Wr e sz (fun k => R k ∧ k < w.heap.size) w a n := h.weaken fun b hb h => ⟨h, hb⟩

abbrev NoT (_ : Nat) : Prop := False
theorem KeepB.low {R : Nat → Prop} {P : Nat → Prop} {W w : World} (h : (markRg W R P).J w) : KeepB P W w := h.2

end Go.Proofs.YtpkpkojmaebflaaGreatDoor
namespace Go.Proofs.YtpkpkojmaebflaaGreatDoor
open Go.RowKit
set_option linter.unusedVariables false
set_option linter.unusedSimpArgs false

theorem markIntS_wr (n c : Nat) (a : Option Addr) (R : Nat → Prop) (w : World) (q0 : Int) (hq0 : 1 ≤ q0) (hq1 : q0 ≤ 1000000000000000) (hn : n ≤ 1048576) (h : Wr 3 1 R w a n) :
    Calls Tryz.prog 97 #[.slice a n c, .int .i64 q0] w fun e w' => e = .returned (.int .i64 (q0 + n)) ∧ Mod R w w' ∧ KeepB (fun t => t = 3) w w' :=
  mark_wr h fun g N hh => markIntS_any n c a g N w q0 hq0 hq1 (by omega) (by simpa using hh)
theorem markRuleS_wr (n c : Nat) (a : Option Addr) (R : Nat → Prop) (w : World) (q0 : Int) (hq0 : 0 ≤ q0) (hq1 : q0 ≤ 1000000000000000) (hn : n ≤ 1048576) (h : Wr 176 3 R w a n) :
    Calls Tryz.prog 98 #[.slice a n c, .int .i64 q0] w fun e w' => e = .returned (.int .i64 (q0 + n * 3)) ∧ Mod R w w' ∧ KeepB (fun t => t = 176) w w' :=
  mark_wr h fun g N hh => markRuleS_any n c a g N w q0 hq0 hq1 hn hh
/-- The slices in a slice of nodes may be written. -/
def NodeSh (R : Nat → Prop) (g n : Nat) (w : World) : Prop := ∀ i, i < n → (∃ a m c, w.cell? ⟨g, i * 64 + 1, none⟩ = some (.slice a m c) ∧ m ≤ 1048576 ∧ Wr 3 1 R w a m) ∧ ∃ a m c, w.cell? ⟨g, i * 64 + 63, none⟩ = some (.slice a m c) ∧ m ≤ 1048576 ∧ Wr 176 3 R w a m
def NodeWr (R : Nat → Prop) (w : World) (a : Option Addr) (n : Nat) : Prop :=
  n = 0 ∨ ∃ g N, a = some ⟨g, 0, none⟩ ∧ R g ∧ n * 64 ≤ N ∧ Filled g 85 N w [] ∧ NodeSh R g n w
theorem NodeWr.keep {P R : Nat → Prop} {a : Option Addr} {n : Nat} {w w' : World} (h : NodeWr R w a n) (hk : KeepB P w w') (hp : ¬ P 85) : NodeWr R w' a n := by
  rcases h with h | ⟨g, N, h1, h2, h3, h4, h5⟩
  · exact .inl h
  · refine .inr ⟨g, N, h1, h2, h3, (hk g _ N h4).1, fun i hi => ?_⟩
    obtain ⟨⟨a, m, c, q1, q2, q3⟩, ⟨a', m', c', q4, q5, q6⟩⟩ := h5 i hi
    exact ⟨⟨a, m, c, (World.cell?_of_block (a := ⟨g, i * 64 + 1, none⟩) ((hk g _ N h4).2 hp)).trans q1, q2, q3.keep hk⟩, a', m', c', (World.cell?_of_block (a := ⟨g, i * 64 + 63, none⟩) ((hk g _ N h4).2 hp)).trans q4, q5, q6.keep hk⟩
theorem NodeSlice.wr {R : Nat → Prop} {g N : Nat} {w : World} {l : List Node} (h : NodeSlice true R w (some ⟨g, 0, none⟩) l) (hf : Filled g 85 N w []) (hN : l.length * 64 ≤ N) (hm : ∀ x ∈ l, x.fits 1048576) (hR : R g) : NodeWr R w (some ⟨g, 0, none⟩) l.length := by
  refine .inr ⟨g, N, rfl, hR, hN, hf, fun i hi => ?_⟩
  obtain ⟨b, o, x, r, e, hb, hbw, hx, ⟨k, c, t, c', rfl, _, _, h3⟩, hl, hc⟩ := h.get hi
  simp only [Option.some.injEq, Addr.mk.injEq, and_true] at e
  obtain ⟨rfl, rfl⟩ := e
  have h1 := hc 1 _ (nodeRow_1 _ _ _ _ _ _ _ _ _)
  have h63 := hc 63 _ (nodeRow_63 _ _ _ _ _ _ _ _ _)
  rw [Nat.zero_add] at h1 h63
  have hf := hm x (List.mem_of_getElem? hx.out)
  unfold Node.fits at hf
  exact ⟨⟨_, _, _, h1, hf.1, (h3 rfl).1⟩, _, _, _, h63, hf.2, (h3 rfl).2⟩

/-- What marks of nodes keep. -/
def NodeJ (W : World) (g N n : Nat) (w : World) : Prop :=
  KeepB (fun t => t = 85 ∨ t = 3 ∨ t = 176) W w ∧ Filled g 85 N w [] ∧ ∀ i, i < n → w.cell? ⟨g, i * 64 + 1, none⟩ = W.cell? ⟨g, i * 64 + 1, none⟩ ∧ w.cell? ⟨g, i * 64 + 63, none⟩ = W.cell? ⟨g, i * 64 + 63, none⟩
def nodeRg (W : World) (R : Nat → Prop) (g N n : Nat) (hg : g < W.heap.size) : Rg W where
  p := fun k => R k ∧ k < W.heap.size
  q := fun _ => False
  J := fun w => W.heap.size ≤ w.heap.size ∧ NodeJ W g N n w
  low := fun _ h => h.2
  sub := fun _ h => h.elim
  keep := fun S w w' ⟨hz, h1, h2, h3⟩ hm hs => by
    have hgw : g < w.heap.size := by omega
    refine ⟨Nat.le_trans hz hm.size, keepB_far h1 hm (fun k hk h => (hs k hk h).elim) hz, h2.mod hm (fun h => (hs g hg h).elim), fun i hi => ?_⟩
    rw [hm.cell (a := ⟨g, i * 64 + 1, none⟩) hgw (fun h => (hs g hg h).elim), hm.cell (a := ⟨g, i * 64 + 63, none⟩) hgw (fun h => (hs g hg h).elim)]
    exact h3 i hi
theorem NodeJ.set {W w : World} {g N n : Nat} (h : NodeJ W g N n w) (hF : Filled g 85 N W []) {o : Nat} (ho : o < N) (h1 : o % 64 ≠ 1) (h63 : o % 64 ≠ 63) (v : Value) :
    (∃ u, w.cell? ⟨g, o, none⟩ = some u) ∧ w.frozen? ⟨g, o, none⟩ = false ∧ NodeJ W g N n (w.setCell ⟨g, o, none⟩ v) := by
  refine ⟨h.2.1.cell ho, h.2.1.free o, h.1.set hF (.inl rfl) _ _ _, h.2.1.set _ _ _ _, fun i hi => ?_⟩
  have e1 : (⟨g, o, none⟩ : Addr) ≠ ⟨g, i * 64 + 1, none⟩ := by
    intro e; simp only [Addr.mk.injEq, true_and, and_true] at e; omega
  have e2 : (⟨g, o, none⟩ : Addr) ≠ ⟨g, i * 64 + 63, none⟩ := by
    intro e; simp only [Addr.mk.injEq, true_and, and_true] at e; omega
  rw [World.cell?_setCell_other w _ _ _ e1, World.cell?_setCell_other w _ _ _ e2]
  exact h.2.2 i hi

set_option maxRecDepth 100000 in
set_option maxHeartbeats 8000000 in
theorem markNodeS_any (n c : Nat) (a : Option Addr) (R : Nat → Prop) (w : World) (q0 : Int) (hq0 : 1 ≤ q0) (hq1 : q0 ≤ 100000000000000) (hn : n ≤ 1048576) (h : NodeWr R w a n) :
    Calls Tryz.prog 66 #[.slice a n c, .int .i64 q0] w fun e w' => ∃ q : Int, e = .returned (.int .i64 q) ∧ q0 ≤ q ∧ q ≤ q0 + n * 6000000 ∧ Mod R w w' ∧ KeepB (fun t => t = 85 ∨ t = 3 ∨ t = 176) w w' := by
  by_cases h0 : n = 0
  · subst h0
    refine calls_sx Tryz.func66 rfl rfl (fun a h1 h2 h3 => ((Fr.nil h1 h2).arg (h3 1 _ rfl)).arg (h3 0 _ rfl)) ?_
    repeat (first | refine SX.seq ?_ | refine SXl.nil ?_ | refine SX.region ?_ | refine SQ.thenNormal ?_ | refine SX.block ?_ | (refine l_assign ?_; (refine SXl.v (OpW.assign rfl) rfl ?_ ?_ ?_); rfl; rfl))
    refine SX.loopi (fun k : Nat => k = 0) (fun _ => 0) (fun _ => []) (fun _ => []) (fun _ => []) (fun k => [(0, .slice a 0 c), (1, .int .i64 q0), (5, .int .i64 k)]) 0 rfl ?_ (fun _ hl => hl) ?_
    · (repeat (first | exact subF_nil _ | (refine subF_cons rfl ?_) | (refine subF_consv rfl (by rfl) ?_)))
    · rintro k rfl
      repeat (first | refine SX.seq ?_ | refine SXl.nil ?_ | refine SX.region ?_ | refine SQ.thenNormal ?_ | refine SX.condF rfl ?_ | (refine l_move ?_; (refine SXl.v (OpW.move rfl) rfl ?_ ?_ ?_); rfl; rfl) | (refine l_assign ?_; (refine SXl.v (OpW.assign rfl) rfl ?_ ?_ ?_); rfl; rfl) | (refine l_len ?_; (refine SXl.v (OpW.len rfl) rfl ?_ ?_ ?_); rfl; rfl) | (refine l_lss ?_; (refine SXl.v (OpW.lssF rfl rfl (by omega)) rfl ?_ ?_ ?_); rfl; rfl) | refine SX.ret ?_ | refine SX.exit ?_ | refine SQ.thenExit ?_ | refine SQ.blockExit ?_)
      refine SQ.body1 rfl rfl (fun w' hl => ⟨q0, rfl, by omega, by omega, hl.mod.mono (fun _ _ f => f.elim), KeepB.none hl.mod⟩)
  · obtain ⟨g, N, rfl, hR, hN, hF, hS⟩ := h.resolve_left h0
    have hg := hF.size
    refine calls_sxJ (nodeRg w R g N n hg) ⟨Nat.le_refl _, KeepB.refl _ _, hF, fun _ _ => ⟨rfl, rfl⟩⟩ Tryz.func66 rfl rfl (fun a h1 h2 h3 => ((Fr.nil h1 h2).arg (h3 1 _ rfl)).arg (h3 0 _ rfl)) ?_
    repeat (first | refine SX.seq ?_ | refine SXl.nil ?_ | refine SX.region ?_ | refine SQ.thenNormal ?_ | refine SX.block ?_ | (refine l_assign ?_; (refine SXl.v (OpW.assign rfl) rfl ?_ ?_ ?_); rfl; rfl))
    refine SX.loop3 (fun (k : Nat) (q : Int) (_ : Unit) => k ≤ n ∧ q0 ≤ q ∧ q ≤ q0 + k * 6000000) (fun k _ _ => n - k) (fun _ _ _ => []) (fun _ _ _ => []) (fun _ _ _ => []) (fun k q _ => [(0, .slice (some ⟨g, 0, none⟩) n c), (1, .int .i64 q), (5, .int .i64 k)]) 0 q0 () ⟨Nat.zero_le _, by omega, by omega⟩ ?_ (fun _ hl => hl) ?_
    · (repeat (first | exact subF_nil _ | (refine subF_cons rfl ?_) | (refine subF_consv rfl (by rfl) ?_)))
    · rintro k q _ ⟨hk, hq2, hq3⟩
      by_cases hlt : k < n
      · obtain ⟨⟨a1, m1, c1, hc1, hm1, hw1⟩, ⟨a2, m2, c2, hc2, hm2, hw2⟩⟩ := hS k hlt
        have hw1' : Wr 3 1 (fun b => R b ∧ b < w.heap.size) w a1 m1 := hw1.weaken fun b hb h => ⟨h, hb⟩
        have hw2' : Wr 176 3 (fun b => R b ∧ b < w.heap.size) w a2 m2 := hw2.weaken fun b hb h => ⟨h, hb⟩
        have hkN : k * 64 + 64 ≤ N := by omega
        have hp : (nodeRg w R g N n hg).p g := ⟨hR, hg⟩
        have hq : ¬ (nodeRg w R g N n hg).q g := fun h => h
        have hJs : ∀ (o : Nat) (v : Value), o < N → o % 64 ≠ 1 → o % 64 ≠ 63 → ∀ w', (nodeRg w R g N n hg).J w' → (∃ u, w'.cell? ⟨g, o, none⟩ = some u) ∧ w'.frozen? ⟨g, o, none⟩ = false ∧ (nodeRg w R g N n hg).J (w'.setCell ⟨g, o, none⟩ v) := fun o v h1 h2 h3 w' hJ => by
          obtain ⟨q1, q2, q3⟩ := hJ.2.set hF h1 h2 h3 v
          exact ⟨q1, q2, by rw [World.size_setCell]; exact hJ.1, q3⟩
        have hJc : ∀ (p : Nat → Prop), (∀ t, p t → t = 3 ∨ t = 176) → ∀ w' w2, (nodeRg w R g N n hg).J w' → Mod (nodeRg w R g N n hg).p w' w2 → KeepB p w' w2 → (nodeRg w R g N n hg).J w2 := fun p hp w' w2 hJ hm hk => by
          have hgs := (hk g _ N hJ.2.2.1).2 (fun h => by rcases hp _ h with h | h <;> exact absurd h (by decide))
          refine ⟨Nat.le_trans hJ.1 hm.size, hJ.2.1.trans (hk.mono fun t ht => .inr (hp t ht)), (hk g _ N hJ.2.2.1).1, fun i hi => ?_⟩
          rw [World.cell?_of_block (a := ⟨g, i * 64 + 1, none⟩) hgs, World.cell?_of_block (a := ⟨g, i * 64 + 63, none⟩) hgs]
          exact hJ.2.2.2 i hi
        repeat (first | refine SX.seq ?_ | refine SXl.nil ?_ | refine SX.region ?_ | refine SQ.thenNormal ?_ | refine SX.block ?_ | refine SX.skip ?_ | refine SX.condT rfl ?_ | (refine l_load ?_; (refine SXl.v (OpW.loadJ rfl (fun w' hJ => ((congrArg (fun o => w'.cell? ⟨g, o, none⟩) (by omega)).trans (hJ.2.2.2 k hlt).1).trans hc1)) rfl ?_ ?_ ?_); rfl; rfl) | (refine l_fieldAddr ?_; (refine SXl.v (OpW.fieldAddr rfl) rfl ?_ ?_ ?_); rfl; rfl) | (refine l_move ?_; (refine SXl.v (OpW.move rfl) rfl ?_ ?_ ?_); rfl; rfl) | (refine l_assign ?_; (refine SXl.v (OpW.assign rfl) rfl ?_ ?_ ?_); rfl; rfl) | (refine l_len ?_; (refine SXl.v (OpW.len rfl) rfl ?_ ?_ ?_); rfl; rfl) | (refine l_add ?_; (refine SXl.v (OpW.addi rfl rfl (by omega) (by omega)) rfl ?_ ?_ ?_); rfl; rfl) | (refine l_lss ?_; (refine SXl.v (OpW.lssT rfl rfl (by omega)) rfl ?_ ?_ ?_); rfl; rfl) | (refine l_indexAddr ?_; (refine SXl.v (OpW.indexAddr (by omega) rfl rfl) rfl ?_ ?_ ?_); rfl; rfl) | (refine l_store ?_; refine SXl.storeJ hp hq rfl rfl rfl rfl (hJs _ _ (by omega) (by omega) (by omega)) ?_))
        refine l_call ?_
        refine SXl.callJ1 (fun _ h => h) rfl rfl rfl (fun w' hl => (markIntS_wr m1 c1 a1 _ w' _ (by omega) (by omega) hm1 (hw1'.keep hl.inv.2.1)).mono fun e w2 ⟨he, hm, hk⟩ => ⟨he, hm, hJc _ (fun t h => .inl h) w' w2 hl.inv hm hk⟩) ?_
        repeat (first | refine SX.seq ?_ | refine SXl.nil ?_ | refine SX.region ?_ | refine SQ.thenNormal ?_ | (refine l_load ?_; (refine SXl.v (OpW.loadJ rfl (fun w' hJ => ((congrArg (fun o => w'.cell? ⟨g, o, none⟩) (by omega)).trans (hJ.2.2.2 k hlt).2).trans hc2)) rfl ?_ ?_ ?_); rfl; rfl) | (refine l_fieldAddr ?_; (refine SXl.v (OpW.fieldAddr rfl) rfl ?_ ?_ ?_); rfl; rfl) | (refine l_move ?_; (refine SXl.v (OpW.move rfl) rfl ?_ ?_ ?_); rfl; rfl) | (refine l_assign ?_; (refine SXl.v (OpW.assign rfl) rfl ?_ ?_ ?_); rfl; rfl) | (refine l_add ?_; (refine SXl.v (OpW.addi rfl rfl (by omega) (by omega)) rfl ?_ ?_ ?_); rfl; rfl) | (refine l_eql ?_; (refine SXl.v (OpW.eql rfl rfl) rfl ?_ ?_ ?_); rfl; rfl) | (refine l_rem ?_; (refine SXl.v (OpW.rem (by omega) rfl rfl) rfl ?_ ?_ ?_); rfl; rfl) | (refine l_indexAddr ?_; (refine SXl.v (OpW.indexAddr (by omega) rfl rfl) rfl ?_ ?_ ?_); rfl; rfl) | (refine l_store ?_; refine SXl.storeJ hp hq rfl rfl rfl rfl (hJs _ _ (by omega) (by omega) (by omega)) ?_))
        refine l_call ?_
        refine SXl.callJ1 (fun _ h => h) rfl rfl rfl (fun w' hl => (markRuleS_wr m2 c2 a2 _ w' _ (by omega) (by omega) hm2 (hw2'.keep hl.inv.2.1)).mono fun e w2 ⟨he, hm, hk⟩ => ⟨he, hm, hJc _ (fun t h => .inr h) w' w2 hl.inv hm hk⟩) ?_
        repeat (first | refine SXl.nil ?_ | refine SX.region ?_ | refine SQ.thenNormal ?_ | (refine l_move ?_; (refine SXl.v (OpW.move rfl) rfl ?_ ?_ ?_); rfl; rfl) | (refine l_assign ?_; (refine SXl.v (OpW.assign rfl) rfl ?_ ?_ ?_); rfl; rfl) | (refine l_add ?_; (refine SXl.v (OpW.succ rfl rfl (by omega)) rfl ?_ ?_ ?_); rfl; rfl) | refine SQ.blockNormal ?_)
        refine SQ.round3 (k + 1) ?jq () ⟨by omega, ?ha, ?hb⟩ (by omega) ?hs (fun w hl => hl)
        case hs => (repeat (first | exact subF_nil _ | (refine subF_cons rfl ?_) | (refine subF_consv rfl (by rfl) ?_)))
        case ha => omega
        case hb => omega
      · repeat (first | refine SX.seq ?_ | refine SXl.nil ?_ | refine SX.region ?_ | refine SQ.thenNormal ?_ | refine SX.condF rfl ?_ | (refine l_move ?_; (refine SXl.v (OpW.move rfl) rfl ?_ ?_ ?_); rfl; rfl) | (refine l_assign ?_; (refine SXl.v (OpW.assign rfl) rfl ?_ ?_ ?_); rfl; rfl) | (refine l_len ?_; (refine SXl.v (OpW.len rfl) rfl ?_ ?_ ?_); rfl; rfl) | (refine l_lss ?_; (refine SXl.v (OpW.lssF rfl rfl (by omega)) rfl ?_ ?_ ?_); rfl; rfl) | refine SX.ret ?_ | refine SX.exit ?_ | refine SQ.thenExit ?_ | refine SQ.blockExit ?_)
        refine SQ.body1 rfl rfl (fun w' hl => ?_)
        have hkn : k = n := by omega
        subst hkn
        exact ⟨q, rfl, by omega, by omega, hl.mod.mono (fun _ _ h => h.1), hl.inv.2.1⟩

abbrev NodeT (t : Nat) : Prop := t = 85 ∨ t = 3 ∨ t = 176
theorem NodeWr.low {R : Nat → Prop} {w : World} {a : Option Addr} {n : Nat} (h : NodeWr R w a n) : NodeWr (fun k => R k ∧ k < w.heap.size) w a n := by
  rcases h with h | ⟨g, N, h1, h2, h3, h4, h5⟩
  · exact .inl h
  · refine .inr ⟨g, N, h1, ⟨h2, h4.size⟩, h3, h4, fun i hi => ?_⟩
    obtain ⟨⟨a, m, c, q1, q2, q3⟩, ⟨a', m', c', q4, q5, q6⟩⟩ := h5 i hi
    exact ⟨⟨a, m, c, q1, q2, q3.weaken fun b hb h => ⟨h, hb⟩⟩, a', m', c', q4, q5, q6.weaken fun b hb h => ⟨h, hb⟩⟩
set_option maxRecDepth 100000 in
theorem markTree_any (n c : Nat) (a : Option Addr) (R : Nat → Prop) (w : World) (q0 : Int) (hq0 : 1 ≤ q0) (hq1 : q0 ≤ 100000000000000) (hn : n ≤ 1048576) (h : NodeWr R w a n) :
    Calls Tryz.prog 30 #[.agg #[.slice a n c], .int .i64 q0] w fun e w' => ∃ q : Int, e = .returned (.int .i64 q) ∧ q0 ≤ q ∧ q ≤ q0 + n * 6000000 ∧ Mod R w w' ∧ KeepB NodeT w w' := by
  refine calls_sxJ (markRg w R NoT) ⟨Nat.le_refl _, KeepB.refl _ _⟩ Tryz.func30 rfl rfl (fun a h1 h2 h3 => ((Fr.nil h1 h2).arg (h3 1 _ rfl)).arg (h3 0 _ rfl)) ?_
  repeat (first | refine SX.seq ?_ | refine SXl.nil ?_ | refine SX.region ?_ | refine SQ.thenNormal ?_ | (refine l_load ?_; (refine SXl.v (OpW.load 0 rfl rfl rfl) rfl ?_ ?_ ?_); rfl; rfl) | (refine l_fieldAddr ?_; (refine SXl.v (OpW.fieldAddr rfl) rfl ?_ ?_ ?_); rfl; rfl) | (refine l_move ?_; (refine SXl.v (OpW.move rfl) rfl ?_ ?_ ?_); rfl; rfl) | (refine l_assign ?_; (refine SXl.v (OpW.assign rfl) rfl ?_ ?_ ?_); rfl; rfl) | (refine l_box ?_; refine SXl.box ?_ ?_ rfl rfl (fun g => ?_); rfl; rfl))
  refine l_call ?_
  refine SXl.callJ2 (ξ := Int) (v := fun q => .int .i64 q) (markRg w R NodeT) (fun _ h => h) (fun _ h => h) rfl rfl rfl (fun q => q0 ≤ q ∧ q ≤ q0 + n * 6000000) (fun w' hl => (markNodeS_any n c a _ w' q0 hq0 hq1 hn (h.low.keep hl.inv.2 (fun f => f))).mono fun e w2 ⟨q, he, h1, h2, hm, hk⟩ => ⟨q, he, ⟨h1, h2⟩, hm, Nat.le_trans hl.inv.1 hm.size, (hl.inv.2.mono (fun _ f => f.elim)).trans hk⟩) ?_
  intro q ⟨h1, h2⟩
  repeat (first | refine SX.seq ?_ | refine SXl.nil ?_ | refine SX.region ?_ | refine SQ.thenNormal ?_ | (refine l_move ?_; (refine SXl.v (OpW.move rfl) rfl ?_ ?_ ?_); rfl; rfl) | (refine l_assign ?_; (refine SXl.v (OpW.assign rfl) rfl ?_ ?_ ?_); rfl; rfl) | refine SX.ret ?_)
  refine SQ.body1 rfl rfl (fun w' hl => ⟨q, rfl, h1, h2, modlow hl.mod, hl.inv.2⟩)
end Go.Proofs.YtpkpkojmaebflaaGreatDoor
