/-
  PROVED: contracts of the exact laws' functions at slices of memos: the count, the marks. No condition but a bound on the lengths.
-/
import Derived.Test.YtcolkidnjojlmaaDoorMemoS
namespace Go.Proofs.YtcolkidnjojlmaaDoor
open Go.RowKit

set_option maxRecDepth 100000 in
set_option maxHeartbeats 4000000 in
theorem szMemoS_any (l : List Memo) (o : Bool) (a : Option Addr) (c : Nat) (R : Nat → Prop) (left : Int) (w : World) (h0 : 0 ≤ left) (h1 : left ≤ 1048576) (hl : l.length ≤ 9223372036854775807) (hf : ∀ x ∈ l, x.frames.length ≤ 9223372036854775807) (h : MemoSlice o R w a l) :
    Calls Tryd.prog 59 #[.slice a l.length c, .int .i64 left] w fun e w' => e = .returned (.int .i64 (szRes left (l.length + costs Memo.cost l))) ∧ Mod (fun _ => False) w w' := by
  have H := hid h
  have HF := hid hf
  clear h hf
  by_cases hs : left < l.length
  · rw [szRes_less (by omega)]
    have h2 : left - l.length < 0 := by omega
    have h3 : -9223372036854775807 ≤ left - l.length := by omega
    go_enter Tryd.func59, Tryd.ntmps59
    go_wp2
    go_ret
    exact ⟨rfl, Mod.refl _ _⟩
  · have h2 : 0 ≤ left - l.length := by omega
    go_enter Tryd.func59, Tryd.ntmps59
    go_wp2
    go_loopw [1, 5] (fun z i wr => ∃ (k : Nat) (q : Int), k ≤ l.length ∧ z = .int .i64 q ∧ Hid (q = left - l.length - costs Memo.cost (l.take k)) ∧ 0 ≤ q ∧ q ≤ 1048576 ∧ i = .int .i64 k ∧ Mod (fun _ => False) w wr) (fun _ i _ => l.length - (intOf i).toNat)
    case atStart => exact ⟨0, _, by omega, rfl, hid (by simp [costs]), h2, by omega, rfl, Mod.refl _ _⟩
    case round =>
      obtain ⟨k, q, hk, rfl, hq, q1, q2, rfl, hM⟩ := hrel
      by_cases hlt : k < l.length
      · obtain ⟨b, o', x, r, rfl, hb, hbw, hx, ⟨fa, fc, rfl, _, _⟩, hrl', hc⟩ := (H.out.keep hM).get hlt
        have hxl := HF.out x (List.mem_of_getElem? hx.out)
        have c0 : wr.cell? ⟨b, o' + k * 10, none⟩ = _ := hc 0 _ rfl
        have c1 : wr.cell? ⟨b, o' + k * 10 + 1, none⟩ = _ := hc 1 _ rfl
        have c2 : wr.cell? ⟨b, o' + k * 10 + 2, none⟩ = _ := hc 2 _ rfl
        have c3 : wr.cell? ⟨b, o' + k * 10 + 3, none⟩ = _ := hc 3 _ rfl
        have c4 : wr.cell? ⟨b, o' + k * 10 + 4, none⟩ = _ := hc 4 _ rfl
        have c5 : wr.cell? ⟨b, o' + k * 10 + 5, none⟩ = _ := hc 5 _ rfl
        have c6 : wr.cell? ⟨b, o' + k * 10 + 6, none⟩ = _ := hc 6 _ rfl
        have c7 : wr.cell? ⟨b, o' + k * 10 + 7, none⟩ = _ := hc 7 _ rfl
        have c8 : wr.cell? ⟨b, o' + k * 10 + 8, none⟩ = _ := hc 8 _ rfl
        have c9 : wr.cell? ⟨b, o' + k * 10 + 9, none⟩ = _ := hc 9 _ rfl
        clear hc hrl'
        have hs1 := hid (costs_succ Memo.cost hx)
        have hs2 := hid (costs_take Memo.cost l (k + 1))
        go_wp2_with fail
        refine (szMemo_any x _ fc fa _ q1 q2 hxl _).mono ?_
        rintro e w1 ⟨rfl, hm1⟩
        by_cases hsx : q < x.frames.length
        · rw [if_pos hsx]
          have hlast := hid (show left < l.length + costs Memo.cost l by have := hs1.out; have := hs2.out; have := hq.out; unfold Memo.cost at *; omega)
          go_wp2
          go_ret
          exact ⟨ret_int (szRes_less (by have := hlast.out; omega)).symm, hM.thenNone (by (repeat (first | with_reducible exact Mod.refl _ _ | with_reducible refine Mod.drewN ?_ _ | with_reducible refine Mod.drew ?_ | with_reducible refine Mod.alloc ?_ _ | ((with_reducible refine Mod.setNew ?_ ?_ _ _ _); (rotate_left; omega)) | with_reducible refine Mod.setAt ?_ _ _ _ | with_reducible exact hm1 | with_reducible refine Mod.thenNone ?_ hm1 )))⟩
        · rw [if_neg hsx]
          have q3 : 0 ≤ q - x.frames.length := by omega
          have hq2 := hid (show q - x.frames.length = left - l.length - costs Memo.cost (l.take (k + 1)) by have := hs1.out; have := hq.out; unfold Memo.cost at *; omega)
          go_wp2
          go_roundw
          case rel => exact ⟨k + 1, _, by omega, rfl, hq2, q3, by omega, by go_num, hM.thenNone (by (repeat (first | with_reducible exact Mod.refl _ _ | with_reducible refine Mod.drewN ?_ _ | with_reducible refine Mod.drew ?_ | with_reducible refine Mod.alloc ?_ _ | ((with_reducible refine Mod.setNew ?_ ?_ _ _ _); (rotate_left; omega)) | with_reducible refine Mod.setAt ?_ _ _ _ | with_reducible exact hm1 | with_reducible refine Mod.thenNone ?_ hm1 )))⟩
          case measure => simp [intOf]; omega
      · have hk' : k = l.length := by omega
        subst hk'
        have hlast := hid (show ¬ left < l.length + costs Memo.cost l by have := hq.out; rw [List.take_length] at this; omega)
        go_wp2
        go_ret
        refine ⟨ret_int ?_, hM⟩
        have h5 := hq.out
        have h6 := hlast.out
        rw [List.take_length] at h5
        rw [szRes_more (by omega)]
        omega


/-- The frames of a slice of memos may be written. -/
def MemoSh (R : Nat → Prop) (g n : Nat) (w : World) : Prop := ∀ i, i < n → ∃ a m c, w.cell? ⟨g, i * 10 + 9, none⟩ = some (.slice a m c) ∧ m ≤ 1048576 ∧ Wr 161 5 R w a m
/-- A slice of memos that may be written, its frames too. -/
def MemoWr (R : Nat → Prop) (w : World) (a : Option Addr) (n : Nat) : Prop :=
  n = 0 ∨ ∃ g N, a = some ⟨g, 0, none⟩ ∧ R g ∧ n * 10 ≤ N ∧ Filled g 106 N w [] ∧ MemoSh R g n w
theorem MemoSh.set {R : Nat → Prop} {g n : Nat} {w : World} (h : MemoSh R g n w) (j : Nat) (v : Value) (hj : j % 10 ≠ 9) : MemoSh R g n (w.setCell ⟨g, j, none⟩ v) := fun i hi => by
  obtain ⟨a, m, c, h1, h2, h3⟩ := h i hi
  refine ⟨a, m, c, ?_, h2, h3.set g j none v⟩
  have hne : (⟨g, j, none⟩ : Addr) ≠ ⟨g, i * 10 + 9, none⟩ := by
    intro e
    simp only [Addr.mk.injEq, true_and, and_true] at e
    omega
  rw [World.cell?_setCell_other w _ _ _ hne]
  exact h1
theorem MemoSh.keep {P R : Nat → Prop} {g n N : Nat} {w w' : World} (h : MemoSh R g n w) (hf : Filled g 106 N w []) (hk : KeepB P w w') (hp : ¬ P 106) : MemoSh R g n w' := fun i hi => by
  obtain ⟨a, m, c, h1, h2, h3⟩ := h i hi
  exact ⟨a, m, c, (World.cell?_of_block (a := ⟨g, i * 10 + 9, none⟩) ((hk g _ N hf).2 hp)).trans h1, h2, h3.keep hk⟩
theorem MemoWr.keep {P R : Nat → Prop} {a : Option Addr} {n : Nat} {w w' : World} (h : MemoWr R w a n) (hk : KeepB P w w') (hp : ¬ P 106) : MemoWr R w' a n := by
  rcases h with h | ⟨g, N, h1, h2, h3, h4, h5⟩
  · exact .inl h
  · exact .inr ⟨g, N, h1, h2, h3, (hk g _ N h4).1, h5.keep h4 hk hp⟩
theorem MemoSlice.wr {R : Nat → Prop} {g N : Nat} {w : World} {l : List Memo} (h : MemoSlice true R w (some ⟨g, 0, none⟩) l) (hf : Filled g 106 N w []) (hN : l.length * 10 ≤ N) (hm : ∀ x ∈ l, x.frames.length ≤ 1048576) (hR : R g) : MemoWr R w (some ⟨g, 0, none⟩) l.length := by
  refine .inr ⟨g, N, rfl, hR, hN, hf, fun i hi => ?_⟩
  obtain ⟨b, o, x, r, e, hb, hbw, hx, ⟨a, c, rfl, h2, h3⟩, hl, hc⟩ := h.get hi
  simp only [Option.some.injEq, Addr.mk.injEq, and_true] at e
  obtain ⟨rfl, rfl⟩ := e
  have h9 := hc 9 _ rfl
  rw [Nat.zero_add] at h9
  exact ⟨_, _, _, h9, hm x (List.mem_of_getElem? hx.out), h3 rfl⟩

theorem markFrameS_wr (n c : Nat) (a : Option Addr) (R : Nat → Prop) (w : World) (q0 : Int) (hq0 : 0 ≤ q0) (hq1 : q0 ≤ 1000000000000000) (hn : n ≤ 1048576) (h : Wr 161 5 R w a n) :
    Calls Tryd.prog 98 #[.slice a n c, .int .i64 q0] w fun e w' => e = .returned (.int .i64 (q0 + n * 5)) ∧ Mod R w w' ∧ KeepB (fun t => t = 161) w w' :=
  mark_wr h fun g N hh => markFrameS_any n c a g N w q0 hq0 hq1 hn hh

set_option maxRecDepth 100000 in
set_option maxHeartbeats 4000000 in
theorem markMemoS_any (n c : Nat) (a : Option Addr) (R : Nat → Prop) (w : World) (q0 : Int) (hq0 : 1 ≤ q0) (hq1 : q0 ≤ 100000000000000) (hn : n ≤ 1048576) (h : MemoWr R w a n) :
    Calls Tryd.prog 69 #[.slice a n c, .int .i64 q0] w fun e w' => ∃ q : Int, e = .returned (.int .i64 q) ∧ q0 ≤ q ∧ q ≤ q0 + n * 6000000 ∧ Mod R w w' ∧ KeepB (fun t => t = 106 ∨ t = 161) w w' := by
  have H := hid h
  clear h
  go_enter Tryd.func69, Tryd.ntmps69
  go_wp2
  go_loopw [1, 5] (fun z i wr => ∃ (k : Nat) (q : Int), k ≤ n ∧ z = .int .i64 q ∧ q0 ≤ q ∧ q ≤ q0 + k * 6000000 ∧ i = .int .i64 k ∧ Mod R w wr ∧ KeepB (fun t => t = 106 ∨ t = 161) w wr ∧ MemoWr R wr a n) (fun _ i _ => n - (intOf i).toNat)
  case atStart => exact ⟨0, q0, by omega, rfl, by omega, by omega, rfl, Mod.refl _ _, KeepB.refl _ _, H.out⟩
  case round =>
    obtain ⟨k, q, hk, rfl, q1, q2, rfl, hM, hK, hW⟩ := hrel
    by_cases hlt : k < n
    · rcases hW with h | ⟨g, N, rfl, hR, hN, hF, hS⟩
      · omega
      obtain ⟨fa, m, fc, c9, hm, hw⟩ := hS k hlt
      obtain ⟨v0, d0⟩ := hF.cell (off := k * 10) (by omega)
      have z0 := hF.free (k * 10)
      obtain ⟨v1, d1⟩ := hF.cell (off := k * 10 + 1) (by omega)
      have z1 := hF.free (k * 10 + 1)
      obtain ⟨v2, d2⟩ := hF.cell (off := k * 10 + 2) (by omega)
      have z2 := hF.free (k * 10 + 2)
      obtain ⟨v3, d3⟩ := hF.cell (off := k * 10 + 3) (by omega)
      have z3 := hF.free (k * 10 + 3)
      obtain ⟨v4, d4⟩ := hF.cell (off := k * 10 + 4) (by omega)
      have z4 := hF.free (k * 10 + 4)
      obtain ⟨v5, d5⟩ := hF.cell (off := k * 10 + 5) (by omega)
      have z5 := hF.free (k * 10 + 5)
      obtain ⟨v6, d6⟩ := hF.cell (off := k * 10 + 6) (by omega)
      have z6 := hF.free (k * 10 + 6)
      obtain ⟨v7, d7⟩ := hF.cell (off := k * 10 + 7) (by omega)
      have z7 := hF.free (k * 10 + 7)
      obtain ⟨v8, d8⟩ := hF.cell (off := k * 10 + 8) (by omega)
      have z8 := hF.free (k * 10 + 8)
      have z9 := hF.free (k * 10 + 9)
      have hgs := hF.size
      have HK := hid hK
      have HM := hid hM
      clear hK hM
      have HF := hid hF
      have HS := hid hS
      have HW := hid hw
      clear hF hS hw
      go_wp2_with fail
      refine (markFrameS_wr m fc fa R _ _ (by omega) (by omega) hm ?_).mono ?_
      · iterate 9 refine Wr.set ?_ _ _ _ _
        exact HW.out
      rintro e w1 ⟨rfl, hm1, hk1⟩
      have HK1 := hid hk1
      have HM1 := hid hm1
      clear hk1 hm1
      go_wp2
      go_roundw
      case rel =>
        have hm1 := HM1.out
        have hk1 := HK1.out
        refine ⟨k + 1, q + 1 + 1 + 1 + 1 + 1 + 1 + 1 + 1 + 1 + m * 5, by omega, rfl, by omega, by omega, by go_num, ?_, ?_, ?_⟩
        · refine Mod.trans ?_ hm1
          iterate 9 refine Mod.setCell ?_ (fun _ => .inl hR) _
          exact HM.out
        · refine HK.out.trans (KeepB.trans (b := _) ?_ (hk1.mono fun e h => .inr h))
          iterate 9 refine KeepB.set ?_ HF.out (.inl rfl) _ _ _
          exact KeepB.refl _ _
        · refine MemoWr.keep (P := fun t => t = 161) (.inr ⟨g, N, rfl, hR, hN, ?_, ?_⟩) hk1 (by decide)
          · iterate 9 refine Filled.set ?_ _ _ _ _
            exact HF.out
          · iterate 9 refine MemoSh.set ?_ _ _ (by omega)
            exact HS.out
      case measure => simp [intOf]; omega
    · have hk' : k = n := by omega
      subst hk'
      go_wp2
      go_ret
      exact ⟨q, rfl, q1, q2, hM, hK⟩

end Go.Proofs.YtcolkidnjojlmaaDoor
