/-
  PROVED: contracts of the exact laws' functions at slices of actions: copy, comparison, count. No condition but a bound on the length.
-/
import Derived.Test.YtpmbobopkfacmaaAct
namespace Go.Proofs.Ytpmbobopkfacmaa
open Go.RowKit

theorem info_Act : (Try.prog.info? 60).map (fun i => (i.zero, i.size, i.bytes)) = some (some (.agg #[.int .i64 0, .int .i64 0, .int .i64 0, .int .i64 0, .string ⟨#[]⟩, .int .i64 0, .int .i64 0, .slice none 0 0, .int .i64 0, .int .i64 0, .bool false]), 11, 112) := by kernel_rfl

/-- How much an action holds. -/
def Act.size (x : Act) : Int := x.key.size + x.table.length
def actSum (l : List Act) : Int := (l.map Act.size).sum
theorem actSum_nonneg (l : List Act) : 0 ≤ actSum l := by
  unfold actSum
  induction l with
  | nil => simp
  | cons x l ih => simp only [List.map_cons, List.sum_cons]; have : 0 ≤ x.size := by unfold Act.size; omega
                   omega
theorem actSum_append (l m : List Act) : actSum (l ++ m) = actSum l + actSum m := by simp [actSum, List.sum_append]
theorem actSum_succ {l : List Act} {k : Nat} {x : Act} (h : Hid (l[k]? = some x)) : actSum (l.take (k + 1)) = actSum (l.take k) + x.size := by
  rw [List.take_add_one, h.out, actSum_append]
  simp [actSum]
theorem actSum_le (l : List Act) (k : Nat) : actSum (l.take k) ≤ actSum l := by
  have h := actSum_append (l.take k) (l.drop k)
  rw [List.take_append_drop] at h
  have := actSum_nonneg (l.drop k)
  omega
theorem actSum_mem {l : List Act} {x : Act} (h : x ∈ l) : x.size ≤ actSum l := by
  obtain ⟨a, b, rfl⟩ := List.append_of_mem h
  rw [actSum_append]
  have h1 := actSum_nonneg a
  have h2 : actSum (x :: b) = x.size + actSum b := by simp [actSum]
  have h3 := actSum_nonneg b
  omega

set_option maxRecDepth 100000 in
set_option maxHeartbeats 1000000 in
theorem szActS_any (l : List Act) (a : Option Addr) (c : Nat) (R S : Nat → Prop) (left : Int) (h0 : 0 ≤ left) (h1 : left ≤ 1048576) (hl : l.length ≤ 9223372036854775807) (hx : ∀ x ∈ l, x.table.length ≤ 9223372036854775807 ∧ x.key.size ≤ 9223372036854775807) (w : World) (h : SliceAt (repAct S) 11 R w a l) :
    Calls Try.prog 42 #[.slice a l.length c, .int .i64 left] w (SzPost w left (l.length + actSum l)) := by
  have H := hid h
  have HX := hid hx
  clear h hx
  have hs0 := actSum_nonneg l
  by_cases hb : left < l.length
  · have b1 : left - l.length < 0 := by omega
    have b2 : -9223372036854775808 ≤ left - l.length := by omega
    go_enter Try.func42, Try.ntmps42
    go_wp2
    go_ret
    exact ⟨.inl ⟨by omega, rfl⟩, by (repeat (first | with_reducible exact Mod.refl _ _ | with_reducible refine Mod.drewN ?_ _ | with_reducible refine Mod.drew ?_ | with_reducible refine Mod.alloc ?_ _ | ((with_reducible refine Mod.setNew ?_ ?_ _ _ _); (rotate_left; omega)) | with_reducible refine Mod.setAt ?_ _ _ _ ))⟩
  · have b1 : 0 ≤ left - l.length := by omega
    go_enter Try.func42, Try.ntmps42
    go_wp2
    go_loopw [1, 5] (fun z i wr => ∃ (k : Nat) (q : Int), k ≤ l.length ∧ z = .int .i64 q ∧ Hid (q = left - l.length - actSum (l.take k)) ∧ 0 ≤ q ∧ q ≤ 1048576 ∧ i = .int .i64 k ∧ Mod (fun _ => False) w wr) (fun _ i _ => l.length - (intOf i).toNat)
    case atStart => exact ⟨0, _, by omega, rfl, by show left - (l.length : Int) = _; simp [actSum], b1, by omega, rfl, Mod.refl _ _⟩
    case round =>
      obtain ⟨k, q, hk, rfl, hq, q0, q1, rfl, hM⟩ := hrel
      by_cases hlt : k < l.length
      · obtain ⟨b, o, x, r, rfl, hb, hbw, hx, hr, hrl, hc⟩ := (H.out.mod hM (fun _ _ f => f) (fun _ _ h => h.mod hM (fun _ _ f => f))).get hlt
        obtain ⟨a2, c2, rfl, _⟩ := hr
        have hxl := HX.out x (List.mem_of_getElem? hx.out)
        have c0 := hc 0 _ rfl
        have c1 := hc 1 _ rfl
        have c2 := hc 2 _ rfl
        have c3 := hc 3 _ rfl
        have c4 := hc 4 _ rfl
        have c5 := hc 5 _ rfl
        have c6 := hc 6 _ rfl
        have c7 := hc 7 _ rfl
        have c8 := hc 8 _ rfl
        have c9 := hc 9 _ rfl
        have c10 := hc 10 _ rfl
        simp only [Nat.add_zero] at c0
        clear hc hrl
        go_wp2_with fail
        refine (szAct_any x _ _ _ q0 q1 hxl.1 hxl.2 _).mono ?_
        rintro e w1 ⟨he, hm1⟩
        have e1 := actSum_succ hx
        have e2 := actSum_le l (k + 1)
        rcases he with ⟨h1, rfl⟩ | ⟨h1, rfl⟩
        · have hq' := hq.out
          have hz : left < l.length + actSum l := by unfold Act.size at e1; omega
          clear hq' e1 e2
          go_wp2
          go_ret
          exact ⟨.inl ⟨hz, rfl⟩, hM.thenNone hm1⟩
        · have hz : Hid (q - (x.key.size + x.table.length : Int) = left - l.length - actSum (l.take (k + 1))) := by
            have hq' := hq.out
            show _ = _
            unfold Act.size at e1
            omega
          have hz0 : 0 ≤ q - (x.key.size + x.table.length : Int) := by omega
          clear e1 e2
          go_wp2
          go_roundw
          case rel => exact ⟨k + 1, _, by omega, rfl, hz, hz0, by omega, by go_num, hM.thenNone hm1⟩
          case measure => simp [intOf]; omega
      · have hk' : k = l.length := by omega
        subst hk'
        go_wp2
        go_ret
        have hq' := hq.out
        rw [List.take_length] at hq'
        exact ⟨.inr ⟨by omega, ret_int (by omega)⟩, hM⟩

/-- New actions, each with a table of its own. -/
def NewActs (l : List Act) (w : World) (en : Ending) (w' : World) : Prop :=
  ∃ g, en = .returned (.slice (some ⟨g, 0, none⟩) l.length l.length) ∧ w.heap.size ≤ g ∧ SliceAt (repAct (fun k => w.heap.size ≤ k)) 11 (fun k => w.heap.size ≤ k) w' (some ⟨g, 0, none⟩) l ∧ Mod (fun _ => False) w w'

/-- The rows that stand so far. -/
def ActRows (g : Nat) (l : List Act) (n : Nat) (w : World) (k : Nat) : Prop :=
  ∃ rows : List (List Value), rows.length = k ∧ (∀ r ∈ rows, r.length = 11) ∧ Filled g 60 n w rows.flatten ∧ ∀ (i : Nat) (r : List Value) (x : Act), rows[i]? = some r → l[i]? = some x → repAct (fun j => g < j) w r x

set_option maxRecDepth 100000 in
set_option maxHeartbeats 2000000 in
theorem toActS_any (l : List Act) (a : Option Addr) (c : Nat) (R S : Nat → Prop) (w : World) (hl : l.length ≤ 1048576) (hx : ∀ x ∈ l, x.table.length ≤ 1048576) (h : SliceAt (repAct S) 11 R w a l) :
    Calls Try.prog 44 #[.slice a l.length c] w (NewActs l w) := by
  have H := hid h
  have HX := hid hx
  clear h hx
  obtain ⟨i0, hi, hz0, hz1, hz2⟩ := info_parts info_Act
  have hmk : ∀ W : World, (Instr.makeSlice 73 (.int .i64 (l.length : Int)) (.int .i64 (l.length : Int))).run Try.prog W = .ok (.slice (some ⟨W.heap.size, 0, none⟩) l.length l.length) (W.alloc (.cells (madeCells (Value.cells (.agg #[.int .i64 0, .int .i64 0, .int .i64 0, .int .i64 0, .string ⟨#[]⟩, .int .i64 0, .int .i64 0, .slice none 0 0, .int .i64 0, .int .i64 0, .bool false])) (l.length * 11)) 60)) := by
    intro W
    have := run_make (P := Try.prog) W 73 60 i0 _ Try.underlying73 hi hz0 .i64 .i64 l.length l.length (by omega) (by omega) (by rw [hz2]; omega) (by omega)
    simpa [hz1] using this
  clear hz0 hz1 hz2 hi
  go_enter Try.func44, Try.ntmps44
  go_wp2
  go_loopw [4] (fun i wr => ∃ k : Nat, k ≤ l.length ∧ i = .int .i64 k ∧ ActRows w.heap.size l (l.length * 11) wr k ∧ Mod (fun _ => False) w wr) (fun i _ => l.length - (intOf i).toNat)
  case atStart => exact ⟨0, by omega, rfl, ⟨[], rfl, by simp, Filled.made w _ _ _ (size_madeCells _ _), by simp⟩, (Mod.refl _ w).alloc _⟩
  case round =>
    obtain ⟨k, hk, rfl, ⟨rows, hrl0, hr11, hF, hrep⟩, hM⟩ := hrel
    clear hmk
    by_cases hlt : k < l.length
    · obtain ⟨b, o, x, r, rfl, hb, hbw, hx, hr, hrl, hc⟩ := (H.out.mod hM (fun _ _ f => f) (fun _ _ h => h.mod hM (fun _ _ f => f))).get hlt
      obtain ⟨a2, c2, rfl, hs2⟩ := hr
      have hxl := HX.out x (List.mem_of_getElem? hx.out)
      have c0 := hc 0 _ rfl
      have c1 := hc 1 _ rfl
      have c2 := hc 2 _ rfl
      have c3 := hc 3 _ rfl
      have c4 := hc 4 _ rfl
      have c5 := hc 5 _ rfl
      have c6 := hc 6 _ rfl
      have c7 := hc 7 _ rfl
      have c8 := hc 8 _ rfl
      have c9 := hc 9 _ rfl
      have c10 := hc 10 _ rfl
      simp only [Nat.add_zero] at c0
      have Hr := hid hrep
      have Hr11 := hid hr11
      clear hc hrl hrep hr11
      go_wp2_with fail
      refine (toAct_any x _ _ S _ hxl hs2).mono ?_
      rintro e w1 ⟨g', rfl, hg', hb', hm1⟩
      have hgz := hF.size
      have hF1 := hF.mod hm1 (fun f => f)
      obtain ⟨v0, d0⟩ := hF1.cell (off := k * 11) (by omega)
      have z0 := hF1.free (k * 11)
      obtain ⟨v1, d1⟩ := hF1.cell (off := k * 11 + 1) (by omega)
      have z1 := hF1.free (k * 11 + 1)
      obtain ⟨v2, d2⟩ := hF1.cell (off := k * 11 + 2) (by omega)
      have z2 := hF1.free (k * 11 + 2)
      obtain ⟨v3, d3⟩ := hF1.cell (off := k * 11 + 3) (by omega)
      have z3 := hF1.free (k * 11 + 3)
      obtain ⟨v4, d4⟩ := hF1.cell (off := k * 11 + 4) (by omega)
      have z4 := hF1.free (k * 11 + 4)
      obtain ⟨v5, d5⟩ := hF1.cell (off := k * 11 + 5) (by omega)
      have z5 := hF1.free (k * 11 + 5)
      obtain ⟨v6, d6⟩ := hF1.cell (off := k * 11 + 6) (by omega)
      have z6 := hF1.free (k * 11 + 6)
      obtain ⟨v7, d7⟩ := hF1.cell (off := k * 11 + 7) (by omega)
      have z7 := hF1.free (k * 11 + 7)
      obtain ⟨v8, d8⟩ := hF1.cell (off := k * 11 + 8) (by omega)
      have z8 := hF1.free (k * 11 + 8)
      obtain ⟨v9, d9⟩ := hF1.cell (off := k * 11 + 9) (by omega)
      have z9 := hF1.free (k * 11 + 9)
      obtain ⟨v10, d10⟩ := hF1.cell (off := k * 11 + 10) (by omega)
      have z10 := hF1.free (k * 11 + 10)
      have Hb' := hid hb'
      clear hb'
      go_wp2
      go_roundw
      case rel =>
        have hmg : Mod (fun j => j = w.heap.size) wr w1 := hm1.mono fun _ _ f => f.elim
        refine ⟨k + 1, by omega, by go_num, ?_, ?_⟩
        · refine ⟨rows ++ [[.int .i64 x.kind, .int .i64 x.n, .int .i64 x.kid, .int .i64 x.pl, .string x.key, .int .i64 x.value.kind, .int .i64 x.value.n, .slice (some ⟨g', 0, none⟩) x.table.length x.table.length, .int .i64 x.wide, .int .i64 x.high, .bool x.rtl]], by simp [hrl0], ?_, ?_, ?_⟩
          · intro r hr
            rcases List.mem_append.1 hr with h | h
            · exact Hr11.out r h
            · simp at h; subst h; rfl
          · have hl0 := flatten_length Hr11.out
            rw [hrl0] at hl0
            have e : ∀ s : List (List Value), (s ++ [([Value.int .i64 x.kind, .int .i64 x.n, .int .i64 x.kid, .int .i64 x.pl, .string x.key, .int .i64 x.value.kind, .int .i64 x.value.n, .slice (some ⟨g', 0, none⟩) x.table.length x.table.length, .int .i64 x.wide, .int .i64 x.high, .bool x.rtl] : List Value)]).flatten = s.flatten ++ [.int .i64 x.kind] ++ [.int .i64 x.n] ++ [.int .i64 x.kid] ++ [.int .i64 x.pl] ++ [.string x.key] ++ [.int .i64 x.value.kind] ++ [.int .i64 x.value.n] ++ [.slice (some ⟨g', 0, none⟩) x.table.length x.table.length] ++ [.int .i64 x.wide] ++ [.int .i64 x.high] ++ [.bool x.rtl] := by intro s; simp
            rw [e]
            generalize rows.flatten = s at hF1 hl0
            exact (((((((((((hF1.push (off := k * 11) (by simp [hl0]) (by omega) _).push (off := k * 11 + 1) (by simp [hl0]) (by omega) _).push (off := k * 11 + 2) (by simp [hl0]) (by omega) _).push (off := k * 11 + 3) (by simp [hl0]) (by omega) _).push (off := k * 11 + 4) (by simp [hl0]) (by omega) _).push (off := k * 11 + 5) (by simp [hl0]) (by omega) _).push (off := k * 11 + 6) (by simp [hl0]) (by omega) _).push (off := k * 11 + 7) (by simp [hl0]) (by omega) _).push (off := k * 11 + 8) (by simp [hl0]) (by omega) _).push (off := k * 11 + 9) (by simp [hl0]) (by omega) _).push (off := k * 11 + 10) (by simp [hl0]) (by omega) _)
          · intro i r y hi hy
            by_cases e : i < rows.length
            · rw [List.getElem?_append_left e] at hi
              exact (Hr.out i r y hi hy).mod (S := fun j => j = w.heap.size) (by (repeat (first | with_reducible exact Mod.refl _ _ | with_reducible refine Mod.drewN ?_ _ | with_reducible refine Mod.drew ?_ | with_reducible refine Mod.alloc ?_ _ | ((with_reducible refine Mod.setNew ?_ ?_ _ _ _); (rotate_left; omega)) | with_reducible refine Mod.setAt ?_ _ _ _ | with_reducible exact hmg | with_reducible refine Mod.thenNone ?_ hmg ))) (fun j hj (e : j = w.heap.size) => by omega)
            · rw [List.getElem?_append_right (by omega)] at hi
              have hik : i = k := by
                have := (List.getElem?_eq_some_iff.1 hi).1
                simp at this
                omega
              subst hik
              rw [hrl0, Nat.sub_self] at hi
              simp at hi
              subst hi
              have hxy : y = x := by
                have := hx.out.symm.trans hy
                simpa using this.symm
              subst hxy
              have hs : SliceAt (Flat Rule.cells) 3 (fun j => j = g') w1 (some ⟨g', 0, none⟩) y.table := flat_of_blk Hb'.out (fun _ => rfl)
              have hs' : SliceAt (Flat Rule.cells) 3 (fun j => w.heap.size < j) w1 (some ⟨g', 0, none⟩) y.table := by
                obtain ⟨rs, q1, q2⟩ := hs
                exact ⟨rs, q1.weaken fun j _ (e : j = g') => by show w.heap.size < j; omega, q2⟩
              refine ⟨some ⟨g', 0, none⟩, y.table.length, rfl, hs'.flatMod (S := fun j => j = w.heap.size) ?_ (fun j hj (e : j = w.heap.size) => by omega)⟩
              (repeat (first | with_reducible exact Mod.refl _ _ | with_reducible refine Mod.drewN ?_ _ | with_reducible refine Mod.drew ?_ | with_reducible refine Mod.alloc ?_ _ | ((with_reducible refine Mod.setNew ?_ ?_ _ _ _); (rotate_left; omega)) | with_reducible refine Mod.setAt ?_ _ _ _ ))
        · have hM1 := hM.thenNone hm1
          (repeat (first | with_reducible exact Mod.refl _ _ | with_reducible refine Mod.drewN ?_ _ | with_reducible refine Mod.drew ?_ | with_reducible refine Mod.alloc ?_ _ | ((with_reducible refine Mod.setNew ?_ ?_ _ _ _); (rotate_left; omega)) | with_reducible refine Mod.setAt ?_ _ _ _ | with_reducible exact hM1 | with_reducible refine Mod.thenNone ?_ hM1 ))
      case measure => simp [intOf]; omega
    · have hk' : k = l.length := by omega
      subst hk'
      go_wp2
      go_ret
      have hb := hF.full (by rw [flatten_length hr11, hrl0])
      refine ⟨w.heap.size, rfl, Nat.le_refl _, ⟨rows, rowsAt_of_blk hb hr11 (Nat.le_refl _), hrl0, fun i r x h1 h2 => ?_⟩, hM⟩
      obtain ⟨a', c', q1, rs, q2, q3⟩ := hrep i r x h1 h2
      exact ⟨a', c', q1, rs, q2.weaken fun j _ (hj : w.heap.size < j) => by show w.heap.size ≤ j; omega, q3⟩

end Go.Proofs.Ytpmbobopkfacmaa
