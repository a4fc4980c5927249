/-
  PROVED: l15Spaces: the reference hands back the plain spaces between lines, in memory of the call's own. Conditions: bounds on the numbers.
-/
import Derived.Test.YtefgjjmnjanleaaStretch2
namespace Go.Proofs.Ytefgjjmnjanleaa
open Go.RowKit

/-- The first k spaces. -/
def spTo (free : Int) (many : Nat) (justify : Int) (k : Nat) : List Int := (List.range many).map fun i => if i < k then betweenOf free many justify i else 0
def spaces (free : Int) (many : Nat) (justify : Int) : List Int := spTo free many justify (many - 1)
theorem spTo_length (free : Int) (many : Nat) (justify : Int) (k : Nat) : (spTo free many justify k).length = many := by simp [spTo]
theorem spTo_get (free : Int) (many : Nat) (justify : Int) (k i : Nat) (hi : i < many) : (spTo free many justify k)[i]? = some (if i < k then betweenOf free many justify i else 0) := by simp [spTo, hi]
theorem spTo_succ (free : Int) (many : Nat) (justify : Int) (k : Nat) : (spTo free many justify k).set k (betweenOf free many justify k) = spTo free many justify (k + 1) := by
  apply List.ext_getElem?
  intro i
  by_cases hi : i < many
  · rw [spTo_get _ _ _ _ _ hi, List.getElem?_set]
    by_cases e1 : k = i
    · subst e1
      simp [spTo_length, hi]
    · rw [if_neg e1, spTo_get _ _ _ _ _ hi]
      by_cases h2 : i < k
      · rw [if_pos h2, if_pos (by omega)]
      · rw [if_neg h2, if_neg (by omega)]
  · rw [List.getElem?_eq_none (by rw [List.length_set, spTo_length]; omega), List.getElem?_eq_none (by rw [spTo_length]; omega)]
theorem spTo_zero (free : Int) (many : Nat) (justify : Int) : spTo free many justify 0 = List.replicate many 0 := by
  apply List.ext_getElem?
  intro i
  by_cases hi : i < many
  · simp [spTo, hi]
  · rw [List.getElem?_eq_none (by rw [spTo_length]; omega), List.getElem?_eq_none (by simp; omega)]
theorem spTo_none {free : Int} (h : free < 0) (many : Nat) (justify : Int) (k : Nat) : spTo free many justify k = List.replicate many 0 := by
  rw [← spTo_zero free many justify]
  unfold spTo
  apply List.map_congr_left
  intro i _
  have : betweenOf free many justify i = 0 := if_pos h
  simp [this]
theorem spTo_skip {free : Int} {many : Nat} {justify : Int} {k : Nat} (h : betweenOf free many justify k = 0) : spTo free many justify (k + 1) = spTo free many justify k := by
  unfold spTo
  apply List.map_congr_left
  intro i _
  by_cases h1 : i < k
  · rw [if_pos h1, if_pos (by omega)]
  · rw [if_neg h1]
    by_cases h2 : i < k + 1
    · rw [if_pos h2, show i = k by omega, h]
    · rw [if_neg h2]
theorem zeros_cells (n : Nat) : ((List.replicate n (0 : Int)).map icell).flatten = List.replicate n (Value.int .i64 0) := by
  induction n with
  | zero => rfl
  | succ n ih => simp only [List.replicate_succ, List.map_cons, List.flatten_cons, ih]; rfl
theorem made_zeros (n : Nat) : (madeCells #[Value.int .i64 0] n).toList = List.replicate n (Value.int .i64 0) := by
  apply List.ext_getElem?
  intro i
  by_cases hi : i < n
  · simp [madeCells, Nat.mod_one, hi]
  · rw [List.getElem?_eq_none (by simp [madeCells]; omega), List.getElem?_eq_none (by simp; omega)]
theorem ownsRow_full {base e size : Nat} (w : World) (cur : Array Value) (n : Nat) (hb : base ≤ w.heap.size) (hm : n ≤ maxLen) (hs : cur.size = n * size) :
    (w.alloc (.cells cur e)).ownsRow base e size (.slice (some ⟨w.heap.size, 0, none⟩) n n) n cur.toList :=
  ⟨by simpa using hs, .inr ⟨w.heap.size, n, cur, rfl, hb, heap_alloc_new w _, Nat.le_refl _, hm, hs, by rw [List.take_of_length_le (by simp; omega)]⟩⟩

set_option maxRecDepth 100000 in
set_option maxHeartbeats 2000000 in
theorem l15Spaces_any (free : Int) (many : Nat) (justify : Int) (w : World) (f0 : -1048576 ≤ free) (f1 : free ≤ 1048576) (hm : many ≤ 12) :
    Calls Try.prog 107 #[.int .i64 free, .int .i64 many, .int .i64 justify] w (OwnInts w many (spaces free many justify)) := by
  obtain ⟨i0, hi, hz0, hz1, hz2⟩ := info_parts info_int
  have hmk : ∀ W : World, (Instr.makeSlice 37 (.int .i64 (many : Int)) (.int .i64 (many : Int))).run Try.prog W = .ok (.slice (some ⟨W.heap.size, 0, none⟩) many many) (W.alloc (.cells (madeCells #[Value.int .i64 0] many) 3)) := by
    intro W
    have := run_make (P := Try.prog) W 37 3 i0 _ Try.underlying37 hi hz0 .i64 .i64 many many (by omega) (by omega) (by rw [hz2]; omega) (by omega)
    simpa [hz1, Value.cells] using this
  clear hz0 hz1 hz2 hi
  have hO0 : (w.alloc (.cells (madeCells #[Value.int .i64 0] many) 3)).ownsRow w.heap.size 3 1 (.slice (some ⟨w.heap.size, 0, none⟩) many many) many ((List.replicate many (0 : Int)).map icell).flatten := by
    have := ownsRow_full (e := 3) (size := 1) (base := w.heap.size) w (madeCells #[Value.int .i64 0] many) many (Nat.le_refl _) (by unfold maxLen; omega) (by rw [size_madeCells]; omega)
    rwa [made_zeros, ← zeros_cells] at this
  by_cases hf : free < 0
  · rw [show spaces free many justify = List.replicate many 0 from spTo_none hf _ _ _]
    go_enter Try.func107, Try.ntmps107
    go_wp2
    go_ret
    exact ⟨_, _, rfl, hO0, (Mod.refl _ w).alloc _⟩
  · have hf' : 0 ≤ free := by omega
    go_enter Try.func107, Try.ntmps107
    go_wp2
    go_loopw [8] (fun i wr => ∃ k : Nat, (k + 1 ≤ many ∨ k = 0) ∧ i = .int .i64 k ∧ wr.ownsRow w.heap.size 3 1 (.slice (some ⟨w.heap.size, 0, none⟩) many many) many ((spTo free many justify k).map icell).flatten ∧ Mod (fun _ => False) w wr) (fun i _ => many - (intOf i).toNat)
    case atStart => exact ⟨0, .inr rfl, rfl, by rw [spTo_zero]; exact hO0, (Mod.refl _ w).alloc _⟩
    case round =>
      obtain ⟨k, hk, rfl, hO, hM⟩ := hrel
      clear hmk hO0
      by_cases hlt : k + 1 < many
      · have hsz := hM.size
        have hkm : k < many := by omega
        by_cases j4 : justify = 4
        · subst j4
          have hbt : betweenOf free many 4 k = elemAt (evenly free ((many : Int) - 1)) k := by unfold betweenOf; rw [if_neg (by omega), if_pos rfl]
          have Hbt := hid hbt
          clear hbt
          go_wp2_with fail
          refine (sevenly_any free ((many : Int) - 1) wr).mono ?_
          intro e w2 hr
          rw [sevenly_eq] at hr
          obtain ⟨a2, c2, g2, N2, rfl, _, hs2, _, hm2⟩ := NewSlice.use (cells := icell) (sz := 1) hr (fun _ => rfl) (by decide)
          clear hr
          have hel := evenly_len free ((many : Int) - 1) (by omega) (by omega)
          have hE : k < (evenly free ((many : Int) - 1)).length := by omega
          obtain ⟨b', o', y, rfl, hbR, _, hy, hcy⟩ := IntSlice.get hs2 hE
          have Hval : Hid (betweenOf free many 4 k = y) := by
            show _ = _
            rw [Hbt.out, elemAt_some hy]
          have hO2 := own_keep hO hm2 (fun _ _ f => f)
          have hM2 := hM.thenNone hm2
          obtain ⟨hbs, hcl, hfr, hset⟩ := own_at hO2 (by omega)
          have hcx := hcl k (.int .i64 0) (by rw [icells_get, spTo_get _ _ _ _ _ (by omega), if_neg (by omega)]; rfl)
          have hzx := hfr k
          have hset1 := hset k (.int .i64 y) (by rw [icells_length, spTo_length]; omega)
          have hsx := spTo_succ free many 4 k
          rw [Hval.out] at hsx
          rw [← icells_set, hsx] at hset1
          clear hsx
          have Hset := hid hset1
          clear hcl hfr hset hset1 hO
          have hEk : k < (evenly free ((many : Int) - 1)).length := hE
          go_wp2
          go_roundw
          case rel => exact ⟨k + 1, .inl (by omega), by go_num, Hset.out, hM2.setNew (Nat.le_refl _) _ _ _⟩
          case measure => simp [intOf]; omega
        · by_cases j5 : justify = 5
          · subst j5
            have hbt : betweenOf free many 5 k = elemAt (evenly free (2 * (many : Int))) (2 * (k : Int) + 1) + elemAt (evenly free (2 * (many : Int))) (2 * (k : Int) + 2) := by unfold betweenOf; rw [if_neg (by omega), if_neg (by omega), if_pos rfl]
            have Hbt := hid hbt
            clear hbt
            go_wp2_with fail
            refine (sevenly_any free (2 * (many : Int)) wr).mono ?_
            intro e w2 hr
            rw [sevenly_eq] at hr
            obtain ⟨a2, c2, g2, N2, rfl, _, hs2, _, hm2⟩ := NewSlice.use (cells := icell) (sz := 1) hr (fun _ => rfl) (by decide)
            clear hr
            have hel := evenly_len free (2 * (many : Int)) (by omega) (by omega)
            obtain ⟨p, hp⟩ : ∃ p : Nat, p = 2 * k + 1 := ⟨_, rfl⟩
            obtain ⟨r, hr⟩ : ∃ r : Nat, r = 2 * k + 2 := ⟨_, rfl⟩
            have hE1 : p < (evenly free (2 * (many : Int))).length := by omega
            have hE2 : r < (evenly free (2 * (many : Int))).length := by omega
            obtain ⟨b', o', y, rfl, hbR, _, hy, hcy⟩ := IntSlice.get hs2 hE1
            obtain ⟨b2, o2, z, e2, _, _, hz, hcz⟩ := IntSlice.get hs2 hE2
            simp only [Option.some.injEq, Addr.mk.injEq, and_true] at e2
            obtain ⟨rfl, rfl⟩ := e2
            have hy1 : elemAt (evenly free (2 * (many : Int))) (2 * (k : Int) + 1) = y := by have := elemAt_some hy; rw [hp] at this; simpa using this
            have hz1 : elemAt (evenly free (2 * (many : Int))) (2 * (k : Int) + 2) = z := by have := elemAt_some hz; rw [hr] at this; simpa using this
            have u0 : IntKind.i64.wrap (2 * (k : Int)) = 2 * (k : Int) := IntWalk.i64_in _ (by omega)
            have u1 : IntKind.i64.wrap (2 * (k : Int) + 1) = (p : Int) := by rw [IntWalk.i64_in _ (by omega)]; omega
            have u2 : IntKind.i64.wrap (2 * (k : Int) + 2) = (r : Int) := by rw [IntWalk.i64_in _ (by omega)]; omega
            clear hp hr hel
            obtain ⟨y0, y1⟩ := elemAt_bd free (2 * (many : Int)) (2 * (k : Int) + 1)
            obtain ⟨z0, z1⟩ := elemAt_bd free (2 * (many : Int)) (2 * (k : Int) + 2)
            rw [hy1] at y0 y1
            rw [hz1] at z0 z1
            have Hval : Hid (betweenOf free many 5 k = (y + z)) := by
              show _ = _
              rw [Hbt.out, hy1, hz1]
            have hO2 := own_keep hO hm2 (fun _ _ f => f)
            have hM2 := hM.thenNone hm2
            obtain ⟨hbs, hcl, hfr, hset⟩ := own_at hO2 (by omega)
            have hcx := hcl k (.int .i64 0) (by rw [icells_get, spTo_get _ _ _ _ _ (by omega), if_neg (by omega)]; rfl)
            have hzx := hfr k
            have hset1 := hset k (.int .i64 (y + z)) (by rw [icells_length, spTo_length]; omega)
            have hsx := spTo_succ free many 5 k
            rw [Hval.out] at hsx
            rw [← icells_set, hsx] at hset1
            clear hsx
            have Hset := hid hset1
            clear hcl hfr hset hset1 hO
            have v0 : IntKind.i64.wrap (y + z) = y + z := IntWalk.i64_in _ (by omega)
            have p1 := hold hcy
            have p2 := hold hcz
            go_wp2
            refine wp_region_mod_tail 15 (by kernel_rfl) (by kernel_rfl) (by kernel_rfl) ?_
            simp only [List.take_succ_cons, List.take_zero, List.drop_succ_cons, List.drop_zero]
            repeat (first | (refine RM.skip (fun _ => rfl) ?_; (try simp only [Act.put, List.setIfInBounds_toArray, List.set_cons_zero, List.set_cons_succ])) | (refine RM.const (v := ?_) (fun _ => rfl) (fun xq wq hSq => ?_) ?_; rotate_left; (focus (go_simp; (first | done | with_reducible rfl))); (try simp only [Act.put, List.setIfInBounds_toArray, List.set_cons_zero, List.set_cons_succ])) | (refine RM.callc (v := ?_) (f := ?_) (args := ?_) (fun _ => rfl) (fun xq wq hSq => ?_) (fun wq hSq => ?_) ?_; rotate_left 3; (focus (go_simp; (refine ⟨?_, ?_⟩ <;> with_reducible rfl))); (focus (fail)); (try simp only [Act.put, List.setIfInBounds_toArray, List.set_cons_zero, List.set_cons_succ])) | (refine RM.lit (n := ?_) (vals := ?_) (e := ?_) (fun _ => rfl) (fun xq wq hSq => ?_) ?_; rotate_left 3; (focus (go_simp; (first | done | with_reducible rfl | (refine ⟨?_, ?_⟩ <;> with_reducible rfl)))); (try simp only [Act.put, List.setIfInBounds_toArray, List.set_cons_zero, List.set_cons_succ])))
            refine RM.done (fun xq wq hSq hUq => ?_)
            clear p1 p2
            have hcx2 := hSq.keep _ _ hcx
            have hzx2 : wq.frozen? ⟨w.heap.size, k, none⟩ = false := by rw [World.frozen?_of_block (hSq.block _ hbs (fun f => f))]; exact hzx
            have hbs2 : w.heap.size < wq.heap.size := Nat.lt_of_lt_of_le hbs hSq.size
            have hO3 := own_keep hO2 hSq (fun _ _ f => f)
            have hset2 := (own_at hO3 (by omega)).2.2.2 k (.int .i64 (y + z)) (by rw [icells_length, spTo_length]; omega)
            have hsx := spTo_succ free many 5 k
            rw [Hval.out] at hsx
            rw [← icells_set, hsx] at hset2
            have Hset2 := hid hset2
            clear hset2 hO3 hsx
            go_wp2
            go_roundw
            case rel => exact ⟨k + 1, .inl (by omega), by go_num, Hset2.out, (hM2.thenNone hSq).setNew (Nat.le_refl _) _ _ _⟩
            case measure => simp [intOf]; omega
          · by_cases j6 : justify = 6
            · subst j6
              have hbt : betweenOf free many 6 k = elemAt (evenly free ((many : Int) + 1)) ((k : Int) + 1) := by unfold betweenOf; rw [if_neg (by omega), if_neg (by omega), if_neg (by omega), if_pos rfl]
              have Hbt := hid hbt
              clear hbt
              go_wp2_with fail
              refine (sevenly_any free ((many : Int) + 1) wr).mono ?_
              intro e w2 hr
              rw [sevenly_eq] at hr
              obtain ⟨a2, c2, g2, N2, rfl, _, hs2, _, hm2⟩ := NewSlice.use (cells := icell) (sz := 1) hr (fun _ => rfl) (by decide)
              clear hr
              have hel := evenly_len free ((many : Int) + 1) (by omega) (by omega)
              have hE : k + 1 < (evenly free ((many : Int) + 1)).length := by omega
              obtain ⟨b', o', y, rfl, hbR, _, hy, hcy⟩ := IntSlice.get hs2 hE
              have hy1 : elemAt (evenly free ((many : Int) + 1)) ((k : Int) + 1) = y := by have := elemAt_some hy; simpa using this
              have Hval : Hid (betweenOf free many 6 k = y) := by
                show _ = _
                rw [Hbt.out, hy1]
              have hO2 := own_keep hO hm2 (fun _ _ f => f)
              have hM2 := hM.thenNone hm2
              obtain ⟨hbs, hcl, hfr, hset⟩ := own_at hO2 (by omega)
              have hcx := hcl k (.int .i64 0) (by rw [icells_get, spTo_get _ _ _ _ _ (by omega), if_neg (by omega)]; rfl)
              have hzx := hfr k
              have hset1 := hset k (.int .i64 y) (by rw [icells_length, spTo_length]; omega)
              have hsx := spTo_succ free many 6 k
              rw [Hval.out] at hsx
              rw [← icells_set, hsx] at hset1
              clear hsx
              have Hset := hid hset1
              clear hcl hfr hset hset1 hO
              go_wp2
              go_roundw
              case rel => exact ⟨k + 1, .inl (by omega), by go_num, Hset.out, hM2.setNew (Nat.le_refl _) _ _ _⟩
              case measure => simp [intOf]; omega
            · have b4 : (justify == 4) = false := by simpa using j4
              have b5 : (justify == 5) = false := by simpa using j5
              have b6 : (justify == 6) = false := by simpa using j6
              have hbt : betweenOf free many justify k = 0 := by unfold betweenOf; rw [if_neg (by omega), if_neg j4, if_neg j5, if_neg j6]
              have hsk := hid (spTo_skip hbt)
              clear hbt j4 j5 j6
              go_wp2
              go_roundw
              case rel => exact ⟨k + 1, .inl (by omega), by go_num, by rw [hsk.out]; exact hO, hM⟩
              case measure => simp [intOf]; omega
      · have hke : k = many - 1 := by omega
        subst hke
        go_wp2
        go_ret
        exact ⟨_, _, rfl, hO, hM⟩

end Go.Proofs.Ytefgjjmnjanleaa
