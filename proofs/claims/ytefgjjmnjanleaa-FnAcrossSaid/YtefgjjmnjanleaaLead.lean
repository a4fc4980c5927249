/-
  PROVED: LeadOf, betweenOf: the program's and the reference's give the plain function. Conditions: bounds on the numbers.
-/
import Derived.Test.YtefgjjmnjanleaaAcross
import Derived.Test.YtefgjjmnjanleaaEvenNear
namespace Go.Proofs.Ytefgjjmnjanleaa
open Go.RowKit

theorem elemAt_bd (n many i : Int) : -1048577 ≤ elemAt (evenly n many) i ∧ elemAt (evenly n many) i ≤ 1048577 := by
  obtain ⟨q, q0, q1, hq⟩ := evenly_near n many
  unfold elemAt
  split
  · omega
  · rename_i h
    have hk : i.toNat < (evenly n many).length := by omega
    have := hq i.toNat _ (List.getElem?_eq_getElem hk)
    simp only [List.getD, List.getElem?_eq_getElem hk, Option.getD_some]
    omega

def leadOf (free many justify : Int) : Int :=
  if ¬ (1 ≤ many ∧ many ≤ 12) then 0 else if justify = 2 then free else if justify = 3 ∨ free < 0 ∧ (justify = 5 ∨ justify = 6) then fdiv free 2 else if justify = 5 then elemAt (evenly free (2 * many)) 0 else if justify = 6 then elemAt (evenly free (many + 1)) 0 else 0
def betweenOf (free many justify i : Int) : Int :=
  if free < 0 then 0 else if justify = 4 then elemAt (evenly free (many - 1)) i else if justify = 5 then elemAt (evenly free (2 * many)) (2 * i + 1) + elemAt (evenly free (2 * many)) (2 * i + 2) else if justify = 6 then elemAt (evenly free (many + 1)) (i + 1) else 0

set_option maxRecDepth 100000 in
set_option maxHeartbeats 1000000 in
theorem leadOf_any (free many justify : Int) (w : World) (f0 : -1048576 ≤ free) (f1 : free ≤ 1048576) :
    Calls Try.prog 103 #[.int .i64 free, .int .i64 many, .int .i64 justify] w fun e w' => e = .returned (.int .i64 (leadOf free many justify)) ∧ Mod (fun _ => False) w w' := by
  by_cases hin : 1 ≤ many ∧ many ≤ 12
  · obtain ⟨m0, m1⟩ := hin
    have hi : inB many 1 12 = true := inB_true m0 m1
    by_cases j2 : justify = 2
    · subst j2
      have e : leadOf free many 2 = free := by unfold leadOf; rw [if_neg (by omega), if_pos rfl]
      rw [e]
      go_enter Try.func103, Try.ntmps103
      go_wp2_with (first | (go_at_call 75; refine (in_any _ _ _ _).mono ?_; rintro e w' ⟨rfl, rfl⟩))
      go_ret
      exact ⟨rfl, Mod.refl _ _⟩
    · by_cases j3 : justify = 3
      · subst j3
        have e : leadOf free many 3 = fdiv free 2 := by unfold leadOf; rw [if_neg (by omega), if_neg (by omega), if_pos (by omega)]
        rw [e]
        go_enter Try.func103, Try.ntmps103
        go_wp2_with (first | (go_at_call 75; refine (in_any _ _ _ _).mono ?_; rintro e w' ⟨rfl, rfl⟩) | (go_at_call 118; refine (fdiv_any _ _ (by omega) (by omega) (by omega) _).mono ?_; rintro e w' ⟨rfl, rfl⟩))
        go_ret
        exact ⟨rfl, Mod.refl _ _⟩
      · by_cases j5 : justify = 5
        · by_cases hf : free < 0
          · subst j5
            have e : leadOf free many 5 = fdiv free 2 := by unfold leadOf; rw [if_neg (by omega), if_neg (by omega), if_pos (by omega)]
            rw [e]
            go_enter Try.func103, Try.ntmps103
            go_wp2_with (first | (go_at_call 75; refine (in_any _ _ _ _).mono ?_; rintro e w' ⟨rfl, rfl⟩) | (go_at_call 118; refine (fdiv_any _ _ (by omega) (by omega) (by omega) _).mono ?_; rintro e w' ⟨rfl, rfl⟩))
            go_ret
            exact ⟨rfl, Mod.refl _ _⟩
          · subst j5
            have e : leadOf free many 5 = elemAt (evenly free (2 * many)) 0 := by unfold leadOf; rw [if_neg (by omega), if_neg (by omega), if_neg (by omega), if_pos rfl]
            rw [e]
            have hf' : 0 ≤ free := by omega
            clear e
            go_enter Try.func103, Try.ntmps103
            go_wp2_with (first | (go_at_call 75; refine (in_any _ _ _ _).mono ?_; rintro e w' ⟨rfl, rfl⟩))
            refine (evenly_any free (2 * many) w).mono ?_
            intro e w2 hr
            obtain ⟨a2, c2, g2, N2, rfl, _, hs2, _, hm2⟩ := NewSlice.use (cells := icell) (sz := 1) hr (fun _ => rfl) (by decide)
            clear hr
            have hel := evenly_len free (2 * many) (by omega) (by omega)
            have hel2 : 0 < (evenly free (2 * many)).length := by omega
            obtain ⟨b, o, x, rfl, _, _, hx, hc⟩ := IntSlice.get hs2 hel2
            have hx2 : elemAt (evenly free (2 * many)) 0 = x := elemAt_some hx
            simp only [Nat.add_zero] at hc
            clear hs2 hel
            go_wp2
            go_ret
            exact ⟨ret_int hx2.symm, hm2⟩
        · by_cases j6 : justify = 6
          · by_cases hf : free < 0
            · subst j6
              have e : leadOf free many 6 = fdiv free 2 := by unfold leadOf; rw [if_neg (by omega), if_neg (by omega), if_pos (by omega)]
              rw [e]
              go_enter Try.func103, Try.ntmps103
              go_wp2_with (first | (go_at_call 75; refine (in_any _ _ _ _).mono ?_; rintro e w' ⟨rfl, rfl⟩) | (go_at_call 118; refine (fdiv_any _ _ (by omega) (by omega) (by omega) _).mono ?_; rintro e w' ⟨rfl, rfl⟩))
              go_ret
              exact ⟨rfl, Mod.refl _ _⟩
            · subst j6
              have e : leadOf free many 6 = elemAt (evenly free (many + 1)) 0 := by unfold leadOf; rw [if_neg (by omega), if_neg (by omega), if_neg (by omega), if_neg (by omega), if_pos rfl]
              rw [e]
              have hf' : 0 ≤ free := by omega
              clear e
              go_enter Try.func103, Try.ntmps103
              go_wp2_with (first | (go_at_call 75; refine (in_any _ _ _ _).mono ?_; rintro e w' ⟨rfl, rfl⟩))
              refine (evenly_any free (many + 1) w).mono ?_
              intro e w2 hr
              obtain ⟨a2, c2, g2, N2, rfl, _, hs2, _, hm2⟩ := NewSlice.use (cells := icell) (sz := 1) hr (fun _ => rfl) (by decide)
              clear hr
              have hel := evenly_len free (many + 1) (by omega) (by omega)
              have hel2 : 0 < (evenly free (many + 1)).length := by omega
              obtain ⟨b, o, x, rfl, _, _, hx, hc⟩ := IntSlice.get hs2 hel2
              have hx2 : elemAt (evenly free (many + 1)) 0 = x := elemAt_some hx
              simp only [Nat.add_zero] at hc
              clear hs2 hel
              go_wp2
              go_ret
              exact ⟨ret_int hx2.symm, hm2⟩
          · have b2 : (justify == 2) = false := by simpa using j2
            have b3 : (justify == 3) = false := by simpa using j3
            have b5 : (justify == 5) = false := by simpa using j5
            have b6 : (justify == 6) = false := by simpa using j6
            have e : leadOf free many justify = 0 := by unfold leadOf; rw [if_neg (by omega), if_neg j2, if_neg (by omega), if_neg j5, if_neg j6]
            rw [e]
            clear e j2 j3 j5 j6
            by_cases hf : free < 0
            all_goals
              go_enter Try.func103, Try.ntmps103
              go_wp2_with (first | (go_at_call 75; refine (in_any _ _ _ _).mono ?_; rintro e w' ⟨rfl, rfl⟩))
              go_ret
              exact ⟨rfl, Mod.refl _ _⟩
  · have hi : inB many 1 12 = false := by unfold inB; exact decide_eq_false hin
    have e : leadOf free many justify = 0 := by unfold leadOf; rw [if_pos hin]
    rw [e]
    clear e hin
    go_enter Try.func103, Try.ntmps103
    go_wp2_with (first | (go_at_call 75; refine (in_any _ _ _ _).mono ?_; rintro e w' ⟨rfl, rfl⟩))
    go_ret
    exact ⟨rfl, Mod.refl _ _⟩

set_option maxRecDepth 100000 in
set_option maxHeartbeats 1000000 in
theorem sleadOf_any (free many justify : Int) (w : World) (f0 : -1048576 ≤ free) (f1 : free ≤ 1048576) :
    Calls Try.prog 105 #[.int .i64 free, .int .i64 many, .int .i64 justify] w fun e w' => e = .returned (.int .i64 (leadOf free many justify)) ∧ Mod (fun _ => False) w w' := by
  by_cases hin : 1 ≤ many ∧ many ≤ 12
  · obtain ⟨m0, m1⟩ := hin
    have hi : inB many 1 12 = true := inB_true m0 m1
    by_cases j2 : justify = 2
    · subst j2
      have e : leadOf free many 2 = free := by unfold leadOf; rw [if_neg (by omega), if_pos rfl]
      rw [e]
      go_enter Try.func105, Try.ntmps105
      go_wp2_with (first | (go_at_call 76; refine (l01In_any _ _ _ _).mono ?_; rintro e w' ⟨rfl, rfl⟩))
      go_ret
      exact ⟨rfl, Mod.refl _ _⟩
    · by_cases j3 : justify = 3
      · subst j3
        have e : leadOf free many 3 = fdiv free 2 := by unfold leadOf; rw [if_neg (by omega), if_neg (by omega), if_pos (by omega)]
        rw [e]
        go_enter Try.func105, Try.ntmps105
        go_wp2_with (first | (go_at_call 76; refine (l01In_any _ _ _ _).mono ?_; rintro e w' ⟨rfl, rfl⟩) | (go_at_call 120; refine (sfdiv_any _ _ (by omega) (by omega) (by omega) _).mono ?_; rintro e w' ⟨rfl, rfl⟩))
        go_ret
        exact ⟨rfl, Mod.refl _ _⟩
      · by_cases j5 : justify = 5
        · by_cases hf : free < 0
          · subst j5
            have e : leadOf free many 5 = fdiv free 2 := by unfold leadOf; rw [if_neg (by omega), if_neg (by omega), if_pos (by omega)]
            rw [e]
            go_enter Try.func105, Try.ntmps105
            go_wp2_with (first | (go_at_call 76; refine (l01In_any _ _ _ _).mono ?_; rintro e w' ⟨rfl, rfl⟩) | (go_at_call 120; refine (sfdiv_any _ _ (by omega) (by omega) (by omega) _).mono ?_; rintro e w' ⟨rfl, rfl⟩))
            go_ret
            exact ⟨rfl, Mod.refl _ _⟩
          · subst j5
            have e : leadOf free many 5 = elemAt (evenly free (2 * many)) 0 := by unfold leadOf; rw [if_neg (by omega), if_neg (by omega), if_neg (by omega), if_pos rfl]
            rw [e]
            have hf' : 0 ≤ free := by omega
            clear e
            go_enter Try.func105, Try.ntmps105
            go_wp2_with (first | (go_at_call 76; refine (l01In_any _ _ _ _).mono ?_; rintro e w' ⟨rfl, rfl⟩))
            refine (sevenly_any free (2 * many) w).mono ?_
            intro e w2 hr
            rw [sevenly_eq] at hr
            obtain ⟨a2, c2, g2, N2, rfl, _, hs2, _, hm2⟩ := NewSlice.use (cells := icell) (sz := 1) hr (fun _ => rfl) (by decide)
            clear hr
            have hel := evenly_length free (2 * many)
            go_wp2_with fail
            refine (l15First_any _ _ _ _ _ (by omega) hs2).mono ?_
            rintro e w3 ⟨rfl, rfl⟩
            go_wp2
            go_ret
            exact ⟨rfl, hm2⟩
        · by_cases j6 : justify = 6
          · by_cases hf : free < 0
            · subst j6
              have e : leadOf free many 6 = fdiv free 2 := by unfold leadOf; rw [if_neg (by omega), if_neg (by omega), if_pos (by omega)]
              rw [e]
              go_enter Try.func105, Try.ntmps105
              go_wp2_with (first | (go_at_call 76; refine (l01In_any _ _ _ _).mono ?_; rintro e w' ⟨rfl, rfl⟩) | (go_at_call 120; refine (sfdiv_any _ _ (by omega) (by omega) (by omega) _).mono ?_; rintro e w' ⟨rfl, rfl⟩))
              go_ret
              exact ⟨rfl, Mod.refl _ _⟩
            · subst j6
              have e : leadOf free many 6 = elemAt (evenly free (many + 1)) 0 := by unfold leadOf; rw [if_neg (by omega), if_neg (by omega), if_neg (by omega), if_neg (by omega), if_pos rfl]
              rw [e]
              have hf' : 0 ≤ free := by omega
              clear e
              go_enter Try.func105, Try.ntmps105
              go_wp2_with (first | (go_at_call 76; refine (l01In_any _ _ _ _).mono ?_; rintro e w' ⟨rfl, rfl⟩))
              refine (sevenly_any free (many + 1) w).mono ?_
              intro e w2 hr
              rw [sevenly_eq] at hr
              obtain ⟨a2, c2, g2, N2, rfl, _, hs2, _, hm2⟩ := NewSlice.use (cells := icell) (sz := 1) hr (fun _ => rfl) (by decide)
              clear hr
              have hel := evenly_length free (many + 1)
              go_wp2_with fail
              refine (l15First_any _ _ _ _ _ (by omega) hs2).mono ?_
              rintro e w3 ⟨rfl, rfl⟩
              go_wp2
              go_ret
              exact ⟨rfl, hm2⟩
          · have b2 : (justify == 2) = false := by simpa using j2
            have b3 : (justify == 3) = false := by simpa using j3
            have b5 : (justify == 5) = false := by simpa using j5
            have b6 : (justify == 6) = false := by simpa using j6
            have e : leadOf free many justify = 0 := by unfold leadOf; rw [if_neg (by omega), if_neg j2, if_neg (by omega), if_neg j5, if_neg j6]
            rw [e]
            clear e j2 j3 j5 j6
            by_cases hf : free < 0
            all_goals
              go_enter Try.func105, Try.ntmps105
              go_wp2_with (first | (go_at_call 76; refine (l01In_any _ _ _ _).mono ?_; rintro e w' ⟨rfl, rfl⟩))
              go_ret
              exact ⟨rfl, Mod.refl _ _⟩
  · have hi : inB many 1 12 = false := by unfold inB; exact decide_eq_false hin
    have e : leadOf free many justify = 0 := by unfold leadOf; rw [if_pos hin]
    rw [e]
    clear e hin
    go_enter Try.func105, Try.ntmps105
    go_wp2_with (first | (go_at_call 76; refine (l01In_any _ _ _ _).mono ?_; rintro e w' ⟨rfl, rfl⟩))
    go_ret
    exact ⟨rfl, Mod.refl _ _⟩

set_option maxRecDepth 100000 in
set_option maxHeartbeats 1000000 in
theorem betweenOf_any (free many justify i : Int) (w : World) (f0 : -1048576 ≤ free) (f1 : free ≤ 1048576) (m0 : 0 ≤ many) (m1 : many ≤ 1000) (i0 : 0 ≤ i) (i1 : i ≤ 1000) :
    Calls Try.prog 104 #[.int .i64 free, .int .i64 many, .int .i64 justify, .int .i64 i] w fun e w' => e = .returned (.int .i64 (betweenOf free many justify i)) ∧ Mod (fun _ => False) w w' := by
  by_cases hf : free < 0
  · have e : betweenOf free many justify i = 0 := by unfold betweenOf; rw [if_pos hf]
    rw [e]
    clear e
    go_enter Try.func104, Try.ntmps104
    go_wp2
    go_ret
    exact ⟨rfl, Mod.refl _ _⟩
  · have hf' : 0 ≤ free := by omega
    by_cases j4 : justify = 4
    · subst j4
      have e : betweenOf free many 4 i = elemAt (evenly free (many - 1)) i := by unfold betweenOf; rw [if_neg hf, if_pos rfl]
      rw [e]
      clear e hf
      go_enter Try.func104, Try.ntmps104
      go_wp2_with fail
      refine (evenly_any free (many - 1) w).mono ?_
      intro e w2 hr
      obtain ⟨a2, c2, g2, N2, rfl, _, hs2, _, hm2⟩ := NewSlice.use (cells := icell) (sz := 1) hr (fun _ => rfl) (by decide)
      clear hr
      have hel := evenly_length free (many - 1)
      go_wp2_with (first | (go_at_call 125; refine (elementAt_any _ _ _ _ _ _ (by omega) hs2).mono ?_; rintro e w' ⟨rfl, rfl⟩))
      go_ret
      exact ⟨rfl, hm2⟩
    · have b4 : (justify == 4) = false := by simpa using j4
      by_cases j5 : justify = 5
      · subst j5
        have e : betweenOf free many 5 i = elemAt (evenly free (2 * many)) (2 * i + 1) + elemAt (evenly free (2 * many)) (2 * i + 2) := by unfold betweenOf; rw [if_neg hf, if_neg j4, if_pos rfl]
        rw [e]
        clear e hf
        go_enter Try.func104, Try.ntmps104
        go_wp2_with fail
        refine (evenly_any free (2 * many) w).mono ?_
        intro e w2 hr
        obtain ⟨a2, c2, g2, N2, rfl, _, hs2, _, hm2⟩ := NewSlice.use (cells := icell) (sz := 1) hr (fun _ => rfl) (by decide)
        clear hr
        have hel := evenly_length free (2 * many)
        obtain ⟨p0, p1⟩ := elemAt_bd free (2 * many) (2 * i + 1)
        obtain ⟨p2, p3⟩ := elemAt_bd free (2 * many) (2 * i + 2)
        go_wp2_with (first | (go_at_call 125; refine (elementAt_any _ _ _ _ _ _ (by omega) hs2).mono ?_; rintro e w' ⟨rfl, rfl⟩))
        go_ret
        exact ⟨rfl, hm2⟩
      · have b5 : (justify == 5) = false := by simpa using j5
        by_cases j6 : justify = 6
        · subst j6
          have e : betweenOf free many 6 i = elemAt (evenly free (many + 1)) (i + 1) := by unfold betweenOf; rw [if_neg hf, if_neg j4, if_neg j5, if_pos rfl]
          rw [e]
          clear e hf
          go_enter Try.func104, Try.ntmps104
          go_wp2_with fail
          refine (evenly_any free (many + 1) w).mono ?_
          intro e w2 hr
          obtain ⟨a2, c2, g2, N2, rfl, _, hs2, _, hm2⟩ := NewSlice.use (cells := icell) (sz := 1) hr (fun _ => rfl) (by decide)
          clear hr
          have hel := evenly_length free (many + 1)
          go_wp2_with (first | (go_at_call 125; refine (elementAt_any _ _ _ _ _ _ (by omega) hs2).mono ?_; rintro e w' ⟨rfl, rfl⟩))
          go_ret
          exact ⟨rfl, hm2⟩
        · have b6 : (justify == 6) = false := by simpa using j6
          have e : betweenOf free many justify i = 0 := by unfold betweenOf; rw [if_neg hf, if_neg j4, if_neg j5, if_neg j6]
          rw [e]
          clear e hf j4 j5 j6
          go_enter Try.func104, Try.ntmps104
          go_wp2
          go_ret
          exact ⟨rfl, Mod.refl _ _⟩

end Go.Proofs.Ytefgjjmnjanleaa
