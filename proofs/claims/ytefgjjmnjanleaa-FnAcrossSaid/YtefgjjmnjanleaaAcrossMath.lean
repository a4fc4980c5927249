/-
  PROVED: the plain law of lines across: stretched lines fill the room, none gets less; lines follow one another; at the end the last ends where the room ends. No program in sight.
-/
import Derived.Test.YtefgjjmnjanleaaPlace2
namespace Go.Proofs.Ytefgjjmnjanleaa
open Go.RowKit

theorem signedL_of {x : Int} (h0 : -1048576 ≤ x) (h1 : x ≤ 1048576) : signedL x = x := by
  unfold signedL brought
  rw [if_neg (by omega), if_neg (by omega)]
theorem evenly_pos {n many : Int} (hn : 0 ≤ n) {k : Nat} {x : Int} (h : (evenly n many)[k]? = some x) : 0 ≤ x := by
  unfold evenly at h
  split at h
  · rename_i hm
    obtain ⟨m, rfl⟩ : ∃ m : Nat, many = m := ⟨many.toNat, by omega⟩
    simp only [Int.toNat_natCast] at h
    unfold shares at h
    rw [if_pos (ones_ok (by omega))] at h
    have hk : k < m := by
      have := (List.getElem?_eq_some_iff.1 h).1
      rw [sharesTo_length, ones_length] at this
      exact this
    have hx1 : (ones m)[k]? = some 1 := by simp [ones, hk]
    have hs : shareOf (signedL n) (ones m) k = x := by
      rw [ones_length] at h
      simpa [sharesTo, hk] using h
    have hpos : 0 < sumTo (ones m) (ones m).length := by rw [ones_length, sum_ones]; omega
    have hnr := (share_near (signedL n) hpos (hid hx1)).1
    rw [hs] at hnr
    have hsg : 0 ≤ signedL n := by unfold signedL brought; split <;> (try split) <;> omega
    have hf : 0 ≤ fdiv (signedL n * 1) (sumTo (ones m) (ones m).length) := by
      unfold fdiv
      split
      · omega
      · exact Int.ediv_nonneg (by omega) (by omega)
    omega
  · simp at h
theorem elemAt_pos {n many : Int} (hn : 0 ≤ n) (i : Int) : 0 ≤ elemAt (evenly n many) i := by
  unfold elemAt
  split
  · omega
  · have hk : i.toNat < (evenly n many).length := by omega
    have := evenly_pos hn (List.getElem?_eq_getElem hk)
    simpa [List.getD, List.getElem?_eq_getElem hk] using this
theorem betweenOf_pos (free many j i : Int) : 0 ≤ betweenOf free many j i := by
  unfold betweenOf
  split
  · omega
  · have h1 := elemAt_pos (n := free) (many := many - 1) (by omega) i
    have h2 := elemAt_pos (n := free) (many := 2 * many) (by omega) (2 * i + 1)
    have h3 := elemAt_pos (n := free) (many := 2 * many) (by omega) (2 * i + 2)
    have h4 := elemAt_pos (n := free) (many := many + 1) (by omega) (i + 1)
    repeat' split
    all_goals omega

theorem sumTo_shares (m : Int) (l : List Int) (k : Nat) (hk : k ≤ l.length) : sumTo (sharesTo m l l.length) k = shareSum m l k := by
  induction k with
  | zero => rw [shareSum_zero]; rfl
  | succ k ih =>
    have hx : (sharesTo m l l.length)[k]? = some (shareOf m l k) := by simp [sharesTo, show k < l.length by omega]
    rw [sumTo_succ (hid hx), ih (by omega), shareSum_succ]
theorem evenly_sum {n : Int} {many : Nat} (h0 : 1 ≤ many) (h1 : many ≤ 64) : sumTo (evenly n many) many = signedL n := by
  rw [evenly_some (by omega) (by omega), Int.toNat_natCast]
  unfold shares
  rw [if_pos (ones_ok h1)]
  have h := sumTo_shares (signedL n) (ones many) many (by rw [ones_length]; omega)
  rw [h]
  have e : many = (ones many).length := (ones_length many).symm
  rw [e, ones_length]
  conv => lhs; rw [show shareSum (signedL n) (ones many) many = shareSum (signedL n) (ones many) (ones many).length by rw [ones_length]]
  exact shareSum_all _ _ (by rw [ones_length, sum_ones]; omega)
theorem totTo_sum {l : List Int} (h : ∀ x ∈ l, 0 ≤ x ∧ x ≤ 1048576) (k : Nat) (hk : k ≤ l.length) : totTo l k = sumTo l k := by
  induction k with
  | zero => rfl
  | succ k ih =>
    have hx := hid (List.getElem?_eq_getElem (l := l) (i := k) (by omega))
    have hb := h l[k] (List.getElem_mem (by omega))
    rw [totTo_succ hx, sumTo_succ hx, ih (by omega), signedL_of (by omega) hb.2]
theorem total_sum {l : List Int} (h : ∀ x ∈ l, 0 ≤ x ∧ x ≤ 1048576) : total l = sumTo l l.length := totTo_sum h _ (Nat.le_refl _)
theorem le_sum {l : List Int} (h : ∀ x ∈ l, 0 ≤ x) : 0 ≤ l.sum ∧ ∀ x ∈ l, x ≤ l.sum := by
  induction l with
  | nil => simp
  | cons y l ih =>
    obtain ⟨h1, h2⟩ := ih fun x hx => h x (by simp [hx])
    have hy := h y (by simp)
    refine ⟨by simp only [List.sum_cons]; omega, fun x hx => ?_⟩
    simp only [List.sum_cons]
    rcases List.mem_cons.1 hx with rfl | hx
    · omega
    · have := h2 x hx; omega

theorem raised_sum (l e : List Int) (he : e.length = l.length) (k : Nat) (hk : k ≤ l.length) : sumTo (raisedTo l e l.length) k = sumTo l k + sumTo e k := by
  induction k with
  | zero => simp [sumTo]
  | succ k ih =>
    have hl := hid (List.getElem?_eq_getElem (l := l) (i := k) (by omega))
    have hE := hid (List.getElem?_eq_getElem (l := e) (i := k) (by omega))
    have hr : Hid ((raisedTo l e l.length)[k]? = some (l[k]'(by omega) + e[k]'(by omega))) := by
      show _ = _
      rw [raisedTo_get _ _ _ _ (by omega), if_pos (by omega), getD_of hl, getD_of hE]
    rw [sumTo_succ hr, sumTo_succ hl, sumTo_succ hE, ih (by omega)]
    omega

/-- Stretched lines: none is less than it was. -/
theorem stretch_ge {l : List Int} {gap inner content : Int} {k : Nat} {x y : Int} (hx : Hid (l[k]? = some x)) (hy : Hid ((stretch l gap inner content)[k]? = some y)) : x ≤ y := by
  have hk := (List.getElem?_eq_some_iff.1 hx.out).1
  by_cases h : acrossOk l gap inner = true ∧ content = 1 ∧ 0 < inner - crossTotal l gap
  · have h2 := hy.out
    have hl12 := (acrossOk_bd h.1).2.1
    rw [stretch_yes h, raisedTo_get _ _ _ _ hk, if_pos hk, getD_of hx] at h2
    simp only [Option.some.injEq] at h2
    have hlen := evenly_len (inner - crossTotal l gap) (l.length : Int) (by omega) (by omega)
    rw [Int.toNat_natCast] at hlen
    have hE := hid (List.getElem?_eq_getElem (l := evenly (inner - crossTotal l gap) (l.length : Int)) (i := k) (by omega))
    have hp := evenly_pos (by omega) hE.out
    rw [getD_of hE] at h2
    omega
  · have h2 := hy.out
    rw [stretch_not h, hx.out] at h2
    simp only [Option.some.injEq] at h2
    omega
/-- Stretched lines fill the room. -/
theorem stretch_fills {l : List Int} {gap inner content : Int} (h : acrossOk l gap inner = true) (h1 : content = 1) (h2 : 0 < inner - crossTotal l gap) (h0 : l.length ≠ 0) : crossTotal (stretch l gap inner content) gap = inner := by
  obtain ⟨hb, hl12, ⟨g0, g1⟩, i0, i1⟩ := acrossOk_bd h
  rw [stretch_yes ⟨h, h1, h2⟩]
  have hgap : 0 ≤ gap * ((l.length : Int) - 1) := Int.mul_nonneg g0 (by omega)
  have hct : crossTotal l gap = sumTo l l.length + gap * ((l.length : Int) - 1) := by unfold crossTotal; rw [if_neg h0, total_sum hb]
  have hs0 : 0 ≤ sumTo l l.length := by
    unfold sumTo
    rw [List.take_length]
    exact (le_sum fun x hx => (hb x hx).1).1
  have hlen := evenly_len (inner - crossTotal l gap) (l.length : Int) (by omega) (by omega)
  rw [Int.toNat_natCast] at hlen
  have hsum := evenly_sum (n := inner - crossTotal l gap) (many := l.length) (by omega) (by omega)
  rw [signedL_of (by omega) (by omega)] at hsum
  have hpos : ∀ (k : Nat) (x : Int), (evenly (inner - crossTotal l gap) (l.length : Int))[k]? = some x → 0 ≤ x := fun k x hx => evenly_pos (by omega) hx
  generalize evenly (inner - crossTotal l gap) (l.length : Int) = E at *
  have hrs := raised_sum l E hlen l.length (Nat.le_refl _)
  rw [hsum] at hrs
  have hr0 : ∀ x ∈ raisedTo l E l.length, 0 ≤ x := by
    intro x hx
    obtain ⟨k, hk, rfl⟩ := List.mem_iff_getElem.1 hx
    rw [raisedTo_length] at hk
    have h3 := raisedTo_get l E l.length k hk
    rw [if_pos hk] at h3
    have h4 := List.getElem?_eq_getElem (l := raisedTo l E l.length) (i := k) (by rw [raisedTo_length]; exact hk)
    rw [h3] at h4
    simp only [Option.some.injEq] at h4
    have h5 := getD_bd hb k
    have hE := hid (List.getElem?_eq_getElem (l := E) (i := k) (by omega))
    have h6 := hpos k _ hE.out
    rw [getD_of hE] at h4
    omega
  obtain ⟨_, hle⟩ := le_sum hr0
  have hsr : (raisedTo l E l.length).sum = sumTo (raisedTo l E l.length) l.length := by unfold sumTo; rw [List.take_of_length_le (by rw [raisedTo_length]; omega)]
  have hrb : ∀ x ∈ raisedTo l E l.length, 0 ≤ x ∧ x ≤ 1048576 := fun x hx => ⟨hr0 x hx, by have := hle x hx; omega⟩
  unfold crossTotal
  rw [if_neg (by rw [raisedTo_length]; exact h0), total_sum hrb, raisedTo_length, hrs]
  omega

/-- At the end: line k begins behind the free room and what goes before. -/
theorem atTo_end {l : List Int} (gap free : Int) (hl : 1 ≤ l.length ∧ l.length ≤ 12) (k : Nat) (hk : k ≤ l.length) : atTo l gap free 2 k = free + sumTo l k + gap * k := by
  have hb : ∀ i, betweenOf free l.length 2 i = 0 := by
    intro i
    unfold betweenOf
    split
    · rfl
    · rw [if_neg (by omega), if_neg (by omega), if_neg (by omega)]
  induction k with
  | zero =>
    have : leadOf free l.length 2 = free := by unfold leadOf; rw [if_neg (by omega), if_pos rfl]
    simp [atTo, this, sumTo]
  | succ k ih =>
    have hx := hid (List.getElem?_eq_getElem (l := l) (i := k) (by omega))
    simp only [atTo]
    rw [ih (by omega), sumTo_succ hx, getD_of hx, hb]
    have : gap * ((k + 1 : Nat) : Int) = gap * k + gap := by rw [Int.natCast_add, Int.mul_add]; simp
    omega
theorem places_end {l : List Int} {gap inner : Int} (h : acrossOk l gap inner = true) (hf : -1048576 ≤ inner - crossTotal l gap) {k : Nat} (hk : k + 1 = l.length) : atTo l gap (signedL (inner - crossTotal l gap)) 2 k + l.getD k 0 = inner := by
  obtain ⟨hb, hl12, ⟨g0, g1⟩, i0, i1⟩ := acrossOk_bd h
  have h0 : l.length ≠ 0 := by omega
  have hct : crossTotal l gap = sumTo l l.length + gap * ((l.length : Int) - 1) := by unfold crossTotal; rw [if_neg h0, total_sum hb]
  have hgap : 0 ≤ gap * ((l.length : Int) - 1) := Int.mul_nonneg g0 (by omega)
  have hs0 : 0 ≤ sumTo l l.length := by
    unfold sumTo
    rw [List.take_length]
    exact (le_sum fun x hx => (hb x hx).1).1
  have hx := hid (List.getElem?_eq_getElem (l := l) (i := k) (by omega))
  rw [signedL_of hf (by omega), atTo_end gap _ ⟨by omega, hl12⟩ k (by omega), getD_of hx]
  have e := sumTo_succ hx
  rw [hk] at e
  have ek : ((l.length : Int) - 1) = k := by omega
  rw [ek] at hct
  omega
theorem places_get {l : List Int} {gap inner content : Int} (h : acrossOk l gap inner = true) {k : Nat} (hk : k < l.length) : (places l gap inner content)[k]? = some (atTo l gap (signedL (inner - crossTotal l gap)) (justOf content) k) := by
  unfold places
  rw [if_pos h]
  simp [placesTo, hk]
theorem places_length {l : List Int} {gap inner content : Int} (h : acrossOk l gap inner = true) : (places l gap inner content).length = l.length := by
  unfold places
  rw [if_pos h, placesTo_length]
theorem places_follow (l : List Int) (gap free j : Int) (k : Nat) : atTo l gap free j k + l.getD k 0 + gap ≤ atTo l gap free j (k + 1) := by
  have := betweenOf_pos free l.length j k
  simp only [atTo]
  omega
theorem stretch1020 : stretch [10, 20] 0 101 1 = [45, 56] := by decide

end Go.Proofs.Ytefgjjmnjanleaa
