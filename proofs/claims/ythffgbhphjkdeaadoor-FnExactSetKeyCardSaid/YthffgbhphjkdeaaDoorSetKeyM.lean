/-
  PROVED: what SetKey gives, in plain words. No condition.
-/
import Derived.Test.YthffgbhphjkdeaaDoorKeyMath
import Derived.Test.YthffgbhphjkdeaaDoorStyleOk2
namespace Go.Proofs.YthffgbhphjkdeaaDoor
open Go.RowKit

/-- The style with the property number i set. -/
def putInt (s : Style) (i : Nat) (n : Int) : Style := if i = 6 then { s with apart := decide (n = 1) } else if i = 7 then { s with hidden := decide (n = 1) } else setInt s i n
def okS (s o : Style) : Style × Bool := if styleOk o then (o, true) else (s, false)
def setKey (s : Style) (k : List UInt8) (v : Val) : Style × Bool :=
  if valOk v then
    match idxOf intTexts k with
    | some i => if decide (v.kind = 1) && (!(decide (i = 6) || decide (i = 7)) || inB v.n 0 1) then okS s (putInt s i v.n) else (s, false)
    | none => match idxOf valueTexts k with
      | some i => okS s (setVal s i v)
      | none => (s, false)
  else (s, false)
theorem apart_idx : idxOf intTexts [97, 112, 97, 114, 116] = some 6 := by kernel_rfl
theorem hidden_idx : idxOf intTexts [104, 105, 100, 100, 101, 110] = some 7 := by kernel_rfl
theorem int_no_val {k : List UInt8} {i : Nat} (h : idxOf intTexts k = some i) : idxOf valueTexts k = none := by
  have hall : ∀ x ∈ intTexts, idxOf valueTexts x = none := by decide +kernel
  exact hall k (List.mem_of_getElem? (idxOf_at h))
section
variable {s : Style} {k : List UInt8} {v : Val} {i : Nat}
theorem setKey_bad (h : valOk v = false) : setKey s k v = (s, false) := by unfold setKey; rw [h]; rfl
theorem setKey_none (h : valOk v = true) (hi : idxOf intTexts k = none) (hv : idxOf valueTexts k = none) : setKey s k v = (s, false) := by unfold setKey; rw [h, if_pos rfl, hi]; simp only; rw [hv]
theorem setKey_val (h : valOk v = true) (hi : idxOf intTexts k = none) (hv : idxOf valueTexts k = some i) : setKey s k v = okS s (setVal s i v) := by unfold setKey; rw [h, if_pos rfl, hi]; simp only; rw [hv]
theorem setKey_kind (h : valOk v = true) (hi : idxOf intTexts k = some i) (hk : ¬ v.kind = 1) : setKey s k v = (s, false) := by unfold setKey; rw [h, if_pos rfl, hi]; simp [hk]
theorem setKey_bit (h : valOk v = true) (hi : idxOf intTexts k = some i) (hi6 : i = 6 ∨ i = 7) (hb : inB v.n 0 1 = false) : setKey s k v = (s, false) := by unfold setKey; rw [h, if_pos rfl, hi]; rcases hi6 with rfl | rfl <;> simp [hb]
theorem setKey_bits (h : valOk v = true) (hi : idxOf intTexts k = some i) (hk : v.kind = 1) (hi6 : i = 6 ∨ i = 7) (hb : inB v.n 0 1 = true) : setKey s k v = okS s (putInt s i v.n) := by unfold setKey; rw [h, if_pos rfl, hi]; rcases hi6 with rfl | rfl <;> simp [hb, hk]
theorem setKey_int (h : valOk v = true) (hi : idxOf intTexts k = some i) (hk : v.kind = 1) (h6 : i ≠ 6) (h7 : i ≠ 7) : setKey s k v = okS s (setInt s i v.n) := by
  unfold setKey
  rw [h, if_pos rfl, hi]
  simp [hk, h6, h7, putInt]
theorem okS_yes {s o : Style} (h : styleOk o = true) : okS s o = (o, true) := by unfold okS; rw [h]; rfl
theorem okS_no {s o : Style} (h : styleOk o = false) : okS s o = (s, false) := by unfold okS; rw [h]; rfl
end
/-- The cells of the newest block, told otherwise. -/
theorem SXl.cells0 {P : Program} {n : Nat} {W : World} {R : Rg W} {L : List Blk} {O : List Own} {E : List Res} {f : List (Nat × Value)} {Q : Exit → Go.Act → World → Prop} {ops : Array Oper} {rest : List Oper} {g T : Nat} {c c' : List Value} (h : c = c') (hh : SXl P n W R ops (⟨g, c', T⟩ :: L) O E f rest Q) : SXl P n W R ops (⟨g, c, T⟩ :: L) O E f rest Q := by subst h; exact hh
end Go.Proofs.YthffgbhphjkdeaaDoor
