/-
  PROVED: StretchLines: the program's and the reference's hand back the plain list, in memory of the call's own. Conditions: bounds on the numbers.
-/
import Derived.Test.YtefgjjmnjanleaaLead
import Derived.Test.YtefgjjmnjanleaaCopyOwn
namespace Go.Proofs.Ytefgjjmnjanleaa
open Go.RowKit

/-- The first k numbers raised. -/
def raisedTo (l e : List Int) (k : Nat) : List Int := (List.range l.length).map fun i => if i < k then l.getD i 0 + e.getD i 0 else l.getD i 0
theorem raisedTo_length (l e : List Int) (k : Nat) : (raisedTo l e k).length = l.length := by simp [raisedTo]
theorem raisedTo_zero (l e : List Int) : raisedTo l e 0 = l := by
  apply List.ext_getElem?
  intro i
  by_cases hi : i < l.length
  · simp [raisedTo, hi, List.getD]
  · rw [List.getElem?_eq_none (by rw [raisedTo_length]; omega), List.getElem?_eq_none (by omega)]
theorem raisedTo_get (l e : List Int) (k i : Nat) (hi : i < l.length) : (raisedTo l e k)[i]? = some (if i < k then l.getD i 0 + e.getD i 0 else l.getD i 0) := by simp [raisedTo, hi]
theorem raisedTo_succ (l e : List Int) (k : Nat) : (raisedTo l e k).set k (l.getD k 0 + e.getD k 0) = raisedTo l e (k + 1) := by
  apply List.ext_getElem?
  intro i
  by_cases hi : i < l.length
  · rw [raisedTo_get _ _ _ _ hi, List.getElem?_set]
    by_cases e1 : k = i
    · subst e1
      simp [raisedTo_length, hi]
    · rw [if_neg e1, raisedTo_get _ _ _ _ hi]
      by_cases h2 : i < k
      · rw [if_pos h2, if_pos (by omega)]
      · rw [if_neg h2, if_neg (by omega)]
  · rw [List.getElem?_eq_none (by rw [List.length_set, raisedTo_length]; omega), List.getElem?_eq_none (by rw [raisedTo_length]; omega)]
theorem icells_get (l : List Int) (i : Nat) : ((l.map icell).flatten)[i]? = (l[i]?).map (Value.int .i64) := by
  have e : (l.map icell).flatten = l.map (Value.int .i64) := by
    induction l with
    | nil => rfl
    | cons x l ih => simp only [List.map_cons, List.flatten_cons, ih]; rfl
  rw [e, List.getElem?_map]
theorem icells_set (l : List Int) (i : Nat) (x : Int) : ((l.set i x).map icell).flatten = ((l.map icell).flatten).set i (.int .i64 x) := by
  have e : ∀ l : List Int, (l.map icell).flatten = l.map (Value.int .i64) := by
    intro l
    induction l with
    | nil => rfl
    | cons x l ih => simp only [List.map_cons, List.flatten_cons, ih]; rfl
  rw [e, e, List.map_set]

def stretch (l : List Int) (gap inner content : Int) : List Int :=
  if acrossOk l gap inner = true ∧ content = 1 ∧ 0 < inner - crossTotal l gap then raisedTo l (evenly (inner - crossTotal l gap) l.length) l.length else l
theorem stretch_length (l : List Int) (gap inner content : Int) : (stretch l gap inner content).length = l.length := by
  unfold stretch
  split
  · exact raisedTo_length _ _ _
  · rfl
theorem acrossOk_bd {l : List Int} {gap inner : Int} (h : acrossOk l gap inner = true) : (∀ x ∈ l, 0 ≤ x ∧ x ≤ 1048576) ∧ l.length ≤ 12 ∧ (0 ≤ gap ∧ gap ≤ 1048576) ∧ (0 ≤ inner ∧ inner ≤ 1048576) := by
  unfold acrossOk at h
  simp only [Bool.and_eq_true, List.all_eq_true, decide_eq_true_eq, inB] at h
  exact ⟨h.1, h.2.1.1, h.2.1.2, h.2.2⟩
theorem crossTotal_bd (l : List Int) (gap : Int) (hl : l.length ≤ 1000) (g0 : -1048576 ≤ gap) (g1 : gap ≤ 1048576) : -3000000000 ≤ crossTotal l gap ∧ crossTotal l gap ≤ 3000000000 := by
  unfold crossTotal
  split
  · omega
  · obtain ⟨p0, p1⟩ := gap_bd (n := l.length) g0 g1 hl (by omega)
    obtain ⟨t0, t1⟩ := totTo_bd l l.length
    have T : totTo l l.length = total l := rfl
    rw [T] at t0 t1
    omega

/-- A copy of numbers that is the call's own. -/
def OwnCopy (w : World) (l : List Int) (e : Ending) (w' : World) : Prop :=
  ∃ (a : Option Addr) (c : Nat), e = .returned (.slice a l.length c) ∧ w'.ownsRow w.heap.size 3 1 (.slice a l.length c) l.length (l.map icell).flatten ∧ Mod (fun _ => False) w w'

theorem copyInts_any (l : List Int) (a : Option Addr) (c : Nat) (R : Nat → Prop) (w : World) (hl : l.length ≤ 1048576) (h : IntSlice R w a l) :
    Calls Try.prog 93 #[.slice a l.length c] w (OwnCopy w l) := by
  have H := hid h
  clear h
  obtain ⟨i0, hi, hz0, hz1, hz2⟩ := info_parts info_int
  have Hi := hid hi
  have Hz0 := hid hz0
  have Hz1 := hid hz1
  have Hz2 := hid hz2
  clear hi hz0 hz1 hz2
  go_enter Try.func93, Try.ntmps93
  go_wp2_with (first | (at_builtin; refine wpList_copy_own (cells := icell) (B := w.heap.size) rfl _ _ ⟨Try.underlying37, Hi.out, Hz0.out, Hz1.out, Hz2.out, by decide⟩ rfl (fun _ => rfl) (fun x u hu => by simp [icell] at hu; subst hu; rfl) rfl rfl (.inl rfl) (World.ownsRow_nil _ _ _ _) (Nat.le_refl _) rfl H.out (by unfold maxLen; omega) (by omega) ?_))
  intro a' c' w' hO hm
  go_wp2
  go_ret
  exact ⟨a', c', rfl, hO, hm⟩

end Go.Proofs.Ytefgjjmnjanleaa
