/-
  PROVED: what the form's reading of an argument says of its cells: numbers, bools, strings, structs, slices of whatever rows. For any program.
-/
import Derived.Test.YthffgbhphjkdeaaDoorRep
import Derived.ProofKit
namespace Go.Proofs.YthffgbhphjkdeaaDoor
open Go.RowKit

/-- The cells cs read as a datum of type t. -/
def Rd (P : Program) (w : World) (t : TypeId) (cs : List Value) : Prop :=
  ∃ (H : Type) (enc : TypeId × Value → H) (fuel : Nat) (x : DataW H × List MemPlace), DataW.trod enc P w 0 (fun _ => true) true fuel t cs = some x

section
variable {P : Program} {w : World} {t e : TypeId} {cs : List Value}
theorem Rd.int {k : IntKind} (h : Rd P w t cs) (hu : P.underlying t = some (.int k)) : ∃ n, cs = [.int k n] ∧ (Lit.int k n).wf = true := by
  obtain ⟨H, enc, fuel, x, h⟩ := h
  obtain ⟨n, h1, _, h2⟩ := DataW.trod_int hu h
  exact ⟨n, h1, h2⟩
theorem Rd.bool (h : Rd P w t cs) (hu : P.underlying t = some .bool) : ∃ b, cs = [.bool b] := by
  obtain ⟨H, enc, fuel, x, h⟩ := h
  obtain ⟨n, h1, _⟩ := DataW.trod_bool hu h
  exact ⟨n, h1⟩
theorem Rd.string (h : Rd P w t cs) (hu : P.underlying t = some .string) : ∃ s : ByteArray, cs = [.string s] ∧ s.size ≤ maxLen := by
  obtain ⟨H, enc, fuel, x, h⟩ := h
  obtain ⟨n, h1, _, h2⟩ := DataW.trod_string hu h
  exact ⟨n, h1, h2⟩
theorem Rd.struct {fs : Array Field} (h : Rd P w t cs) (hu : P.underlying t = some (.struct fs)) :
    cs.length = P.cellsOf t ∧ ∀ (i : Nat) (f : Field), fs[i]? = some f → Rd P w f.type ((cs.drop f.offset).take (P.cellsOf f.type)) := by
  obtain ⟨H, enc, fuel, x, h⟩ := h
  obtain ⟨xs, n, _, _, hl, hxl, hf⟩ := DataW.trod_struct hu h
  refine ⟨hl, fun i f hi => ?_⟩
  have h1 := hf i f hi
  have hil : i < xs.length := by rw [hxl]; exact (Array.getElem?_eq_some_iff.1 hi).1
  rw [List.getElem?_eq_getElem hil] at h1
  exact ⟨H, enc, n, _, h1⟩
theorem Rd.slice (h : Rd P w t cs) (hu : P.underlying t = some (.slice e)) (hc : 0 < P.cellsOf e) :
    ∃ (a : Option Addr) (len cap : Nat), cs = [.slice a len cap] ∧ len ≤ cap ∧ cap ≤ maxLen ∧
      (len = 0 ∨ ∃ b o, a = some ⟨b, o, none⟩ ∧ b < w.heap.size ∧ ∀ i, i < len → ∃ cs', (cs'.length = P.cellsOf e ∧ ∀ (j : Nat) (v : Value), cs'[j]? = some v → w.cell? ⟨b, o + i * P.cellsOf e + j, none⟩ = some v) ∧ Rd P w e cs') := by
  obtain ⟨H, enc, fuel, x, h⟩ := h
  rcases DataW.trod_slice hu h with ⟨h1, _⟩ | ⟨a, len, cap, elems, rest, n, _, h1, _, _, hl, hm, hlen, hel, _⟩
  · exact ⟨_, _, _, h1, Nat.le_refl _, Nat.zero_le _, .inl rfl⟩
  · refine ⟨some a, len, cap, h1, hl, hm, ?_⟩
    by_cases h0 : len = 0
    · exact .inl h0
    · have rows : ∀ i, i < len → ∃ cs', (cs'.length = P.cellsOf e ∧ ∀ (j : Nat), j < P.cellsOf e → w.cell? ((a.add (i * P.cellsOf e)).add j) = cs'[j]?) ∧ Rd P w e cs' := by
        intro i hi
        have h2 := hel i hi
        rw [List.getElem?_eq_getElem (by omega)] at h2
        obtain ⟨cs', h3, h4⟩ := Option.bind_eq_some_iff.1 h2
        obtain ⟨_, h5, h6⟩ := World.cells?_some h3
        exact ⟨cs', ⟨h5, h6⟩, H, enc, n, _, h4⟩
      obtain ⟨b, o, s⟩ := a
      have hs : s = none := by
        obtain ⟨cs', ⟨h5, h6⟩, _⟩ := rows 0 (by omega)
        have h7 := h6 0 hc
        rw [List.getElem?_eq_getElem (by omega)] at h7
        simpa [Addr.add] using World.cell?_spot h7
      subst hs
      have ea : ∀ p q r : Nat, ((⟨p, q, none⟩ : Addr).add r) = ⟨p, q + r, none⟩ := by intro p q r; unfold Addr.add; split <;> simp_all
      have hb : b < w.heap.size := by
        obtain ⟨cs', ⟨h5, h6⟩, _⟩ := rows 0 (by omega)
        have h7 := h6 0 hc
        rw [List.getElem?_eq_getElem (by omega), ea, ea] at h7
        exact World.block_lt_of_cell? w ⟨b, _, none⟩ h7
      refine .inr ⟨b, o, rfl, hb, fun i hi => ?_⟩
      obtain ⟨cs', ⟨h5, h6⟩, h7⟩ := rows i hi
      refine ⟨cs', ⟨h5, fun j v hj => ?_⟩, h7⟩
      have h8 := h6 j (by have := (List.getElem?_eq_some_iff.1 hj).1; omega)
      rw [ea, ea] at h8
      rw [h8, hj]
end

theorem rd_list {α : Type} {rep : List Value → α → Prop} {Q : Nat → List Value → Prop} (n : Nat) (h : ∀ i, i < n → ∃ cs, Q i cs ∧ ∃ x, rep cs x) :
    ∃ (rows : List (List Value)) (l : List α), rows.length = n ∧ l.length = n ∧ (∀ (i : Nat) (r : List Value), rows[i]? = some r → Q i r) ∧ ∀ (i : Nat) (r : List Value) (x : α), rows[i]? = some r → l[i]? = some x → rep r x := by
  induction n with
  | zero => exact ⟨[], [], rfl, rfl, fun i r h => by simp at h, fun i r x h => by simp at h⟩
  | succ n ih =>
    obtain ⟨rows, l, h1, h2, h3, h4⟩ := ih fun i hi => h i (by omega)
    obtain ⟨cs, hQ, x, hr⟩ := h n (by omega)
    refine ⟨rows ++ [cs], l ++ [x], by simp [h1], by simp [h2], fun i r hi => ?_, fun i r y hi hl => ?_⟩
    · by_cases e : i < rows.length
      · rw [List.getElem?_append_left e] at hi
        exact h3 i r hi
      · rw [List.getElem?_append_right (by omega)] at hi
        have : i = n := by
          have := (List.getElem?_eq_some_iff.1 hi).1
          simp at this
          omega
        subst this
        rw [h1, Nat.sub_self] at hi
        simp at hi
        subst hi
        exact hQ
    · by_cases e : i < rows.length
      · rw [List.getElem?_append_left e] at hi
        rw [List.getElem?_append_left (by omega)] at hl
        exact h4 i r y hi hl
      · rw [List.getElem?_append_right (by omega)] at hi
        rw [List.getElem?_append_right (by omega)] at hl
        have : i = n := by
          have := (List.getElem?_eq_some_iff.1 hi).1
          simp at this
          omega
        subst this
        rw [h1, Nat.sub_self] at hi
        rw [h2, Nat.sub_self] at hl
        simp at hi hl
        subst hi; subst hl
        exact hr

/-- A slice argument reads as a list. -/
theorem Rd.list {P : Program} {w : World} {t e : TypeId} {cs : List Value} {α : Type} {rep : World → List Value → α → Prop} {sz : Nat} (h : Rd P w t cs) (hu : P.underlying t = some (.slice e)) (hsz : P.cellsOf e = sz) (hp : 0 < sz)
    (hr : ∀ cs', Rd P w e cs' → ∃ x, rep w cs' x) :
    ∃ (a : Option Addr) (l : List α) (cap : Nat), cs = [.slice a l.length cap] ∧ l.length ≤ cap ∧ cap ≤ maxLen ∧ SliceAt rep sz (fun k => k < w.heap.size) w a l := by
  obtain ⟨a, len, cap, hcs, hl, hm, hrest⟩ := h.slice hu (by omega)
  rw [hsz] at hrest
  rcases hrest with h0 | ⟨b, o, rfl, hb, hrows⟩
  · subst h0
    exact ⟨a, [], cap, hcs, hl, hm, SliceAt.nil⟩
  · obtain ⟨rows, l, h1, h2, h3, h4⟩ := rd_list (rep := rep w) (Q := fun i cs' => cs'.length = sz ∧ ∀ (j : Nat) (v : Value), cs'[j]? = some v → w.cell? ⟨b, o + i * sz + j, none⟩ = some v) len
      fun i hi => by
        obtain ⟨cs', hQ, hrd⟩ := hrows i hi
        exact ⟨cs', hQ, hr cs' hrd⟩
    subst h2
    exact ⟨_, l, cap, hcs, hl, hm, rows, .inr ⟨b, o, rfl, hb, hb, h3⟩, h1, h4⟩

theorem wf_i64 {n : Int} (h : (Lit.int .i64 n).wf = true) : -9223372036854775808 ≤ n ∧ n ≤ 9223372036854775807 := by
  simp [Lit.wf, IntKind.min, IntKind.max, IntKind.signed, IntKind.bits] at h
  omega

/-- A reading with a property of each element: the reading, and the property of all. -/
theorem SliceAt.split {α : Type} {cells : α → List Value} {p : α → Prop} {sz : Nat} {R : Nat → Prop} {w : World} {a : Option Addr} {l : List α} (h : SliceAt (fun _ r x => r = cells x ∧ p x) sz R w a l) :
    SliceAt (Flat cells) sz R w a l ∧ ∀ x ∈ l, p x := by
  obtain ⟨rows, h1, h2, h3⟩ := h
  refine ⟨⟨rows, h1, h2, fun i r x hr hx => (h3 i r x hr hx).1⟩, fun x hx => ?_⟩
  obtain ⟨i, hi, rfl⟩ := List.mem_iff_getElem.1 hx
  have hr : rows[i]? = some (rows[i]'(by omega)) := List.getElem?_eq_getElem (by omega)
  exact (h3 i _ _ hr (List.getElem?_eq_getElem hi)).2

end Go.Proofs.YthffgbhphjkdeaaDoor
