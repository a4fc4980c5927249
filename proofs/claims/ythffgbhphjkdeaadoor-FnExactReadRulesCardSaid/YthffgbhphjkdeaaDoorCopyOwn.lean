/-
  PROVED: 'append([]T{}, xs...)' once more: the copy is the call's own. No program in sight.
-/
import Derived.Test.YthffgbhphjkdeaaDoorCopy
namespace Go.Proofs.YthffgbhphjkdeaaDoor
open Go.RowKit

section
variable {P : Program} {t e sz by_ : Nat} {i0 : TypeInfo} {z : Value} {α : Type} {cells : α → List Value}

theorem news_of_slice {R : Nat → Prop} {w : World} {b : Option Addr} {l : List α} (hl : SliceAt (Flat cells) sz R w b l) (hc : ∀ x, (cells x).length = sz) (hp : 0 < sz) (h0 : l ≠ []) :
    ∃ ad, b = some ad ∧ ∀ j u, ((l.map cells).flatten)[j]? = some u → w.cell? (ad.add j) = some u := by
  obtain ⟨rows, h1, h2, h3⟩ := hl
  have hpos : 0 < l.length := List.length_pos_iff.2 h0
  obtain ⟨b', o, rfl, _, _, hrow⟩ : ∃ b' o, b = some ⟨b', o, none⟩ ∧ R b' ∧ b' < w.heap.size ∧ ∀ (i : Nat) (r : List Value), rows[i]? = some r → r.length = sz ∧ ∀ (j : Nat) (v : Value), r[j]? = some v → w.cell? ⟨b', o + i * sz + j, none⟩ = some v := by
    rcases h1 with h1 | h1
    · subst h1; simp at h2; omega
    · exact h1
  have hrows : rows = l.map cells := by
    apply List.ext_getElem?
    intro j
    by_cases hj : j < l.length
    · have e1 := List.getElem?_eq_getElem (l := rows) (i := j) (by omega)
      have e2 := List.getElem?_eq_getElem (l := l) (i := j) hj
      have h4 : rows[j] = cells l[j] := h3 j _ _ e1 e2
      rw [e1, List.getElem?_map, e2, h4]; rfl
    · rw [List.getElem?_eq_none (by omega), List.getElem?_eq_none (by simp; omega)]
  subst hrows
  have hfl := flat_length hc l
  refine ⟨_, rfl, fun j v hj => ?_⟩
  have hjl : j < l.length * sz := by rw [← hfl]; exact (List.getElem?_eq_some_iff.1 hj).1
  have hjd : j / sz < l.length := by rw [Nat.div_lt_iff_lt_mul hp]; exact hjl
  have ej : j / sz * sz + j % sz = j := by rw [Nat.mul_comm]; exact Nat.div_add_mod j sz
  have hk : (l.map cells)[j / sz]? = some (cells l[j / sz]) := by rw [List.getElem?_map, List.getElem?_eq_getElem hjd]; rfl
  have hm : j % sz < (cells l[j / sz]).length := by rw [hc]; exact Nat.mod_lt _ hp
  have h5 := flatten_at (sz := sz) (by intro r hr; obtain ⟨x, _, rfl⟩ := List.mem_map.1 hr; exact hc x) hk (List.getElem?_eq_getElem hm)
  rw [ej, hj] at h5
  simp only [Option.some.injEq] at h5
  have h6 := (hrow _ _ hk).2 _ _ (List.getElem?_eq_getElem hm)
  have ea : (⟨b', o, none⟩ : Addr).add j = ⟨b', o + j / sz * sz + j % sz, none⟩ := by
    have q : (⟨b', o, none⟩ : Addr).add j = ⟨b', o + j, none⟩ := by unfold Addr.add; split <;> simp_all
    rw [q, Nat.add_assoc, ej]
  rw [ea, h5]
  exact h6

theorem run_copy_own {B : Nat} (H : Sized P t e sz by_ i0 z) (hzs : z.cells.size = sz) (hc : ∀ x, (cells x).length = sz) (hone : ∀ x, ∀ u ∈ cells x, u.oneCell' = true) (ty : TypeId) {w : World} {d : Option Addr} (hd : d = none ∨ ∃ g, d = some ⟨g, 0, none⟩)
    (own : w.ownsRow B e sz (.slice d 0 0) 0 []) (hB : B ≤ w.heap.size) {b : Option Addr} {c : Nat} {l : List α} {R : Nat → Prop} (hl : SliceAt (Flat cells) sz R w b l) (hn : l.length ≤ maxLen) (hb : l.length * by_ ≤ 140737488355328) :
    ∃ a' c' w', (Builtin.append_ #[t, t] ty #[.slice d 0 0, .slice b l.length c]).run P w = .ok (.slice a' l.length c') w' ∧ Kept w w' ∧ w'.ownsRow B e sz (.slice a' l.length c') l.length (l.map cells).flatten := by
  by_cases h0 : l = []
  · subst h0
    refine ⟨d, 0, w, ?_, Mod.refl _ _, own⟩
    rcases hd with rfl | ⟨g, rfl⟩ <;> cases b <;>
      simp [Builtin.append_, run_underlying H.und, sizeOf, typeInfo, zeroValue, H.inf, H.zero, Builtin.lenOf, Builtin.firstCells, loadCells, loadCellsFrom, storeCells]
  · obtain ⟨v, w', hr, ⟨a', c', rfl, _⟩, hk⟩ := run_copy (P := P) H hc ty hd hl hn hb (c := c)
    obtain ⟨ad, rfl, hnews⟩ := news_of_slice hl hc H.pos h0
    obtain ⟨v2, w2, hr2, hown, _, _⟩ := run_append_own (P := P) w B t ty e i0 z sz by_ H.und H.inf H.zero H.size H.bytes hzs H.pos (.slice d 0 0) 0 [] own ad l.length c _ (flat_length hc l) hnews
      (fun u hu => by
        obtain ⟨r, hr, hu⟩ := List.mem_flatten.1 hu
        obtain ⟨x, _, rfl⟩ := List.mem_map.1 hr
        exact hone x u hu) (by omega) (by rw [Nat.zero_add]; exact hb) hB
    rw [hr] at hr2
    simp only [Result.ok.injEq] at hr2
    obtain ⟨rfl, rfl⟩ := hr2
    rw [Nat.zero_add, List.nil_append] at hown
    exact ⟨a', c', w', hr, hk, hown⟩

theorem wpList_copy_own {B : Nat} {ops : Array Oper} {rest : List Oper} {o : Oper} {a : Act} {w : World} {Q : Exit → Act → World → Prop} (hgd : o.guard = none) (s x : Operand) (H : Sized P t e sz by_ i0 z) (hzs : z.cells.size = sz) (hc : ∀ x, (cells x).length = sz) (hone : ∀ x, ∀ u ∈ cells x, u.oneCell' = true)
    (ho : o.op = .call { callee := .builtin .append, args := #[s, x], argTypes := #[t, t] }) {d : Option Addr} (hs : a.eval s = .slice d 0 0) (hd : d = none ∨ ∃ g, d = some ⟨g, 0, none⟩) (own : w.ownsRow B e sz (.slice d 0 0) 0 []) (hB : B ≤ w.heap.size)
    {b : Option Addr} {c : Nat} {l : List α} {R : Nat → Prop} (hx : a.eval x = .slice b l.length c) (hl : SliceAt (Flat cells) sz R w b l) (hn : l.length ≤ maxLen) (hb : l.length * by_ ≤ 140737488355328)
    (h : ∀ a' c' w', w'.ownsRow B e sz (.slice a' l.length c') l.length (l.map cells).flatten → Kept w w' → wpList P ops Q rest (a.put o.dst (.slice a' l.length c')) w') : wpList P ops Q (o :: rest) a w := by
  refine wpList_plain hgd fun K hK => ?_
  obtain ⟨a', c', w', hr, h3, h2⟩ := run_copy_own (P := P) H hzs hc hone o.type hd own hB hl hn hb (c := c)
  unfold Oper.wp execOp
  simp only [ho, resolve, invoke, builtin, Sem.run_bind, Sem.run_pure, Result.andThen_ok, List.map_toArray, List.map_cons, List.map_nil, hs, hx, hr]
  exact hK _ _ (h a' c' w' h2 h3)
end

end Go.Proofs.YthffgbhphjkdeaaDoor
