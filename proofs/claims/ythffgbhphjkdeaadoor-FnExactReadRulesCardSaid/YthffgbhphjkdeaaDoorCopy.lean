/-
  PROVED: 'append([]T{}, xs...)': a copy of a slice in new memory; alone and in a drawn region. No program in sight.
-/
import Derived.Test.YthffgbhphjkdeaaDoorReg
import Derived.Test.YthffgbhphjkdeaaDoorRep2
import Derived.WalkLawsBesides
namespace Go.Proofs.YthffgbhphjkdeaaDoor
open Go.RowKit

section
variable {P : Program} {t e sz by_ : Nat} {i0 : TypeInfo} {z : Value} {α : Type} {cells : α → List Value}

/-- What a copy of xs hands back. -/
def CopyAt (cells : α → List Value) (sz : Nat) (W : World) (l : List α) (w : World) (v : Value) : Prop := ∃ a c, v = .slice a l.length c ∧ SliceAt (Flat cells) sz (fun k => W.heap.size ≤ k) w a l
/-- The kit's word on a type's size. -/
structure Sized (P : Program) (t e sz bytes : Nat) (i0 : TypeInfo) (z : Value) : Prop where
  und : P.underlying t = some (.slice e)
  inf : P.info? e = some i0
  zero : i0.zero = some z
  size : i0.size = sz
  bytes : i0.bytes = bytes
  pos : 0 < sz

theorem run_copy (H : Sized P t e sz by_ i0 z) (hc : ∀ x, (cells x).length = sz) (ty : TypeId) {w : World} {d : Option Addr} (hd : d = none ∨ ∃ g, d = some ⟨g, 0, none⟩) {b : Option Addr} {c : Nat} {l : List α} {R : Nat → Prop} (hl : SliceAt (Flat cells) sz R w b l) (hn : l.length ≤ maxLen) (hb : l.length * by_ ≤ 140737488355328) :
    ∃ v w', (Builtin.append_ #[t, t] ty #[.slice d 0 0, .slice b l.length c]).run P w = .ok v w' ∧ CopyAt cells sz w l w' v ∧ Kept w w' := by
  unfold maxLen at hn
  by_cases h0 : l = []
  · subst h0
    refine ⟨.slice d 0 0, w, ?_, ⟨d, 0, rfl, SliceAt.nil⟩, Mod.refl _ _⟩
    rcases hd with rfl | ⟨g, rfl⟩ <;> cases b <;>
      simp [Builtin.append_, run_underlying H.und, sizeOf, typeInfo, zeroValue, H.inf, H.zero, Builtin.lenOf, Builtin.firstCells, loadCells, loadCellsFrom, storeCells]
  · have hpos : 0 < l.length := List.length_pos_iff.2 h0
    obtain ⟨rows, h1, h2, h3⟩ := hl
    obtain ⟨b', o, rfl, _, _, hrow⟩ : ∃ b' o, b = some ⟨b', o, none⟩ ∧ R b' ∧ b' < w.heap.size ∧ ∀ (i : Nat) (r : List Value), rows[i]? = some r → r.length = sz ∧ ∀ (j : Nat) (v : Value), r[j]? = some v → w.cell? ⟨b', o + i * sz + j, none⟩ = some v := by
      rcases h1 with h1 | h1
      · subst h1; simp at h2; omega
      · exact h1
    have hrows : rows = l.map cells := by
      apply List.ext_getElem?
      intro j
      by_cases hj : j < l.length
      · have e1 := List.getElem?_eq_getElem (l := rows) (i := j) (by omega)
        have e2 := List.getElem?_eq_getElem (l := l) (i := j) hj
        have h4 : rows[j] = cells l[j] := h3 j _ _ e1 e2
        rw [e1, List.getElem?_map, e2, h4]; rfl
      · rw [List.getElem?_eq_none (by omega), List.getElem?_eq_none (by simp; omega)]
    subst hrows
    have hfl := flat_length hc l
    have hlen : ((l.map cells).flatten).length = l.length * i0.size := by rw [H.size]; exact hfl
    have hnews : ∀ j v, ((l.map cells).flatten)[j]? = some v → w.cell? ((⟨b', o, none⟩ : Addr).add j) = some v := by
      intro j v hj
      have hjl : j < l.length * sz := by rw [← hfl]; exact (List.getElem?_eq_some_iff.1 hj).1
      have hjd : j / sz < l.length := by rw [Nat.div_lt_iff_lt_mul H.pos]; exact hjl
      have ej : j / sz * sz + j % sz = j := by rw [Nat.mul_comm]; exact Nat.div_add_mod j sz
      have hk : (l.map cells)[j / sz]? = some (cells l[j / sz]) := by rw [List.getElem?_map, List.getElem?_eq_getElem hjd]; rfl
      have hm : j % sz < (cells l[j / sz]).length := by rw [hc]; exact Nat.mod_lt _ H.pos
      have h5 := flatten_at (sz := sz) (by intro r hr; obtain ⟨x, _, rfl⟩ := List.mem_map.1 hr; exact hc x) hk (List.getElem?_eq_getElem hm)
      rw [ej, hj] at h5
      simp only [Option.some.injEq] at h5
      have h6 := (hrow _ _ hk).2 _ _ (List.getElem?_eq_getElem hm)
      have ea : (⟨b', o, none⟩ : Addr).add j = ⟨b', o + j / sz * sz + j % sz, none⟩ := by
        have q : (⟨b', o, none⟩ : Addr).add j = ⟨b', o + j, none⟩ := by unfold Addr.add; split <;> simp_all
        rw [q, Nat.add_assoc, ej]
      rw [ea, h5]
      exact h6
    have key : ∀ (v : Value) (cap : Nat), v = .slice (some ⟨w.heap.size, 0, none⟩) l.length cap → ∀ cs : Array Value, cs.toList.take (l.length * sz) = (l.map cells).flatten → CopyAt cells sz w l (w.drew.alloc (.cells cs e)) v := by
      intro v cap hv cs hcs
      refine ⟨_, _, hv, ⟨l.map cells, .inr ⟨w.heap.size, 0, rfl, Nat.le_refl _, by simp, fun j r hr => ⟨?_, fun q u hu => ?_⟩⟩, by simp, fun j r x hr hx => ?_⟩⟩
      · obtain ⟨x, _, rfl⟩ := List.mem_map.1 (List.mem_of_getElem? hr)
        exact hc x
      · have h5 := flatten_at (sz := sz) (by intro r hr; obtain ⟨x, _, rfl⟩ := List.mem_map.1 hr; exact hc x) hr hu
        rw [← hcs, List.getElem?_take] at h5
        split at h5
        · rw [Nat.zero_add]
          have hn := heap_alloc_new w.drew (.cells cs e)
          have hs : w.drew.heap.size = w.heap.size := rfl
          rw [hs] at hn
          simp only [World.cell?, hn]
          simpa using h5
        · cases h5
      · rw [List.getElem?_map, hx] at hr
        simpa [Flat] using hr.symm
    have hK : ∀ cs : Array Value, Kept w (w.drew.alloc (.cells cs e)) := fun cs => (Mod.refl _ w).drew.alloc _
    rcases hd with rfl | ⟨g, rfl⟩
    · refine ⟨_, _, run_append_nil w t ty e i0 z H.und H.inf H.zero ⟨b', o, none⟩ l.length c _ hlen hnews hpos (by omega) (by rw [H.bytes]; omega), key _ _ rfl _ ?_, hK _⟩
      rw [← hfl]; simp
    · have hg := run_append_grow (P := P) w t ty e i0 z H.und H.inf H.zero ⟨g, 0, none⟩ 0 0 [] (by simp) (by simp) ⟨b', o, none⟩ l.length c _ hlen hnews (by omega) (by omega) (by rw [Nat.zero_add, nextslicecap_zero hpos, H.bytes]; omega)
      simp only [Nat.zero_add] at hg
      refine ⟨_, _, hg, key _ _ rfl _ ?_, hK _⟩
      rw [← hfl]; simp

/-- A copy as a statement of its own. -/
theorem wpList_copy {ops : Array Oper} {rest : List Oper} {o : Oper} {a : Act} {w : World} {Q : Exit → Act → World → Prop} (hgd : o.guard = none) (s x : Operand) (H : Sized P t e sz by_ i0 z) (hc : ∀ x, (cells x).length = sz)
    (ho : o.op = .call { callee := .builtin .append, args := #[s, x], argTypes := #[t, t] }) {d : Option Addr} (hs : a.eval s = .slice d 0 0) (hd : d = none ∨ ∃ g, d = some ⟨g, 0, none⟩) {b : Option Addr} {c : Nat} {l : List α} {R : Nat → Prop} (hx : a.eval x = .slice b l.length c)
    (hl : SliceAt (Flat cells) sz R w b l) (hn : l.length ≤ maxLen) (hb : l.length * by_ ≤ 140737488355328)
    (h : ∀ a' c' w', SliceAt (Flat cells) sz (fun k => w.heap.size ≤ k) w' a' l → Kept w w' → wpList P ops Q rest (a.put o.dst (.slice a' l.length c')) w') : wpList P ops Q (o :: rest) a w := by
  refine wpList_plain hgd fun K hK => ?_
  obtain ⟨v, w', hr, ⟨a', c', rfl, h2⟩, h3⟩ := run_copy (P := P) H hc o.type hd hl hn hb (c := c)
  unfold Oper.wp execOp
  simp only [ho, resolve, invoke, builtin, Sem.run_bind, Sem.run_pure, Result.andThen_ok, List.map_toArray, List.map_cons, List.map_nil, hs, hx, hr]
  exact hK _ _ (h a' c' w' h2 h3)

def slA : Value → Option Addr
  | .slice a _ _ => a
  | _ => none
def slC : Value → Nat
  | .slice _ _ c => c
  | _ => 0
@[go_sem] theorem slA_slice (a : Option Addr) (n c : Nat) : slA (.slice a n c) = a := rfl
@[go_sem] theorem slC_slice (a : Option Addr) (n c : Nat) : slC (.slice a n c) = c := rfl

/-- A copy in a drawn region. -/
theorem RM.copy {W : World} {ops : Array Oper} {Q : Exit → Act → World → Prop} {k : Nat} {o : Oper} {rest : List Oper} {F : (Nat → Value) → Act} {U : List (Nat × ((Nat → Value) → World → Value → Prop))}
    (us : List Nat) (s y : Operand) (H : Sized P t e sz by_ i0 z) (hc : ∀ x, (cells x).length = sz) (ho : o.op = .call { callee := .builtin .append, args := #[s, y], argTypes := #[t, t] })
    {b : Option Addr} {c : Nat} {l : List α} {R : Nat → Prop} (hl : SliceAt (Flat cells) sz R W b l) (hn : l.length ≤ maxLen) (hb : l.length * by_ ≤ 140737488355328)
    (hus : (us.all fun i => (reach ops ops.size k).contains i) = true) (hw : ∀ x, Region.wanted o (yielded ops (F x).tmps) = true)
    (hs : ∀ x w, Kept W w → (∀ u ∈ U, u.1 ∈ us → u.2 x w (x u.1)) → ∃ d, (F x).eval s = .slice d 0 0 ∧ (d = none ∨ ∃ g, d = some ⟨g, 0, none⟩)) (hy : ∀ x, (F x).eval y = .slice b l.length c)
    (h : RS P ops Kept (Kept W) Q (k + 1) rest (fun x => (F x).put o.dst (.slice (slA (x k)) l.length (slC (x k)))) ((k, fun _ => CopyAt cells sz W l) :: U)) : RS P ops Kept (Kept W) Q k (o :: rest) F U :=
  RS.new us (CopyAt cells sz W l) (fun v => .slice (slA v) l.length (slC v)) (fun _ _ ⟨_, _, hv, _⟩ => by rw [hv]; rfl) hus (fun _ _ _ ⟨a', c', h1, h2⟩ hm => ⟨a', c', h1, h2.flatKeep hm⟩) hw
    (fun x w hS hK => by
      obtain ⟨d, hs1, hd⟩ := hs x w hS hK
      obtain ⟨v, w', hr, ⟨a', c', rfl, h2⟩, h3⟩ := run_copy (P := P) H hc o.type hd (hl.flatKeep hS) hn hb (c := c)
      unfold Oper.wp execOp
      simp only [ho, resolve, invoke, builtin, Sem.run_bind, Sem.run_pure, Result.andThen_ok, List.map_toArray, List.map_cons, List.map_nil, hs1, hy x, hr]
      refine ⟨_, rfl, ⟨a', c', rfl, ?_⟩, hS.thenNone h3, h3⟩
      obtain ⟨rows, p1, p2⟩ := h2
      exact ⟨rows, p1.weaken fun j _ (hj : w.heap.size ≤ j) => Nat.le_trans hS.size hj, p2⟩) h

theorem RM.vald {W : World} {ops : Array Oper} {Q : Exit → Act → World → Prop} {k : Nat} {o : Oper} {rest : List Oper} {F : (Nat → Value) → Act} {U : List (Nat × ((Nat → Value) → World → Value → Prop))} (us : List Nat) {v : (Nat → Value) → Value} (hus : (us.all fun i => (reach ops ops.size k).contains i) = true) (hw : ∀ x, Region.wanted o (yielded ops (F x).tmps) = true)
    (ho : ∀ x w, Kept W w → (∀ u ∈ U, u.1 ∈ us → u.2 x w (x u.1)) → (execOp (F x).eval o).run P w = .ok (.value (v x)) w) (hg : ∀ x y, (∀ i ∈ us, x i = y i) → v x = v y)
    (h : RS P ops Kept (Kept W) Q (k + 1) rest (fun x => (F x).put o.dst (v x)) U) : RS P ops Kept (Kept W) Q k (o :: rest) F U :=
  RS.val us v hus hg hw (fun x w hS hK => wp_of_run (ho x w hS hK) ⟨rfl, hS, Mod.refl _ _⟩) h
end

end Go.Proofs.YthffgbhphjkdeaaDoor
