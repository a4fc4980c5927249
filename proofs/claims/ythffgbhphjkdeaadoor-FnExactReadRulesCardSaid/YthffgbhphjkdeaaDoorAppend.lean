/-
  PROVED: append(own, xs...): a slice behind rows that the call owns; parts of slices. No program in sight.
-/
import Derived.Test.YthffgbhphjkdeaaDoorCopyOwn
import Derived.Test.YthffgbhphjkdeaaDoorRep2
namespace Go.Proofs.YthffgbhphjkdeaaDoor
open Go.RowKit

theorem SliceAt.left {α : Type} {cells : α → List Value} {sz : Nat} {R : Nat → Prop} {w : World} {a : Option Addr} {l m : List α} (h : SliceAt (Flat cells) sz R w a (l ++ m)) : SliceAt (Flat cells) sz R w a l := by
  obtain ⟨rows, h1, h2, h3⟩ := h
  rw [List.length_append] at h2
  refine ⟨rows.take l.length, ?_, by rw [List.length_take]; omega, fun i r x hr hx => ?_⟩
  · rcases h1 with h1 | ⟨b, o, rfl, hR, hb, h⟩
    · subst h1; exact .inl (by simp)
    · refine .inr ⟨b, o, rfl, hR, hb, fun i r hr => h i r ?_⟩
      rw [List.getElem?_take] at hr
      split at hr
      · exact hr
      · cases hr
  · have hi := (List.getElem?_eq_some_iff.1 hx).1
    rw [List.getElem?_take_of_lt hi] at hr
    exact h3 i r x hr (by rw [List.getElem?_append_left hi]; exact hx)
theorem SliceAt.right {α : Type} {cells : α → List Value} {sz b o : Nat} {R : Nat → Prop} {w : World} {l m : List α} (h : SliceAt (Flat cells) sz R w (some ⟨b, o, none⟩) (l ++ m)) : SliceAt (Flat cells) sz R w (some ⟨b, o + l.length * sz, none⟩) m := by
  obtain ⟨rows, h1, h2, h3⟩ := h
  rw [List.length_append] at h2
  refine ⟨rows.drop l.length, ?_, by rw [List.length_drop]; omega, fun i r x hr hx => ?_⟩
  · rcases h1 with h1 | ⟨b', o', e, hR, hb, h⟩
    · subst h1; exact .inl (by simp)
    · simp only [Option.some.injEq, Addr.mk.injEq, and_true] at e
      obtain ⟨rfl, rfl⟩ := e
      refine .inr ⟨_, _, rfl, hR, hb, fun i r hr => ?_⟩
      rw [List.getElem?_drop] at hr
      obtain ⟨h4, h5⟩ := h _ r hr
      refine ⟨h4, fun j v hv => ?_⟩
      rw [← h5 j v hv, Nat.add_mul, ← Nat.add_assoc]
  · rw [List.getElem?_drop] at hr
    exact h3 _ r x hr (by rw [List.getElem?_append_right (by omega), Nat.add_sub_cancel_left]; exact hx)
theorem grownBy_refl (w : World) (r : Option Nat) : w.grownBy w r := ⟨rfl, rfl, rfl, Nat.le_refl _, fun _ _ _ => rfl⟩

section
variable {P : Program} {t e sz by_ : Nat} {i0 : TypeInfo} {z : Value} {α : Type} {cells : α → List Value}

theorem run_append_slice {B : Nat} (H : Sized P t e sz by_ i0 z) (hzs : z.cells.size = sz) (hc : ∀ x, (cells x).length = sz) (hone : ∀ x, ∀ u ∈ cells x, u.oneCell' = true) (ty : TypeId) {w : World} {d : Option Addr} {n c0 : Nat} {xs : List Value}
    (own : w.ownsRow B e sz (.slice d n c0) n xs) (hB : B ≤ w.heap.size) {b : Option Addr} {c : Nat} {l : List α} {R : Nat → Prop} (hl : SliceAt (Flat cells) sz R w b l) (hn : n + l.length ≤ maxLen) (hb : (n + l.length) * by_ ≤ 140737488355328) :
    ∃ a' c' w', (Builtin.append_ #[t, t] ty #[.slice d n c0, .slice b l.length c]).run P w = .ok (.slice a' (n + l.length) c') w' ∧ w.grownBy w' (Value.slice d n c0).ownBlock ∧ w'.ownsRow B e sz (.slice a' (n + l.length) c') (n + l.length) (xs ++ (l.map cells).flatten) := by
  by_cases h0 : l = []
  · subst h0
    refine ⟨d, c0, w, ?_, grownBy_refl _ _, by simpa using own⟩
    rcases own.2 with ⟨hv, hn0⟩ | ⟨g, cap, cur, hv, _, _, hnc, _⟩
    · injection hv with e1 e2 e3
      subst e1 e2 e3
      cases b <;>
        simp [Builtin.append_, run_underlying H.und, sizeOf, typeInfo, zeroValue, H.inf, H.zero, Builtin.lenOf, Builtin.firstCells, loadCells, loadCellsFrom, storeCells]
    · injection hv with e1 e2 e3
      subst e1 e3
      cases b <;>
        simp [Builtin.append_, run_underlying H.und, sizeOf, typeInfo, zeroValue, H.inf, H.zero, Builtin.lenOf, Builtin.firstCells, loadCells, loadCellsFrom, storeCells, hnc]
  · obtain ⟨ad, rfl, hnews⟩ := news_of_slice hl hc H.pos h0
    obtain ⟨v2, w2, hr2, hown, hg, _⟩ := run_append_own (P := P) w B t ty e i0 z sz by_ H.und H.inf H.zero H.size H.bytes hzs H.pos (.slice d n c0) n xs own ad l.length c _ (flat_length hc l) hnews
      (fun u hu => by
        obtain ⟨r, hr, hu⟩ := List.mem_flatten.1 hu
        obtain ⟨x, _, rfl⟩ := List.mem_map.1 hr
        exact hone x u hu) hn hb hB
    obtain ⟨a', c', rfl⟩ := own_form hown
    exact ⟨a', c', w2, hr2, hg, hown⟩

theorem wpList_append_slice {B : Nat} {ops : Array Oper} {rest : List Oper} {o : Oper} {a : Act} {w : World} {Q : Exit → Act → World → Prop} (hgd : o.guard = none) (s x : Operand) (H : Sized P t e sz by_ i0 z) (hzs : z.cells.size = sz) (hc : ∀ x, (cells x).length = sz) (hone : ∀ x, ∀ u ∈ cells x, u.oneCell' = true)
    (ho : o.op = .call { callee := .builtin .append, args := #[s, x], argTypes := #[t, t] }) {d : Option Addr} {n c0 : Nat} {xs : List Value} (hs : a.eval s = .slice d n c0) (own : w.ownsRow B e sz (.slice d n c0) n xs) (hB : B ≤ w.heap.size)
    {b : Option Addr} {c m : Nat} {l : List α} {R : Nat → Prop} (hm : m = l.length) (hx : a.eval x = .slice b m c) (hl : SliceAt (Flat cells) sz R w b l) (hn : n + l.length ≤ maxLen) (hb : (n + l.length) * by_ ≤ 140737488355328)
    (h : ∀ a' c' w', w'.ownsRow B e sz (.slice a' (n + l.length) c') (n + l.length) (xs ++ (l.map cells).flatten) → w.grownBy w' (Value.slice d n c0).ownBlock → wpList P ops Q rest (a.put o.dst (.slice a' (n + l.length) c')) w') : wpList P ops Q (o :: rest) a w := by
  subst hm
  refine wpList_plain hgd fun K hK => ?_
  obtain ⟨a', c', w', hr, h3, h2⟩ := run_append_slice (P := P) H hzs hc hone o.type own hB hl hn hb (c := c)
  unfold Oper.wp execOp
  simp only [ho, resolve, invoke, builtin, Sem.run_bind, Sem.run_pure, Result.andThen_ok, List.map_toArray, List.map_cons, List.map_nil, hs, hx, hr]
  exact hK _ _ (h a' c' w' h2 h3)
theorem own_lit0 {W w : World} {e sz g : Nat} (h1 : W.heap.size ≤ g) (h2 : w.heap[g]? = some (.cells #[] e (0, 0))) : w.ownsRow W.heap.size e sz (.slice (some ⟨g, 0, none⟩) 0 0) 0 [] :=
  ⟨by simp, .inr ⟨g, 0, _, rfl, h1, h2, Nat.le_refl _, by unfold maxLen; omega, by simp, by simp⟩⟩
/-- A value is a copy of l that the call owns. -/
def OwnAt (cells : α → List Value) (e sz : Nat) (W : World) (l : List α) (w : World) (v : Value) : Prop := ∃ a c, v = .slice a l.length c ∧ w.ownsRow W.heap.size e sz (.slice a l.length c) l.length (l.map cells).flatten
theorem RM.copyOwn {W : World} {ops : Array Oper} {Q : Exit → Act → World → Prop} {k : Nat} {o : Oper} {rest : List Oper} {F : (Nat → Value) → Act} {U : List (Nat × ((Nat → Value) → World → Value → Prop))}
    (us : List Nat) (s y : Operand) (H : Sized P t e sz by_ i0 z) (hzs : z.cells.size = sz) (hc : ∀ x, (cells x).length = sz) (hone : ∀ x, ∀ u ∈ cells x, u.oneCell' = true) (ho : o.op = .call { callee := .builtin .append, args := #[s, y], argTypes := #[t, t] })
    {b : Option Addr} {c : Nat} {l : List α} {R : Nat → Prop} (hl : SliceAt (Flat cells) sz R W b l) (hn : l.length ≤ maxLen) (hb : l.length * by_ ≤ 140737488355328)
    (hus : (us.all fun i => (reach ops ops.size k).contains i) = true) (hw : ∀ x, Region.wanted o (yielded ops (F x).tmps) = true)
    (hs : ∀ x w, Kept W w → (∀ u ∈ U, u.1 ∈ us → u.2 x w (x u.1)) → ∃ d, (F x).eval s = .slice d 0 0 ∧ (d = none ∨ ∃ g, d = some ⟨g, 0, none⟩) ∧ w.ownsRow W.heap.size e sz (.slice d 0 0) 0 []) (hy : ∀ x, (F x).eval y = .slice b l.length c)
    (h : RS P ops Kept (Kept W) Q (k + 1) rest (fun x => (F x).put o.dst (.slice (slA (x k)) l.length (slC (x k)))) ((k, fun _ => OwnAt cells e sz W l) :: U)) : RS P ops Kept (Kept W) Q k (o :: rest) F U :=
  RS.new us (OwnAt cells e sz W l) (fun v => .slice (slA v) l.length (slC v)) (fun _ _ ⟨_, _, hv, _⟩ => by rw [hv]; rfl) hus (fun _ _ _ ⟨a', c', h1, h2⟩ hm => ⟨a', c', h1, own_mod h2 hm (fun _ _ f => f)⟩) hw
    (fun x w hS hK => by
      obtain ⟨d, hs1, hd, own⟩ := hs x w hS hK
      obtain ⟨a', c', w', hr, h3, h2⟩ := run_copy_own (P := P) H hzs hc hone o.type hd own hS.size (hl.flatKeep hS) hn hb (c := c)
      unfold Oper.wp execOp
      simp only [ho, resolve, invoke, builtin, Sem.run_bind, Sem.run_pure, Result.andThen_ok, List.map_toArray, List.map_cons, List.map_nil, hs1, hy x, hr]
      exact ⟨_, rfl, ⟨a', c', rfl, h2⟩, hS.thenNone h3, h3⟩) h
end

end Go.Proofs.YthffgbhphjkdeaaDoor
