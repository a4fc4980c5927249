/-
  PROVED: drawn regions in which one block of one cell is written once while other work goes on: walked in the text's order. No program in sight.
-/
import Derived.Test.YtefgjjmnjanleaaCopy
namespace Go.Proofs.Ytefgjjmnjanleaa
open Go.RowKit

/-- From w to w' only block b may have turned, and if so to tg. -/
structure TP (b : Nat) (tg : Obj) (w w' : World) : Prop where
  m : Mod (fun k => k = b) w w'
  k : w'.heap[b]? = w.heap[b]? ∨ w'.heap[b]? = some tg
theorem TP.kept {b : Nat} {tg : Obj} {w w' : World} (h : Kept w w') (hb : b < w.heap.size) : TP b tg w w' := ⟨h.mono fun _ _ f => f.elim, .inl (h.block b hb (fun f => f))⟩
theorem TP.trans {b : Nat} {tg : Obj} {u v w : World} (h : TP b tg u v) (k : TP b tg v w) : TP b tg u w :=
  ⟨h.m.trans k.m, by rcases k.k with k1 | k1; (· rw [k1]; exact h.k); (· exact .inr k1)⟩
theorem TP.refl (b : Nat) (tg : Obj) (w : World) : TP b tg w w := ⟨Mod.refl _ _, .inl rfl⟩
/-- The block has been written. -/
def Put (b : Nat) (tg : Obj) (w : World) (_ : Value) : Prop := w.heap[b]? = some tg

section
variable {P : Program} {ops : Array Oper} {W : World} {b : Nat} {tg : Obj} {Q : Exit → Act → World → Prop} {k : Nat} {o : Oper} {rest : List Oper} {F : (Nat → Value) → Act} {U : List (Nat × (World → Value → Prop))}
theorem TP.size {w : World} (h : TP b tg W w) (hb : b < W.heap.size) : b < w.heap.size := Nat.lt_of_lt_of_le hb h.m.size
theorem wp_region_put_tail {l : List Oper} {id : Nat} {a : Act} (b : Nat) (tg : Obj) (n : Nat) (hm : P.follows .mixedOrders = true) (hc : regOkTo n l.toArray = true) (ht : tailOk l.toArray n = true) (h : RS P l.toArray (TP b tg) (TP b tg W) (fun _ a w => wpList P l.toArray Q (l.drop n) a w) 0 (l.take n) (fun _ => a) []) : (Code.region id l.toArray true).wp P Q a W :=
  wp_region_rs_tail n (TP b tg W) (TP b tg) hm hc ht ⟨(Mod.refl _ W).drew, .inl rfl⟩ (by simpa using h)
theorem RP.done (h : ∀ x w, TP b tg W w → (∀ u ∈ U, u.2 w (x u.1)) → Q .normal (F x) w) : RS P ops (TP b tg) (TP b tg W) Q k [] F U := RS.done h
theorem RP.skip (hw : ∀ x, Region.wanted o (yielded ops (F x).tmps) = false) (h : RS P ops (TP b tg) (TP b tg W) Q (k + 1) rest (fun x => (F x).put o.dst undef) U) : RS P ops (TP b tg) (TP b tg W) Q k (o :: rest) F U := RS.skip hw h
theorem RP.const {v : Value} (hw : ∀ x, Region.wanted o (yielded ops (F x).tmps) = true) (ho : ∀ x w, TP b tg W w → (execOp (F x).eval o).run P w = .ok (.value v) w)
    (h : RS P ops (TP b tg) (TP b tg W) Q (k + 1) rest (fun x => (F x).put o.dst v) U) : RS P ops (TP b tg) (TP b tg W) Q k (o :: rest) F U :=
  RS.val [] (fun _ => v) rfl (fun _ _ _ => rfl) hw (fun x w hS _ => wp_of_run (ho x w hS) ⟨rfl, hS, TP.refl _ _ _⟩) h
theorem RP.vald (us : List Nat) {v : (Nat → Value) → Value} (hus : (us.all fun i => (reach ops ops.size k).contains i) = true) (hw : ∀ x, Region.wanted o (yielded ops (F x).tmps) = true)
    (ho : ∀ x w, TP b tg W w → (∀ u ∈ U, u.1 ∈ us → u.2 w (x u.1)) → (execOp (F x).eval o).run P w = .ok (.value (v x)) w) (hg : ∀ x y, (∀ i ∈ us, x i = y i) → v x = v y)
    (h : RS P ops (TP b tg) (TP b tg W) Q (k + 1) rest (fun x => (F x).put o.dst (v x)) U) : RS P ops (TP b tg) (TP b tg W) Q k (o :: rest) F U :=
  RS.val us v hus hg hw (fun x w hS hK => wp_of_run (ho x w hS hK) ⟨rfl, hS, TP.refl _ _ _⟩) h
theorem RP.lit (hb : b < W.heap.size) {e : TypeId} {n : Nat} {vals : Array Value} (hw : ∀ x, Region.wanted o (yielded ops (F x).tmps) = true)
    (hr : ∀ x w, TP b tg W w → (execOp (F x).eval o).run P w = .ok (.value (.slice (some ⟨w.heap.size, 0, none⟩) n n)) (w.alloc (.cells vals e)))
    (h : RS P ops (TP b tg) (TP b tg W) Q (k + 1) rest (fun x => (F x).put o.dst (x k)) ((k, LitAt W e n vals) :: U)) : RS P ops (TP b tg) (TP b tg W) Q k (o :: rest) F U :=
  RS.new [] (LitAt W e n vals) id (fun _ _ _ => rfl) rfl (fun w w' v ⟨g, h1, h2, h3⟩ hm => ⟨g, h1, h2, hm.m.blk h3 (fun (e : g = b) => by omega)⟩) hw
    (fun x w hS _ => by
      unfold Oper.wp
      rw [hr x w hS]
      exact ⟨_, rfl, ⟨_, rfl, hS.m.size, heap_alloc_new w _⟩, hS.trans (TP.kept ((Mod.refl _ w).alloc _) (hS.size hb)), TP.kept ((Mod.refl _ w).alloc _) (hS.size hb)⟩) h
theorem RP.copy {t e sz by_ : Nat} {i0 : TypeInfo} {z : Value} {α : Type} {cells : α → List Value} (us : List Nat) (s y : Operand) (H : Sized P t e sz by_ i0 z) (hc : ∀ x, (cells x).length = sz) (ho : o.op = .call { callee := .builtin .append, args := #[s, y], argTypes := #[t, t] })
    (hbW : b < W.heap.size) {c' : Option Addr} {c : Nat} {l : List α} {R : Nat → Prop} (hl : SliceAt (Flat cells) sz R W c' l) (hR : ∀ j, R j → ¬ j = b) (hn : l.length ≤ maxLen) (hb : l.length * by_ ≤ 140737488355328)
    (hus : (us.all fun i => (reach ops ops.size k).contains i) = true) (hw : ∀ x, Region.wanted o (yielded ops (F x).tmps) = true)
    (hs : ∀ x w, TP b tg W w → (∀ u ∈ U, u.1 ∈ us → u.2 w (x u.1)) → ∃ d, (F x).eval s = .slice d 0 0 ∧ (d = none ∨ ∃ g, d = some ⟨g, 0, none⟩)) (hy : ∀ x, (F x).eval y = .slice c' l.length c)
    (h : RS P ops (TP b tg) (TP b tg W) Q (k + 1) rest (fun x => (F x).put o.dst (.slice (slA (x k)) l.length (slC (x k)))) ((k, CopyAt cells sz W l) :: U)) : RS P ops (TP b tg) (TP b tg W) Q k (o :: rest) F U :=
  RS.new us (CopyAt cells sz W l) (fun v => .slice (slA v) l.length (slC v)) (fun _ _ ⟨_, _, hv, _⟩ => by rw [hv]; rfl) hus (fun _ _ _ ⟨a', c', h1, h2⟩ hm => ⟨a', c', h1, h2.flatMod hm.m fun j (hj : _ ≤ j) (e : j = b) => by omega⟩) hw
    (fun x w hS hK => by
      obtain ⟨d, hs1, hd⟩ := hs x w hS hK
      obtain ⟨v, w', hr, ⟨a', c', rfl, h2⟩, h3⟩ := run_copy (P := P) H hc o.type hd (hl.flatMod hS.m hR) hn hb (c := c)
      unfold Oper.wp execOp
      simp only [ho, resolve, invoke, builtin, Sem.run_bind, Sem.run_pure, Result.andThen_ok, List.map_toArray, List.map_cons, List.map_nil, hs1, hy x, hr]
      refine ⟨_, rfl, ⟨a', c', rfl, ?_⟩, hS.trans (TP.kept h3 (hS.size hbW)), TP.kept h3 (hS.size hbW)⟩
      obtain ⟨rows, p1, p2⟩ := h2
      exact ⟨rows, p1.weaken fun j _ (hj : w.heap.size ≤ j) => Nat.le_trans hS.m.size hj, p2⟩) h
/-- The one write. -/
theorem RP.store {T : TypeId} {u0 u : Value} (hd : o.dst = none) (hb : W.heap[b]? = some (.cells [u0].toArray T (0, 0))) (htg : tg = .cells [u].toArray T (0, 0)) (hw : ∀ x, Region.wanted o (yielded ops (F x).tmps) = true)
    (hr : ∀ x w u', w.cell? ⟨b, 0, none⟩ = some u' → w.frozen? ⟨b, 0, none⟩ = false → TP b tg W w → (execOp (F x).eval o).run P w = .ok .skip (w.setCell ⟨b, 0, none⟩ u))
    (h : RS P ops (TP b tg) (TP b tg W) Q (k + 1) rest (fun x => (F x).put o.dst (x k)) ((k, Put b tg) :: U)) : RS P ops (TP b tg) (TP b tg W) Q k (o :: rest) F U :=
  RS.new [] (Put b tg) id (fun _ _ _ => rfl) rfl (fun _ _ _ (h1 : _ = _) hm => by
      rcases hm.k with h2 | h2
      · exact h2.trans h1
      · exact h2) hw
    (fun x w hS _ => by
      subst htg
      obtain ⟨u', hu⟩ : ∃ u', w.heap[b]? = some (.cells [u'].toArray T (0, 0)) := by
        rcases hS.k with h1 | h1
        · exact ⟨u0, h1.trans hb⟩
        · exact ⟨u, h1⟩
      have hp : Put b (.cells [u].toArray T (0, 0)) (w.setCell ⟨b, 0, none⟩ u) undef := set_blk hu
      have ht : TP b (.cells [u].toArray T (0, 0)) w (w.setCell ⟨b, 0, none⟩ u) := ⟨(Mod.refl _ w).setAt _ _ _, .inr hp⟩
      unfold Oper.wp
      rw [hr x w u' (blk_cell hu (j := 0) rfl) (blk_free hu 0) hS]
      refine ⟨undef, ?_, hp, hS.trans ht, ht⟩
      rw [hd]) h
/-- What a cell holds at the start, for all worlds of the region. -/
theorem holdP {a : Addr} {v : Value} (hc : W.cell? a = some v) (hb : a.block ≠ b) : ∀ w, TP b tg W w → w.cell? a = some v := fun w hS => by
  rw [hS.m.cell (World.block_lt_of_cell? W a hc) hb]; exact hc
end

end Go.Proofs.Ytefgjjmnjanleaa
