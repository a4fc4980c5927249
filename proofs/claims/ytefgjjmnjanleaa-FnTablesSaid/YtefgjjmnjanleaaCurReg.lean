/-
  PROVED: drawn regions in which a cursor is drawn from: walked in the text's order. No program in sight but its numbers. Conditions: the cursor stands.
-/
import Derived.Test.YtefgjjmnjanleaaReg
import Derived.Test.YtefgjjmnjanleaaDraw
namespace Go.Proofs.Ytefgjjmnjanleaa
open Go.RowKit

/-- As at W but for the cursor's block g and new blocks; the cursor stands. -/
structure KC (B T g : Nat) (W w : World) : Prop where
  m : Mod (fun k => k = g) W w
  c : Cur B T w g
abbrev TC (g : Nat) : World → World → Prop := Mod (fun k => k = g)
def Dint (v : Value) : Value := .int .i64 (intOf v)
def bitOf : Value → Bool
  | .bool b => b
  | _ => false
def Dbool (v : Value) : Value := .bool (bitOf v)
def IntP (p : Int → Prop) (_ : World) (v : Value) : Prop := ∃ z : Int, v = .int .i64 z ∧ p z
def BoolV (_ : World) (v : Value) : Prop := ∃ b : Bool, v = .bool b
@[go_sem] theorem Dint_eq (v : Value) : Dint v = .int .i64 (intOf v) := rfl
@[go_sem] theorem Dbool_eq (v : Value) : Dbool v = .bool (bitOf v) := rfl

section
variable {P : Program} {ops : Array Oper} {W : World} {B T g : Nat} {Q : Exit → Act → World → Prop} {k : Nat} {o : Oper} {rest : List Oper} {F : (Nat → Value) → Act} {U : List (Nat × (World → Value → Prop))}

theorem wp_region_cur {l : List Oper} {id : Nat} {a : Act} (hC : Cur B T W g) (hm : P.follows .mixedOrders = true) (hc : regOk l.toArray = true) (h : RS P l.toArray (TC g) (KC B T g W) Q 0 l (fun _ => a) []) : (Code.region id l.toArray true).wp P Q a W :=
  wp_region_rs (KC B T g W) (TC g) hm hc ⟨(Mod.refl _ W).drew, hC.none ((Mod.refl _ W).drew)⟩ (by simpa using h)
theorem wp_region_cur_tail {l : List Oper} {id : Nat} {a : Act} (hC : Cur B T W g) (n : Nat) (hm : P.follows .mixedOrders = true) (hc : regOkTo n l.toArray = true) (ht : tailOk l.toArray n = true) (h : RS P l.toArray (TC g) (KC B T g W) (fun _ a w => wpList P l.toArray Q (l.drop n) a w) 0 (l.take n) (fun _ => a) []) : (Code.region id l.toArray true).wp P Q a W :=
  wp_region_rs_tail n (KC B T g W) (TC g) hm hc ht ⟨(Mod.refl _ W).drew, hC.none ((Mod.refl _ W).drew)⟩ (by simpa using h)
theorem RC.done (h : ∀ x w, KC B T g W w → (∀ u ∈ U, u.2 w (x u.1)) → Q .normal (F x) w) : RS P ops (TC g) (KC B T g W) Q k [] F U := RS.done h
theorem RC.skip (hw : ∀ x, Region.wanted o (yielded ops (F x).tmps) = false) (h : RS P ops (TC g) (KC B T g W) Q (k + 1) rest (fun x => (F x).put o.dst undef) U) : RS P ops (TC g) (KC B T g W) Q k (o :: rest) F U := RS.skip hw h
theorem RC.const {v : Value} (hw : ∀ x, Region.wanted o (yielded ops (F x).tmps) = true) (ho : ∀ x w, KC B T g W w → (execOp (F x).eval o).run P w = .ok (.value v) w)
    (h : RS P ops (TC g) (KC B T g W) Q (k + 1) rest (fun x => (F x).put o.dst v) U) : RS P ops (TC g) (KC B T g W) Q k (o :: rest) F U :=
  RS.val [] (fun _ => v) rfl (fun _ _ _ => rfl) hw (fun x w hS _ => wp_of_run (ho x w hS) ⟨rfl, hS, Mod.refl _ _⟩) h
/-- A value that hangs on what has been drawn. -/
theorem RC.val (us : List Nat) {v : (Nat → Value) → Value} (hus : (us.all fun i => (reach ops ops.size k).contains i) = true) (hw : ∀ x, Region.wanted o (yielded ops (F x).tmps) = true)
    (ho : ∀ x w, KC B T g W w → (∀ u ∈ U, u.1 ∈ us → u.2 w (x u.1)) → (execOp (F x).eval o).run P w = .ok (.value (v x)) w) (hg : ∀ x y, (∀ i ∈ us, x i = y i) → v x = v y)
    (h : RS P ops (TC g) (KC B T g W) Q (k + 1) rest (fun x => (F x).put o.dst (v x)) U) : RS P ops (TC g) (KC B T g W) Q k (o :: rest) F U :=
  RS.val us v hus hg hw (fun x w hS hK => wp_of_run (ho x w hS hK) ⟨rfl, hS, Mod.refl _ _⟩) h
/-- A call that only computes. -/
theorem RC.pure {v : Value} {f : FuncId} {args : Array Value} (hw : ∀ x, Region.wanted o (yielded ops (F x).tmps) = true)
    (hr : ∀ x w, KC B T g W w → (execOp (F x).eval o).run P w = .ok (.enter f args) w)
    (hc : ∀ w, KC B T g W w → Calls P f args w fun e w' => e = .returned v ∧ Kept w w')
    (h : RS P ops (TC g) (KC B T g W) Q (k + 1) rest (fun x => (F x).put o.dst v) U) : RS P ops (TC g) (KC B T g W) Q k (o :: rest) F U :=
  RS.val [] (fun _ => v) rfl (fun _ _ _ => rfl) hw (fun x w hS _ => wp_of_enter (hr x w hS) (hc w hS) fun _ _ ⟨he, hm⟩ => ⟨v, he, rfl, ⟨hS.1.thenNone hm, hS.2.none hm⟩, hm.mono fun _ _ f => f.elim⟩) h
/-- A number is drawn. -/
theorem RC.draw (us : List Nat) {p : Int → Prop} {f : FuncId} {args : (Nat → Value) → Array Value} (hus : (us.all fun i => (reach ops ops.size k).contains i) = true) (hw : ∀ x, Region.wanted o (yielded ops (F x).tmps) = true)
    (hr : ∀ x w, KC B T g W w → (∀ u ∈ U, u.1 ∈ us → u.2 w (x u.1)) → (execOp (F x).eval o).run P w = .ok (.enter f (args x)) w)
    (hc : ∀ x w, KC B T g W w → (∀ u ∈ U, u.1 ∈ us → u.2 w (x u.1)) → Calls P f (args x) w (Drew B T g w p))
    (h : RS P ops (TC g) (KC B T g W) Q (k + 1) rest (fun x => (F x).put o.dst (Dint (x k))) ((k, IntP p) :: U)) : RS P ops (TC g) (KC B T g W) Q k (o :: rest) F U :=
  RS.new us (IntP p) Dint (fun _ _ ⟨_, hv, _⟩ => by rw [hv]; rfl) hus (fun _ _ _ hv _ => hv) hw
    (fun x w hS hK => wp_of_enter (hr x w hS hK) (hc x w hS hK) fun _ _ ⟨z, hp, he, hC, hm⟩ => ⟨_, he, _, rfl, ⟨z, rfl, hp⟩, ⟨hS.1.trans hm, hC⟩, hm⟩) h
/-- A call that draws, and hands back something that V tells. -/
theorem RC.new (us : List Nat) (V : World → Value → Prop) {f : FuncId} {args : (Nat → Value) → Array Value} (hus : (us.all fun i => (reach ops ops.size k).contains i) = true) (hV : ∀ w w' v, V w v → TC g w w' → V w' v) (hw : ∀ x, Region.wanted o (yielded ops (F x).tmps) = true)
    (hr : ∀ x w, KC B T g W w → (∀ u ∈ U, u.1 ∈ us → u.2 w (x u.1)) → (execOp (F x).eval o).run P w = .ok (.enter f (args x)) w)
    (hc : ∀ x w, KC B T g W w → (∀ u ∈ U, u.1 ∈ us → u.2 w (x u.1)) → Calls P f (args x) w fun e w' => ∃ v, e = .returned v ∧ V w' v ∧ Cur B T w' g ∧ Mod (fun k => k = g) w w')
    (h : RS P ops (TC g) (KC B T g W) Q (k + 1) rest (fun x => (F x).put o.dst (x k)) ((k, V) :: U)) : RS P ops (TC g) (KC B T g W) Q k (o :: rest) F U :=
  RS.new us V id (fun _ _ _ => rfl) hus hV hw
    (fun x w hS hK => wp_of_enter (hr x w hS hK) (hc x w hS hK) fun _ _ ⟨v, he, hv, hC, hm⟩ => ⟨v, he, v, rfl, hv, ⟨hS.1.trans hm, hC⟩, hm⟩) h
/-- A literal of known numbers. -/
theorem RC.lit (hg : g < W.heap.size) {e : TypeId} {n : Nat} {vals : Array Value} (hw : ∀ x, Region.wanted o (yielded ops (F x).tmps) = true)
    (hr : ∀ x w, KC B T g W w → (execOp (F x).eval o).run P w = .ok (.value (.slice (some ⟨w.heap.size, 0, none⟩) n n)) (w.alloc (.cells vals e)))
    (h : RS P ops (TC g) (KC B T g W) Q (k + 1) rest (fun x => (F x).put o.dst (x k)) ((k, LitAt W e n vals) :: U)) : RS P ops (TC g) (KC B T g W) Q k (o :: rest) F U :=
  RS.new [] (LitAt W e n vals) id (fun _ _ _ => rfl) rfl (fun w w' v ⟨b, h1, h2, h3⟩ hm => ⟨b, h1, h2, hm.blk h3 (fun (e : b = g) => by omega)⟩) hw
    (fun x w hS _ => by
      unfold Oper.wp
      rw [hr x w hS]
      exact ⟨_, rfl, ⟨_, rfl, hS.1.size, heap_alloc_new w _⟩, ⟨hS.1.alloc _, hS.2.alloc _⟩, (Mod.refl _ w).alloc _⟩) h
/-- A literal of one element that hangs on what has been drawn. -/
def LitSome (W : World) (e : TypeId) (n : Nat) (rep : Array Value → Prop) (w : World) (v : Value) : Prop :=
  ∃ b vals, v = .slice (some ⟨b, 0, none⟩) n n ∧ W.heap.size ≤ b ∧ rep vals ∧ w.heap[b]? = some (.cells vals e (0, 0))
theorem RC.litSome (us : List Nat) (hg : g < W.heap.size) (rep : Array Value → Prop) {e : TypeId} {n : Nat} {vals : (Nat → Value) → Array Value} (hus : (us.all fun i => (reach ops ops.size k).contains i) = true) (hw : ∀ x, Region.wanted o (yielded ops (F x).tmps) = true)
    (hr : ∀ x w, KC B T g W w → (∀ u ∈ U, u.1 ∈ us → u.2 w (x u.1)) → (execOp (F x).eval o).run P w = .ok (.value (.slice (some ⟨w.heap.size, 0, none⟩) n n)) (w.alloc (.cells (vals x) e)))
    (hrep : ∀ x w, (∀ u ∈ U, u.1 ∈ us → u.2 w (x u.1)) → rep (vals x))
    (h : RS P ops (TC g) (KC B T g W) Q (k + 1) rest (fun x => (F x).put o.dst (x k)) ((k, LitSome W e n rep) :: U)) : RS P ops (TC g) (KC B T g W) Q k (o :: rest) F U :=
  RS.new us (LitSome W e n rep) id (fun _ _ _ => rfl) hus (fun w w' v ⟨b, q, h1, h2, hr, h3⟩ hm => ⟨b, q, h1, h2, hr, hm.blk h3 (fun (e : b = g) => by omega)⟩) hw
    (fun x w hS hK => by
      unfold Oper.wp
      rw [hr x w hS hK]
      exact ⟨_, rfl, ⟨_, _, rfl, hS.1.size, hrep x w hK, heap_alloc_new w _⟩, ⟨hS.1.alloc _, hS.2.alloc _⟩, (Mod.refl _ w).alloc _⟩) h
theorem LitSome.cells {e : TypeId} {n : Nat} {rep : Array Value → Prop} {w : World} {v : Value} (h : LitSome W e n rep w v) : ∃ b vals, v = .slice (some ⟨b, 0, none⟩) n n ∧ W.heap.size ≤ b ∧ b < w.heap.size ∧ rep vals ∧ ∀ j u, vals.toList[j]? = some u → w.cell? ((⟨b, 0, none⟩ : Addr).add j) = some u := by
  obtain ⟨b, vals, h1, h2, hr, h3⟩ := h
  refine ⟨b, vals, h1, h2, (Array.getElem?_eq_some_iff.1 h3).1, hr, fun j u hu => ?_⟩
  have ea : (⟨b, 0, none⟩ : Addr).add j = ⟨b, j, none⟩ := by unfold Addr.add; split <;> simp_all
  rw [ea]
  exact blk_cell (l := vals.toList) h3 hu
/-- What a cell holds at the start, for all worlds of the region. -/
theorem holdC {a : Addr} {v : Value} (hc : W.cell? a = some v) (hb : a.block ≠ g) : ∀ w, KC B T g W w → w.cell? a = some v := fun w hS => by
  rw [hS.1.cell (World.block_lt_of_cell? W a hc) hb]; exact hc
/-- One of the numbers of a literal of the region. -/
theorem pickIn {w : World} (hS : KC B 123 g W w) (hg : g < W.heap.size) {l : List Int} {n : Nat} {v : Value} (hv : LitAt W 3 n (l.map (Value.int .i64)).toArray w v) (hn : n = l.length) (hp : 0 < l.length) (hm : l.length ≤ 1000) :
    Calls Try.prog 82 #[.pointer (some ⟨g, 0, none⟩), v] w (Drew B 123 g w fun x => x ∈ l) := by
  obtain ⟨b, rfl, hb, hh⟩ := hv
  subst hn
  refine l01PickInt_any B g w hS.2 b l.length l (fun i hi => ?_) hp hm (by omega)
  rw [Nat.zero_add]
  exact blk_cell hh (by simp [hi])
end

end Go.Proofs.Ytefgjjmnjanleaa
