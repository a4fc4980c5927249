/-
  PROVED: contracts of functions and words on memory, several texts put together: what each says stands at its theorems. Conditions: as told there.
-/
import Derived.WalkKit
import Derived.Below
import Derived.Lib.Hide
import Derived.Deep.Quiet
import Derived.Deep.MidRow
import Derived.OrdersHeld
import Derived.StillTail
import Derived.Deep.LoopGhost
import Derived.WalkLawsBesides
import Derived.Maps.AppendAt
import Derived.Laws.StructEq
import Derived.Laws.Strings3
import Derived.Laws.Slices
import Derived.Laws.Tables
set_option linter.unusedVariables false
set_option linter.unusedSimpArgs false
namespace Go.Proofs.YtkkjjhooamlljaaGreatDoor
open Go.RowKit

abbrev I64 (n : Int) : Prop := -9223372036854775808 ≤ n ∧ n ≤ 9223372036854775807
/-- Only the blocks in R, and new blocks, have turned. -/
structure Mod (R : Nat → Prop) (w w' : World) : Prop where
  os : w'.os = w.os
  tape : w'.tape = w.tape
  output : w'.output = w.output
  size : w.heap.size ≤ w'.heap.size
  block : ∀ k, k < w.heap.size → ¬ R k → w'.heap[k]? = w.heap[k]?

theorem Mod.refl (R : Nat → Prop) (w : World) : Mod R w w := ⟨rfl, rfl, rfl, Nat.le_refl _, fun _ _ _ => rfl⟩
theorem Mod.trans {R : Nat → Prop} {a b c : World} (h : Mod R a b) (k : Mod R b c) : Mod R a c :=
  ⟨k.os.trans h.os, k.tape.trans h.tape, k.output.trans h.output, Nat.le_trans h.size k.size, fun i hi hr => (k.block i (Nat.lt_of_lt_of_le hi h.size) hr).trans (h.block i hi hr)⟩
theorem Mod.mono {R R' : Nat → Prop} {w w' : World} (h : Mod R w w') (hr : ∀ k, k < w.heap.size → R k → R' k) : Mod R' w w' :=
  ⟨h.os, h.tape, h.output, h.size, fun k hk hn => h.block k hk fun h' => hn (hr k hk h')⟩
theorem Mod.below {R : Nat → Prop} {w w' : World} (h : Mod R w w') {B : Nat} (hB : B ≤ w.heap.size) (hr : ∀ k, k < B → ¬ R k) : Below B w w' :=
  ⟨h.os, h.tape, h.output, h.size, fun k hk => h.block k (by omega) (hr k hk)⟩
theorem Mod.drew {R : Nat → Prop} {a w : World} (h : Mod R a w) : Mod R a w.drew := ⟨h.os, h.tape, h.output, h.size, h.block⟩
theorem Mod.drewN {R : Nat → Prop} {a w : World} (h : Mod R a w) (n : Nat) : Mod R a (w.drewN n) := ⟨h.os, h.tape, h.output, h.size, h.block⟩
theorem Mod.alloc {R : Nat → Prop} {a w : World} (h : Mod R a w) (o : Obj) : Mod R a (w.alloc o) :=
  h.trans ⟨rfl, rfl, rfl, by simp, fun k hk _ => Below.heap_alloc _ _ _ hk⟩
theorem Mod.setCell {R : Nat → Prop} {a w : World} (h : Mod R a w) {p : Addr} (hp : p.block < w.heap.size → R p.block ∨ a.heap.size ≤ p.block) (u : Value) : Mod R a (w.setCell p u) := by
  refine ⟨h.os, h.tape, h.output, by have := h.size; simpa [World.setCell] using this, fun k hk hr => ?_⟩
  by_cases e : k = p.block
  · subst e
    rcases hp (Nat.lt_of_lt_of_le hk h.size) with h' | h'
    · exact (hr h').elim
    · omega
  · rw [Below.heap_setCell _ _ _ _ e]; exact h.block k hk hr
theorem Mod.setAt {g : Nat} {a w : World} (h : Mod (fun k => k = g) a w) (j : Nat) (s : Option Nat) (u : Value) : Mod (fun k => k = g) a (w.setCell ⟨g, j, s⟩ u) :=
  Mod.setCell h (p := ⟨g, j, s⟩) (fun _ => .inl rfl) u
theorem Mod.setNew {R : Nat → Prop} {g : Nat} {a w : World} (h : Mod R a w) (hg : a.heap.size ≤ g) (j : Nat) (s : Option Nat) (u : Value) : Mod R a (w.setCell ⟨g, j, s⟩ u) :=
  Mod.setCell h (p := ⟨g, j, s⟩) (fun _ => .inr hg) u
theorem Mod.cell {R : Nat → Prop} {w w' : World} (h : Mod R w w') {a : Addr} (hb : a.block < w.heap.size) (hr : ¬ R a.block) : w'.cell? a = w.cell? a :=
  World.cell?_of_block (h.block a.block hb hr)

/-- The bytes of a slice that came in, as the walk reads them: all below block B. -/
def Bytes (B : Nat) (w : World) (a : Option Addr) (len : Nat) : Prop :=
  len = 0 ∨ ∃ b off, a = some ⟨b, off, none⟩ ∧ b < B ∧ ∀ i, i < len → ∃ n : Int, 0 ≤ n ∧ n ≤ 255 ∧ w.cell? ⟨b, off + i, none⟩ = some (.int .u8 n)

theorem Bytes.same {B : Nat} {w w' : World} {a : Option Addr} {len : Nat} (h : Bytes B w a len) (hs : ∀ k, k < B → w'.heap[k]? = w.heap[k]?) : Bytes B w' a len := by
  rcases h with h | ⟨b, off, rfl, hb, hc⟩
  · exact .inl h
  · refine .inr ⟨b, off, rfl, hb, fun i hi => ?_⟩
    obtain ⟨n, h0, h1, h2⟩ := hc i hi
    exact ⟨n, h0, h1, by rw [World.cell?_of_block (w := w) (hs b hb)]; exact h2⟩

/-- A cursor at block g: the drawn bytes, a place in them, a number. -/
def CurAt (B : Nat) (T : TypeId) (w : World) (g : Nat) (a : Option Addr) (len cap i : Nat) (h : Int) : Prop :=
  B ≤ g ∧ w.heap[g]? = some (.cells #[.slice a len cap, .int .i64 (i : Int), .int .i64 h] T (0, 0)) ∧ i ≤ len ∧ len ≤ 1048576 ∧ Bytes B w a len
def Cur (B : Nat) (T : TypeId) (w : World) (g : Nat) : Prop := ∃ a len cap i h, CurAt B T w g a len cap i h

theorem Cur.size {B T w g} (h : Cur B T w g) : g < w.heap.size := by
  obtain ⟨a, len, cap, i, h, _, hg, _⟩ := h
  exact (Array.getElem?_eq_some_iff.1 hg).1
theorem Cur.base {B T w g} (h : Cur B T w g) : B ≤ g := by
  obtain ⟨a, len, cap, i, h, hb, _⟩ := h
  exact hb
/-- A cursor outlives what turns neither it nor the bytes. -/
theorem Cur.same {B T w w' g} (h : Cur B T w g) (hg : w'.heap[g]? = w.heap[g]?) (hs : ∀ k, k < B → w'.heap[k]? = w.heap[k]?) : Cur B T w' g := by
  obtain ⟨a, len, cap, i, h, hb, hc, hi, hl, hy⟩ := h
  exact ⟨a, len, cap, i, h, hb, hg.trans hc, hi, hl, hy.same hs⟩

theorem hid {p : Prop} (h : p) : Hid p := h

theorem and255 (x : Int) : 0 ≤ bits .and .i64 x 255 ∧ bits .and .i64 x 255 ≤ 255 := by
  have h : (BitVec.ofInt IntKind.i64.bits x &&& BitVec.ofInt IntKind.i64.bits 255).toNat ≤ 255 := by
    have e : (BitVec.ofInt IntKind.i64.bits 255).toNat = 255 := by decide
    rw [BitVec.toNat_and, e]
    exact Nat.and_le_right
  unfold bits
  simp only []
  have e : ∀ n : Nat, n ≤ 255 → IntKind.i64.wrap (n : Int) = n := by
    intro n hn
    simp [IntKind.wrap, IntKind.bits, IntKind.signed]
    omega
  rw [e _ h]
  omega

/-- What a draw leaves: a number with a property; the cursor stands; nothing else has turned. -/
def Drew (B : Nat) (T : TypeId) (g : Nat) (w : World) (p : Int → Prop) (e : Ending) (w' : World) : Prop :=
  ∃ x : Int, p x ∧ e = .returned (.int .i64 x) ∧ Cur B T w' g ∧ Mod (fun k => k = g) w w'

/-- The same, out of its parts: the bytes are kept by the frame. -/
theorem drew_mk {B : Nat} {T : TypeId} {g : Nat} {w w' : World} {p : Int → Prop} {x : Int} (hp : p x)
    (hc : ∃ a len cap i h, B ≤ g ∧ w'.heap[g]? = some (.cells #[.slice a len cap, .int .i64 ((i : Nat) : Int), .int .i64 h] T (0, 0)) ∧ i ≤ len ∧ len ≤ 1048576 ∧ Bytes B w a len)
    (hm : Mod (fun k => k = g) w w') : Drew B T g w p (.returned (.int .i64 x)) w' := by
  obtain ⟨a, len, cap, i, h, hb, hg, hi, hl, hy⟩ := hc
  refine ⟨x, hp, rfl, ⟨a, len, cap, i, h, hb, hg, hi, hl, ?_⟩, hm⟩
  rcases hy with hy | ⟨b, off, rfl, hbB, hc⟩
  · exact .inl hy
  · refine .inr ⟨b, off, rfl, hbB, fun i hi => ?_⟩
    obtain ⟨n, h0, h1, h2⟩ := hc i hi
    refine ⟨n, h0, h1, ?_⟩
    rw [hm.cell (a := ⟨b, off + i, none⟩) (World.block_lt_of_cell? w _ h2) (by show ¬ b = g; omega)]
    exact h2

/-- A row of ints at block b from place o on. -/
def Ints (w : World) (b o : Nat) (l : List Int) : Prop := ∀ i, i < l.length → w.cell? ⟨b, o + i, none⟩ = some (.int .i64 (l.getD i 0))

theorem Ints.mod {R : Nat → Prop} {w w' : World} {b o : Nat} {l : List Int} (h : Ints w b o l) (hm : Mod R w w') (hr : ¬ R b) : Ints w' b o l := by
  intro i hi
  rw [hm.cell (a := ⟨b, o + i, none⟩) (World.block_lt_of_cell? w _ (h i hi)) hr]
  exact h i hi

/-- A slice of ints reads as the list l. -/
def IntsAt (w : World) (a : Option Addr) (l : List Int) : Prop := l = [] ∨ ∃ b o, a = some ⟨b, o, none⟩ ∧ Ints w b o l
/-- .. and its memory lies in blocks of R. -/
def InR (R : Nat → Prop) (a : Option Addr) : Prop := ∀ x, a = some x → R x.block
theorem IntsAt.mod {R : Nat → Prop} {w w' : World} {a : Option Addr} {l : List Int} (h : IntsAt w a l) (hm : Mod R w w') (hr : InR (fun k => ¬ R k) a) : IntsAt w' a l := by
  rcases h with h | ⟨b, o, rfl, h⟩
  · exact .inl h
  · exact .inr ⟨b, o, rfl, h.mod hm (hr _ rfl)⟩

theorem Ints.get {w : World} {b o : Nat} {l : List Int} (h : Ints w b o l) {k : Nat} (hk : k < l.length) : ∃ x, Hid (l[k]? = some x) ∧ w.cell? ⟨b, o + k, none⟩ = some (.int .i64 x) :=
  ⟨l[k], List.getElem?_eq_getElem hk, by have := h k hk; simpa [List.getD, hk] using this⟩
theorem IntsAt.get {w : World} {a : Option Addr} {l : List Int} (h : IntsAt w a l) {k : Nat} (hk : k < l.length) : ∃ b o x, a = some ⟨b, o, none⟩ ∧ Hid (l[k]? = some x) ∧ w.cell? ⟨b, o + k, none⟩ = some (.int .i64 x) := by
  rcases h with rfl | ⟨b, o, rfl, h⟩
  · simp at hk
  · obtain ⟨x, h1, h2⟩ := h.get hk
    exact ⟨b, o, x, rfl, h1, h2⟩
/-- The first k elements are the same. -/
def SameTo {α : Type} (l m : List α) (k : Nat) : Prop := l.take k = m.take k
theorem SameTo.succ {α : Type} {l m : List α} {k : Nat} {x : α} (h : SameTo l m k) (hl : Hid (l[k]? = some x)) (hm : Hid (m[k]? = some x)) : SameTo l m (k + 1) := by
  unfold SameTo at *
  rw [List.take_add_one, List.take_add_one, h, hl.out, hm.out]
theorem SameTo.all {α : Type} {l m : List α} {k : Nat} (h : SameTo l m k) (hl : l.length ≤ k) (hm : m.length ≤ k) : l = m := by
  unfold SameTo at h
  rwa [List.take_of_length_le hl, List.take_of_length_le hm] at h
theorem ne_at {α : Type} {l m : List α} {k : Nat} {x y : α} (hl : Hid (l[k]? = some x)) (hm : Hid (m[k]? = some y)) (h : x ≠ y) : l ≠ m := by
  rintro rfl
  have := hl.out.symm.trans hm.out
  simp at this
  exact h this

theorem ret_bool {a b : Bool} (h : a = b) : Ending.returned (.bool a) = .returned (.bool b) := by rw [h]
theorem Mod.then {R S : Nat → Prop} {a b c : World} (h : Mod R a b) (k : Mod S b c) (hs : ∀ i, i < a.heap.size → S i → R i) : Mod R a c :=
  ⟨k.os.trans h.os, k.tape.trans h.tape, k.output.trans h.output, Nat.le_trans h.size k.size, fun i hi hr => (k.block i (Nat.lt_of_lt_of_le hi h.size) fun h' => hr (hs i hi h')).trans (h.block i hi hr)⟩
theorem Mod.thenNone {R : Nat → Prop} {a b c : World} (h : Mod R a b) (k : Mod (fun _ => False) b c) : Mod R a c :=
  h.then k fun _ _ f => f.elim
theorem Cur.mod {B T w w' g} {R : Nat → Prop} (hc : Cur B T w g) (hm : Mod R w w') (hg : ¬ R g) (hb : ∀ k, k < B → ¬ R k) : Cur B T w' g := by
  have h1 := hc.size
  have h2 := hc.base
  exact hc.same (hm.block g h1 hg) fun k hk => hm.block k (by omega) (hb k hk)
theorem Cur.none {B T w w' g} (hc : Cur B T w g) (hm : Mod (fun _ => False) w w') : Cur B T w' g := hc.mod hm (fun h => h) fun _ _ h => h
theorem Cur.other {B T w w' g k} (hc : Cur B T w g) (hm : Mod (fun i => i = k) w w') (hk : k ≠ g) (hb : B ≤ k) : Cur B T w' g :=
  hc.mod hm (fun (e : g = k) => hk e.symm) fun i hi (e : i = k) => by omega
theorem Cur.alloc {B T w g} (hc : Cur B T w g) (o : Obj) : Cur B T (w.alloc o) g := hc.none ((Mod.refl _ w).alloc o)
/-- A block known whole. -/
theorem blk_cell {w : World} {b : Nat} {l : List Value} {T : TypeId} {fr : Nat × Nat} (h : w.heap[b]? = some (.cells l.toArray T fr)) {j : Nat} {v : Value} (hv : l[j]? = some v) : w.cell? ⟨b, j, none⟩ = some v := by
  simp [World.cell?, h, hv]
theorem blk_free {w : World} {b : Nat} {c : Array Value} {T : TypeId} (h : w.heap[b]? = some (.cells c T (0, 0))) (j : Nat) : w.frozen? ⟨b, j, none⟩ = false := by
  simp [World.frozen?, h]
theorem Mod.blk {R : Nat → Prop} {w w' : World} (h : Mod R w w') {b : Nat} {o : Obj} (hb : w.heap[b]? = some o) (hr : ¬ R b) : w'.heap[b]? = some o := by
  rw [h.block b (Array.getElem?_eq_some_iff.1 hb).1 hr]; exact hb

/-- A new cursor. -/
def NewCur (B : Nat) (T : TypeId) (w : World) (e : Ending) (w' : World) : Prop :=
  ∃ g, w.heap.size ≤ g ∧ e = .returned (.pointer (some ⟨g, 0, none⟩)) ∧ Cur B T w' g ∧ Mod (fun _ => False) w w'

theorem Mod.keep {w w' : World} (h : Mod (fun _ => False) w w') (a : Addr) (v : Value) (hc : w.cell? a = some v) : w'.cell? a = some v := by
  rw [h.cell (World.block_lt_of_cell? w a hc) (fun f => f)]; exact hc

end Go.Proofs.YtkkjjhooamlljaaGreatDoor
namespace Go.Proofs.YtkkjjhooamlljaaGreatDoor
open Go.RowKit

/-- The rows of a slice: element i lies at place o + i * sz of block b. -/
def RowsAt (sz : Nat) (R : Nat → Prop) (w : World) (a : Option Addr) (rows : List (List Value)) : Prop :=
  rows = [] ∨ ∃ b o, a = some ⟨b, o, none⟩ ∧ R b ∧ b < w.heap.size ∧ ∀ (i : Nat) (r : List Value), rows[i]? = some r → r.length = sz ∧ ∀ (j : Nat) (v : Value), r[j]? = some v → w.cell? ⟨b, o + i * sz + j, none⟩ = some v

theorem RowsAt.nil {sz R w a} : RowsAt sz R w a [] := .inl rfl
theorem RowsAt.mod {sz : Nat} {R S : Nat → Prop} {w w' : World} {a : Option Addr} {rows : List (List Value)} (h : RowsAt sz R w a rows) (hm : Mod S w w') (hs : ∀ k, R k → ¬ S k) : RowsAt sz R w' a rows := by
  rcases h with h | ⟨b, o, rfl, hR, hb, h⟩
  · exact .inl h
  · refine .inr ⟨b, o, rfl, hR, Nat.lt_of_lt_of_le hb hm.size, fun i r hr => ⟨(h i r hr).1, fun j v hv => ?_⟩⟩
    rw [hm.cell (a := ⟨b, o + i * sz + j, none⟩) hb (hs b hR)]
    exact (h i r hr).2 j v hv
theorem RowsAt.keep {sz : Nat} {R : Nat → Prop} {w w' : World} {a : Option Addr} {rows : List (List Value)} (h : RowsAt sz R w a rows) (hm : Mod (fun _ => False) w w') : RowsAt sz R w' a rows := h.mod hm fun _ _ f => f
theorem RowsAt.drewN {sz R w a rows} (h : RowsAt sz R w a rows) (n : Nat) : RowsAt sz R (w.drewN n) a rows := h.keep ((Mod.refl _ w).drewN n)
theorem RowsAt.weaken {sz : Nat} {R S : Nat → Prop} {w : World} {a : Option Addr} {rows : List (List Value)} (h : RowsAt sz R w a rows) (hs : ∀ k, k < w.heap.size → R k → S k) : RowsAt sz S w a rows := by
  rcases h with h | ⟨b, o, rfl, hR, hb, h⟩
  · exact .inl h
  · exact .inr ⟨b, o, rfl, hs b hb hR, hb, h⟩
theorem RowsAt.get {sz : Nat} {R : Nat → Prop} {w : World} {a : Option Addr} {rows : List (List Value)} (h : RowsAt sz R w a rows) {k : Nat} {r : List Value} (hk : rows[k]? = some r) :
    ∃ b o, a = some ⟨b, o, none⟩ ∧ R b ∧ b < w.heap.size ∧ r.length = sz ∧ ∀ j v, r[j]? = some v → w.cell? ⟨b, o + k * sz + j, none⟩ = some v := by
  rcases h with rfl | ⟨b, o, rfl, hR, hb, h⟩
  · simp at hk
  · exact ⟨b, o, rfl, hR, hb, h k r hk⟩

/-- A slice reads as the list l: each row stands for its element. -/
def SliceAt {α : Type} (rep : World → List Value → α → Prop) (sz : Nat) (R : Nat → Prop) (w : World) (a : Option Addr) (l : List α) : Prop :=
  ∃ rows : List (List Value), RowsAt sz R w a rows ∧ rows.length = l.length ∧ ∀ (i : Nat) (r : List Value) (x : α), rows[i]? = some r → l[i]? = some x → rep w r x

theorem SliceAt.nil {α : Type} {rep : World → List Value → α → Prop} {sz R w a} : SliceAt rep sz R w a ([] : List α) := ⟨[], .inl rfl, rfl, fun _ _ _ h => by simp at h⟩
theorem SliceAt.mod {α : Type} {rep : World → List Value → α → Prop} {sz : Nat} {R S : Nat → Prop} {w w' : World} {a : Option Addr} {l : List α} (h : SliceAt rep sz R w a l) (hm : Mod S w w') (hs : ∀ k, R k → ¬ S k)
    (hr : ∀ r x, rep w r x → rep w' r x) : SliceAt rep sz R w' a l := by
  obtain ⟨rows, h1, h2, h3⟩ := h
  exact ⟨rows, h1.mod hm hs, h2, fun i r x a b => hr _ _ (h3 i r x a b)⟩
theorem SliceAt.get {α : Type} {rep : World → List Value → α → Prop} {sz : Nat} {R : Nat → Prop} {w : World} {a : Option Addr} {l : List α} (h : SliceAt rep sz R w a l) {k : Nat} (hk : k < l.length) :
    ∃ b o x r, a = some ⟨b, o, none⟩ ∧ R b ∧ b < w.heap.size ∧ Hid (l[k]? = some x) ∧ rep w r x ∧ r.length = sz ∧ ∀ j v, r[j]? = some v → w.cell? ⟨b, o + k * sz + j, none⟩ = some v := by
  obtain ⟨rows, h1, h2, h3⟩ := h
  have e1 := List.getElem?_eq_getElem hk
  have e2 := List.getElem?_eq_getElem (l := rows) (i := k) (by omega)
  obtain ⟨b, o, rfl, hR, hb, hl, hc⟩ := h1.get e2
  exact ⟨b, o, _, _, rfl, hR, hb, e1, h3 _ _ _ e2 e1, hl, hc⟩

/-- Flat structs: the row is told by the element. -/
def Flat {α : Type} (cells : α → List Value) (_w : World) (r : List Value) (x : α) : Prop := r = cells x

theorem flatten_at {rows : List (List Value)} {sz : Nat} (h : ∀ r ∈ rows, r.length = sz) {i : Nat} {r : List Value} (hi : rows[i]? = some r) {j : Nat} {v : Value} (hj : r[j]? = some v) :
    rows.flatten[i * sz + j]? = some v := by
  induction rows generalizing i with
  | nil => simp at hi
  | cons r0 rest ih =>
    have h0 : r0.length = sz := h r0 (by simp)
    cases i with
    | zero =>
      simp at hi
      subst hi
      have : j < r0.length := (List.getElem?_eq_some_iff.1 hj).1
      simp [List.getElem?_append_left this, hj]
    | succ i =>
      simp at hi
      have e : (i + 1) * sz + j = r0.length + (i * sz + j) := by rw [h0, Nat.add_mul]; omega
      rw [List.flatten_cons, e, List.getElem?_append_right (by omega), Nat.add_sub_cancel_left]
      exact ih (fun r hr => h r (by simp [hr])) hi
theorem flatten_length {rows : List (List Value)} {sz : Nat} (h : ∀ r ∈ rows, r.length = sz) : rows.flatten.length = rows.length * sz := by
  induction rows with
  | nil => simp
  | cons r rest ih => rw [List.flatten_cons, List.length_append, h r (by simp), ih (fun r hr => h r (by simp [hr])), List.length_cons, Nat.add_mul]; omega

/-- What a call owns (the kit's word) reads as rows. -/
theorem rowsAt_of_own {w : World} {base e sz n c : Nat} {a : Option Addr} {rows : List (List Value)} (h : w.ownsRow base e sz (.slice a n c) n rows.flatten) (hr : ∀ r ∈ rows, r.length = sz) (hsz : sz ≠ 0) :
    RowsAt sz (fun k => base ≤ k) w a rows := by
  rcases h.2 with ⟨hv, hn⟩ | ⟨g, cap, cur, hv, hb, hh, hnc, _, hcs, ht⟩
  · have h1 := h.1
    have hl := flatten_length hr
    by_cases hz : rows = []
    · exact .inl hz
    · have : rows.length * sz = 0 := by rw [← hl, h1, hn, Nat.zero_mul]
      have : rows.length = 0 := by
        rcases Nat.mul_eq_zero.1 this with h | h
        · exact h
        · exact (hsz h).elim
      exact (hz (List.eq_nil_of_length_eq_zero this)).elim
  · injection hv with ha _ _
    subst ha
    refine .inr ⟨g, 0, rfl, hb, (Array.getElem?_eq_some_iff.1 hh).1, fun i r hi => ⟨hr r (List.mem_of_getElem? hi), fun j v hj => ?_⟩⟩
    have e1 := flatten_at hr hi hj
    rw [← ht, List.getElem?_take] at e1
    split at e1
    · rw [Nat.zero_add, cell_of_row w g _ cur e (0, 0) hh]
      simpa using e1
    · cases e1

/-- A block of n cells of the call's own, filled up to xs. -/
def Filled (g : Nat) (e : TypeId) (n : Nat) (w : World) (xs : List Value) : Prop :=
  ∃ cur, w.heap[g]? = some (.cells cur e (0, 0)) ∧ cur.size = n ∧ cur.toList.take xs.length = xs
theorem Filled.size {g e n w xs} (h : Filled g e n w xs) : g < w.heap.size := by
  obtain ⟨cur, h1, _⟩ := h
  exact (Array.getElem?_eq_some_iff.1 h1).1
theorem Filled.made (w : World) (e n : Nat) (cur : Array Value) (h : cur.size = n) : Filled w.heap.size e n (w.alloc (.cells cur e)) [] := ⟨cur, heap_alloc_new w _, h, by simp⟩
theorem Filled.mod {g e n : Nat} {w w' : World} {xs : List Value} {R : Nat → Prop} (h : Filled g e n w xs) (hm : Mod R w w') (hr : ¬ R g) : Filled g e n w' xs := by
  obtain ⟨cur, h1, h2⟩ := h
  exact ⟨cur, hm.blk h1 hr, h2⟩
theorem Filled.cell {g e n : Nat} {w : World} {xs : List Value} (h : Filled g e n w xs) {off : Nat} (hn : off < n) : ∃ v, w.cell? ⟨g, off, none⟩ = some v := by
  obtain ⟨cur, h1, h2, _⟩ := h
  rw [cell_of_row w g off cur e (0, 0) h1]
  exact ⟨_, Array.getElem?_eq_getElem (by omega)⟩
theorem Filled.read {g e n : Nat} {w : World} {xs : List Value} (h : Filled g e n w xs) {i : Nat} {v : Value} (hv : xs[i]? = some v) : w.cell? ⟨g, i, none⟩ = some v := by
  obtain ⟨cur, h1, h2, h3⟩ := h
  rw [cell_of_row w g i cur e (0, 0) h1]
  rw [← h3, List.getElem?_take] at hv
  split at hv
  · simpa using hv
  · cases hv
theorem Filled.full {g e n : Nat} {w : World} {xs : List Value} (h : Filled g e n w xs) (hl : xs.length = n) : w.heap[g]? = some (.cells xs.toArray e (0, 0)) := by
  obtain ⟨cur, h1, h2, h3⟩ := h
  rw [h1]
  have : cur.toList = xs := by rw [← h3, List.take_of_length_le (by simp; omega)]
  rw [← this]

/-- A new slice that owns its rows: what a copy hands back. -/
def NewRows (e : TypeId) (w : World) (n : Nat) (xs : List Value) (en : Ending) (w' : World) : Prop :=
  ∃ g, en = .returned (.slice (some ⟨g, 0, none⟩) n n) ∧ w.heap.size ≤ g ∧ w'.heap[g]? = some (.cells xs.toArray e (0, 0)) ∧ Mod (fun _ => False) w w'

/-- A block whose cells are the rows' reads as rows. -/
theorem rowsAt_of_blk {w : World} {g e sz : Nat} {rows : List (List Value)} {R : Nat → Prop} (h : w.heap[g]? = some (.cells rows.flatten.toArray e (0, 0))) (hr : ∀ r ∈ rows, r.length = sz) (hR : R g) : RowsAt sz R w (some ⟨g, 0, none⟩) rows :=
  .inr ⟨g, 0, rfl, hR, (Array.getElem?_eq_some_iff.1 h).1, fun i r hi => ⟨hr r (List.mem_of_getElem? hi), fun j v hj => by
    rw [Nat.zero_add]
    exact blk_cell h (flatten_at hr hi hj)⟩⟩

theorem flat_length {α : Type} {cells : α → List Value} {sz : Nat} (h : ∀ x, (cells x).length = sz) (l : List α) : (l.map cells).flatten.length = l.length * sz := by
  rw [flatten_length (sz := sz) (by intro r hr; obtain ⟨x, _, rfl⟩ := List.mem_map.1 hr; exact h x), List.length_map]
/-- A new slice of the call's own: what an append loop, or a copy, hands back. -/
def NewSlice (e sz : Nat) (w : World) (n : Nat) (xs : List Value) (en : Ending) (w' : World) : Prop :=
  ∃ a c, en = .returned (.slice a n c) ∧ w'.ownsRow w.heap.size e sz (.slice a n c) n xs ∧ Mod (fun _ => False) w w'
theorem NewRows.slice {e sz : Nat} {w w' : World} {n : Nat} {xs : List Value} {en : Ending} (h : NewRows e w n xs en w') (hl : xs.length = n * sz) (hn : n ≤ maxLen) : NewSlice e sz w n xs en w' := by
  obtain ⟨g, he, hg, hb, hm⟩ := h
  exact ⟨_, _, he, ⟨hl, .inr ⟨g, n, xs.toArray, rfl, hg, hb, Nat.le_refl _, hn, by simpa using hl, by simp [← hl]⟩⟩, hm⟩
/-- An owned row can be marked. -/
theorem own_filled {w : World} {base e sz n c : Nat} {a : Option Addr} {xs : List Value} (h : w.ownsRow base e sz (.slice a n c) n xs) : n = 0 ∨ ∃ g N, a = some ⟨g, 0, none⟩ ∧ base ≤ g ∧ n * sz ≤ N ∧ Filled g e N w [] := by
  rcases h.2 with ⟨_, hn⟩ | ⟨g, cap, cur, hv, hb, hh, hnc, _, hcs, _⟩
  · exact .inl hn
  · injection hv with ha _ _
    exact .inr ⟨g, cap * sz, ha, hb, Nat.mul_le_mul_right _ hnc, cur, hh, hcs, by simp⟩
theorem own_mod {w w' : World} {base e sz n c : Nat} {a : Option Addr} {xs : List Value} {R : Nat → Prop} (h : w.ownsRow base e sz (.slice a n c) n xs) (hm : Mod R w w') (hr : ∀ k, base ≤ k → ¬ R k) : w'.ownsRow base e sz (.slice a n c) n xs := by
  refine ⟨h.1, ?_⟩
  rcases h.2 with h2 | ⟨g, cap, cur, hv, hb, hh, hrest⟩
  · exact .inl h2
  · exact .inr ⟨g, cap, cur, hv, hb, hm.blk hh (hr g hb), hrest⟩
theorem own_slice {α : Type} {cells : α → List Value} {w : World} {base e sz n c : Nat} {a : Option Addr} {l : List α} (h : w.ownsRow base e sz (.slice a n c) n (l.map cells).flatten) (hc : ∀ x, (cells x).length = sz) (hsz : sz ≠ 0) :
    SliceAt (Flat cells) sz (fun k => base ≤ k) w a l :=
  ⟨l.map cells, rowsAt_of_own h (by intro r hr; obtain ⟨x, _, rfl⟩ := List.mem_map.1 hr; exact hc x) hsz, by simp, by
    intro i r x h1 h2
    rw [List.getElem?_map, h2] at h1
    simpa [Flat] using h1.symm⟩
/-- Behind an append: what is below the base is as it was. -/
theorem Mod.grownBy {R : Nat → Prop} {w w' : World} {row : Option Nat} {W : World} (h : Mod R W w) (hg : w.grownBy w' row) (hr : ∀ k, row = some k → W.heap.size ≤ k) : Mod R W w' :=
  ⟨hg.os.trans h.os, hg.tape.trans h.tape, hg.output.trans h.output, Nat.le_trans h.size hg.size, fun k hk hn => (hg.block k (Nat.lt_of_lt_of_le hk h.size) (fun e => by have := hr k e.symm; omega)).trans (h.block k hk hn)⟩

theorem ones_of {vals : List Value} (h : vals.all Value.oneCell' = true) : ∀ u ∈ vals, u.oneCell' = true := List.all_eq_true.1 h
/-- Behind an append: the value's form. -/
theorem own_form {w : World} {base e sz n : Nat} {v : Value} {xs : List Value} (h : w.ownsRow base e sz v n xs) : ∃ a c, v = .slice a n c := by
  rcases h.2 with ⟨hv, hn⟩ | ⟨g, cap, cur, hv, _⟩
  · exact ⟨_, _, by rw [hv, hn]⟩
  · exact ⟨_, _, hv⟩
/-- A slice's memory lies below the heap's end: so told, it outlives what is written later. -/
theorem SliceAt.low {α : Type} {rep : World → List Value → α → Prop} {sz : Nat} {R : Nat → Prop} {w : World} {a : Option Addr} {l : List α} (h : SliceAt rep sz R w a l) : SliceAt rep sz (fun k => k < w.heap.size) w a l := by
  obtain ⟨rows, h1, h2⟩ := h
  exact ⟨rows, h1.weaken fun _ hk _ => hk, h2⟩
theorem SliceAt.flatMod {α : Type} {cells : α → List Value} {sz : Nat} {R S : Nat → Prop} {w w' : World} {a : Option Addr} {l : List α} (h : SliceAt (Flat cells) sz R w a l) (hm : Mod S w w') (hs : ∀ k, R k → ¬ S k) : SliceAt (Flat cells) sz R w' a l :=
  h.mod hm hs fun _ _ h => h
theorem SliceAt.flatKeep {α : Type} {cells : α → List Value} {sz : Nat} {R : Nat → Prop} {w w' : World} {a : Option Addr} {l : List α} (h : SliceAt (Flat cells) sz R w a l) (hm : Mod (fun _ => False) w w') : SliceAt (Flat cells) sz R w' a l :=
  h.flatMod hm fun _ _ f => f
/-- What a copy hands back, told as a slice and as a block to be marked. -/
theorem NewRows.use {α : Type} {cells : α → List Value} {e sz : Nat} {w w' : World} {l : List α} {en : Ending} (h : NewRows e w l.length (l.map cells).flatten en w') (hc : ∀ x, (cells x).length = sz) :
    ∃ g, en = .returned (.slice (some ⟨g, 0, none⟩) l.length l.length) ∧ w.heap.size ≤ g ∧ g < w'.heap.size ∧ SliceAt (Flat cells) sz (fun k => k = g) w' (some ⟨g, 0, none⟩) l ∧ Filled g e (l.length * sz) w' [] ∧ Mod (fun _ => False) w w' := by
  obtain ⟨g, he, hg, hb, hm⟩ := h
  refine ⟨g, he, hg, (Array.getElem?_eq_some_iff.1 hb).1, ⟨l.map cells, rowsAt_of_blk hb (by intro r hr; obtain ⟨x, _, rfl⟩ := List.mem_map.1 hr; exact hc x) rfl, by simp, ?_⟩, ⟨_, hb, by simpa using flat_length hc l, by simp⟩, hm⟩
  intro i r x h1 h2
  rw [List.getElem?_map, h2] at h1
  simpa [Flat] using h1.symm
/-- What an append loop hands back, likewise. Where it is empty any later block serves as the one that is marked. -/
theorem NewSlice.use {α : Type} {cells : α → List Value} {e sz : Nat} {w w' : World} {l : List α} {en : Ending} (h : NewSlice e sz w l.length (l.map cells).flatten en w') (hc : ∀ x, (cells x).length = sz) (hsz : sz ≠ 0) :
    ∃ a c g N, en = .returned (.slice a l.length c) ∧ w.heap.size ≤ g ∧ SliceAt (Flat cells) sz (fun k => w.heap.size ≤ k) w' a l ∧ (l.length = 0 ∨ a = some ⟨g, 0, none⟩ ∧ l.length * sz ≤ N ∧ Filled g e N w' []) ∧ Mod (fun _ => False) w w' := by
  obtain ⟨a, c, he, ho, hm⟩ := h
  rcases own_filled ho with h0 | ⟨g, N, h1, h2, h3, h4⟩
  · exact ⟨a, c, w.heap.size, 0, he, Nat.le_refl _, own_slice ho hc hsz, .inl h0, hm⟩
  · exact ⟨a, c, g, N, he, h2, own_slice ho hc hsz, .inr ⟨h1, h3, h4⟩, hm⟩

theorem Mod.appendedAt {R : Nat → Prop} {W w w' : World} {base e sz n : Nat} {v : Value} {xs : List Value} (h : Mod R W w) (ho : w.ownsRow base e sz v n xs) (hb : W.heap.size ≤ base) (hg : w.grownBy w' v.ownBlock) : Mod R W w' :=
  h.grownBy hg fun k hk => by have := ho.lt k hk; omega
theorem Cur.appendedAt {B T : Nat} {w w' : World} {g base e sz n : Nat} {v : Value} {xs : List Value} (hc : Cur B T w g) (ho : w.ownsRow base e sz v n xs) (hb : g < base) (hg : w.grownBy w' v.ownBlock) : Cur B T w' g := by
  have h1 := hc.size
  have h2 := hc.base
  have hne : ∀ k, k ≤ g → some k ≠ v.ownBlock := fun k hk e => by have := ho.lt k e.symm; omega
  exact hc.same (hg.block g h1 (hne g (Nat.le_refl _))) fun k hk => hg.block k (by omega) (hne k (by omega))
/-- An owned row that is not empty: its block, its cells, and that they may be written. -/
theorem own_parts {w : World} {base e sz n c : Nat} {a : Option Addr} {xs : List Value} (h : w.ownsRow base e sz (.slice a n c) n xs) : n = 0 ∨ ∃ b, a = some ⟨b, 0, none⟩ ∧ base ≤ b ∧ b < w.heap.size ∧ (∀ off v, xs[off]? = some v → w.cell? ⟨b, off, none⟩ = some v) ∧ (∀ off, w.frozen? ⟨b, off, none⟩ = false) ∧
    ∀ off v, off < xs.length → (w.setCell ⟨b, off, none⟩ v).ownsRow base e sz (.slice a n c) n (xs.set off v) := by
  rcases h.2 with ⟨_, hn⟩ | ⟨g, cap, cur, hv, hb, hh, hnc, hcm, hcs, ht⟩
  · exact .inl hn
  · injection hv with ha h1 h2
    subst ha h2
    refine .inr ⟨g, rfl, hb, (Array.getElem?_eq_some_iff.1 hh).1, fun off v hv => ?_, fun off => by simp [World.frozen?, hh], fun off v ho => ⟨by rw [List.length_set]; exact h.1, .inr ⟨g, _, cur.setIfInBounds off v, rfl, hb, ?_, hnc, hcm, by simpa using hcs, ?_⟩⟩⟩
    · rw [← ht, List.getElem?_take] at hv
      split at hv
      · simp [World.cell?, hh]; simpa using hv
      · cases hv
    · simp [World.setCell, Array.getElem?_modify, hh]
    · rw [Array.toList_setIfInBounds, List.take_set, ht]
end Go.Proofs.YtkkjjhooamlljaaGreatDoor
namespace Go.Proofs.YtkkjjhooamlljaaGreatDoor
open Go.RowKit

/-- The n cells from place o of block b on. -/
def rowOf (w : World) (b o n : Nat) : Array Value :=
  match w.heap[b]? with
  | some (.cells cs _ _) => cs.extract o (o + n)
  | _ => #[]
/-- They are there. -/
def hasRow (w : World) (b o n : Nat) : Bool :=
  match w.heap[b]? with
  | some (.cells cs _ _) => decide (o + n ≤ cs.size)
  | _ => false
/-- The block may be written. -/
def openRow (w : World) (b : Nat) : Bool :=
  match w.heap[b]? with
  | some (.cells _ _ fr) => fr == (0, 0)
  | _ => false

section
variable {w : World}
@[simp] theorem rowOf_drew (b o n : Nat) : rowOf w.drew b o n = rowOf w b o n := rfl
@[simp] theorem rowOf_drewN (k b o n : Nat) : rowOf (w.drewN k) b o n = rowOf w b o n := rfl
@[simp] theorem hasRow_drew (b o n : Nat) : hasRow w.drew b o n = hasRow w b o n := rfl
@[simp] theorem hasRow_drewN (k b o n : Nat) : hasRow (w.drewN k) b o n = hasRow w b o n := rfl
@[simp] theorem openRow_drew (b : Nat) : openRow w.drew b = openRow w b := rfl
@[simp] theorem openRow_drewN (k b : Nat) : openRow (w.drewN k) b = openRow w b := rfl

theorem rowOf_of {w w' : World} {b : Nat} (h : w'.heap[b]? = w.heap[b]?) (o n : Nat) : rowOf w' b o n = rowOf w b o n := by unfold rowOf; rw [h]
theorem hasRow_of {w w' : World} {b : Nat} (h : w'.heap[b]? = w.heap[b]?) (o n : Nat) : hasRow w' b o n = hasRow w b o n := by unfold hasRow; rw [h]
theorem openRow_of {w w' : World} {b : Nat} (h : w'.heap[b]? = w.heap[b]?) : openRow w' b = openRow w b := by unfold openRow; rw [h]

@[go_sem] theorem rowOf_alloc_at (c : Array Value) (t : TypeId) (b o n : Nat) (h : b = w.heap.size) : rowOf (w.alloc (.cells c t)) b o n = c.extract o (o + n) := by
  subst h; unfold rowOf; rw [heap_alloc_new]
@[go_sem] theorem hasRow_alloc_at (c : Array Value) (t : TypeId) (b o n : Nat) (h : b = w.heap.size) : hasRow (w.alloc (.cells c t)) b o n = decide (o + n ≤ c.size) := by
  subst h; unfold hasRow; rw [heap_alloc_new]
@[go_sem] theorem openRow_alloc_at (c : Array Value) (t : TypeId) (b : Nat) (h : b = w.heap.size) : openRow (w.alloc (.cells c t)) b = true := by
  subst h; unfold openRow; rw [heap_alloc_new]; rfl
@[go_sem] theorem rowOf_alloc_past (ob : Obj) (b o n : Nat) (h : b < w.heap.size) : rowOf (w.alloc ob) b o n = rowOf w b o n := rowOf_of (heap_alloc_old _ _ h) o n
@[go_sem] theorem hasRow_alloc_past (ob : Obj) (b o n : Nat) (h : b < w.heap.size) : hasRow (w.alloc ob) b o n = hasRow w b o n := hasRow_of (heap_alloc_old _ _ h) o n
@[go_sem] theorem openRow_alloc_past (ob : Obj) (b : Nat) (h : b < w.heap.size) : openRow (w.alloc ob) b = openRow w b := openRow_of (heap_alloc_old _ _ h)
@[go_sem] theorem rowOf_setCell (b o n b' j : Nat) (s : Option Nat) (v : Value) (h : b ≠ b') : rowOf (w.setCell ⟨b', j, s⟩ v) b o n = rowOf w b o n := rowOf_of (Below.heap_setCell _ _ _ _ h) o n
@[go_sem] theorem hasRow_setCell (b o n b' j : Nat) (s : Option Nat) (v : Value) : hasRow (w.setCell ⟨b', j, s⟩ v) b o n = hasRow w b o n := by
  by_cases h : b = b'
  · subst h
    unfold hasRow
    cases hb : w.heap[b]? with
    | none => simp [World.setCell, Array.getElem?_modify, hb]
    | some ob => cases ob <;> cases s <;> simp [World.setCell, Array.getElem?_modify, hb]
  · exact hasRow_of (Below.heap_setCell _ _ _ _ h) o n
@[go_sem] theorem openRow_setCell (b b' j : Nat) (s : Option Nat) (v : Value) : openRow (w.setCell ⟨b', j, s⟩ v) b = openRow w b := by
  by_cases h : b = b'
  · subst h
    unfold openRow
    cases hb : w.heap[b]? with
    | none => simp [World.setCell, Array.getElem?_modify, hb]
    | some ob => cases ob <;> simp [World.setCell, Array.getElem?_modify, hb]
  · exact openRow_of (Below.heap_setCell _ _ _ _ h)
/-- A cell of a row, written. -/
@[go_sem] theorem rowOf_setCell_in (b o n j : Nat) (v : Value) (h1 : o ≤ j) (h2 : j < o + n) : rowOf (w.setCell ⟨b, j, none⟩ v) b o n = (rowOf w b o n).setIfInBounds (j - o) v := by
  unfold rowOf
  cases hb : w.heap[b]? with
  | none => simp [World.setCell, Array.getElem?_modify, hb]
  | some ob =>
    cases ob with
    | cells cs t fr =>
      simp only [World.setCell, Array.getElem?_modify, hb]
      apply Array.ext_getElem?
      intro i
      simp only [if_true, Option.map_some, Option.isSome_none, Bool.false_eq_true, if_false, Array.getElem?_extract, Array.getElem?_setIfInBounds, Array.size_extract, Array.size_setIfInBounds]
      repeat' split
      all_goals first | rfl | omega | (exfalso; omega) | (rw [Array.getElem?_eq_none (by omega)]) | (symm; rw [Array.getElem?_eq_none (by omega)])
    | _ => simp [World.setCell, Array.getElem?_modify, hb]

theorem cell_of_rowOf {b o n : Nat} (h : hasRow w b o n = true) {j : Nat} (hj : j < n) : w.cell? ⟨b, o + j, none⟩ = (rowOf w b o n)[j]? := by
  unfold hasRow at h; unfold rowOf World.cell?
  cases hb : w.heap[b]? with
  | none => simp [hb] at h
  | some ob =>
    cases ob with
    | cells cs t fr =>
      simp only [hb, decide_eq_true_eq] at h
      simp only [Option.isSome_none, Bool.false_eq_true, if_false, Array.getElem?_extract]
      rw [if_pos (by omega)]
    | _ => simp [hb] at h
theorem rowOf_range {b o n : Nat} (h : hasRow w b o n = true) : w.rangeAt b o (rowOf w b o n).toList ∧ (rowOf w b o n).size = n := by
  have hs : (rowOf w b o n).size = n := by
    unfold hasRow at h; unfold rowOf
    cases hb : w.heap[b]? with
    | none => simp [hb] at h
    | some ob => cases ob <;> simp [hb] at h ⊢; omega
  refine ⟨fun j v hj => ?_, hs⟩
  have hjn : j < n := by
    have := (List.getElem?_eq_some_iff.1 hj).1
    simpa [hs] using this
  rw [cell_of_rowOf h hjn]
  simpa using hj
/-- A row that is told cell by cell is told as one. -/
theorem rowOf_told {b o : Nat} {r : List Value} (hn : 0 < r.length) (h : ∀ j v, r[j]? = some v → w.cell? ⟨b, o + j, none⟩ = some v) : hasRow w b o r.length = true ∧ rowOf w b o r.length = r.toArray := by
  have hl := h (r.length - 1) _ (List.getElem?_eq_getElem (by omega))
  unfold World.cell? at hl
  cases hb : w.heap[b]? with
  | none => simp [hb] at hl
  | some ob =>
    cases ob with
    | cells cs t fr =>
      have hsz : o + r.length ≤ cs.size := by
        simp only [hb] at hl
        have : o + (r.length - 1) < cs.size := by
          by_cases hlt : o + (r.length - 1) < cs.size
          · exact hlt
          · simp [Array.getElem?_eq_none (Nat.le_of_not_lt hlt)] at hl
        omega
      refine ⟨by simp [hasRow, hb, hsz], ?_⟩
      apply Array.ext_getElem?
      intro j
      unfold rowOf
      rw [hb]
      simp only [Array.getElem?_extract, List.getElem?_toArray]
      by_cases hj : j < r.length
      · have e1 := List.getElem?_eq_getElem hj
        have h1 := h j _ e1
        simp only [World.cell?, hb] at h1
        rw [if_pos (by omega), e1]
        simpa using h1
      · rw [if_neg (by omega), List.getElem?_eq_none (by omega)]
    | _ => simp [hb] at hl

theorem run_load_row {P : Program} {ty : TypeId} {d : TypeDesc} {n : Nat} (hu : P.underlying ty = some d) (hd : d.isRow = true) (hi : (P.info? ty).map (·.size) = some n) {b o : Nat} (h : hasRow w b o n = true) :
    (Instr.loadAt ty (.pointer (some ⟨b, o, none⟩))).run P w = .ok (.agg (rowOf w b o n)) w := by
  obtain ⟨h1, h2⟩ := rowOf_range h
  rw [run_loadAt_mid w b o ty _ d h1 hu hd (by rw [hi]; simp [h2])]

theorem run_store_row {P : Program} {ty : TypeId} {n : Nat} (hi : (P.info? ty).map (·.size) = some n) {b o : Nat} {S : Array Value} (h : hasRow w b o n = true) (hz : openRow w b = true) (hs : S.size = n) (h1 : S.all (·.oneCell') = true) :
    (Instr.storeAt ty (.pointer (some ⟨b, o, none⟩)) (.agg S)).run P w = .ok () (w.setCells b o S.toList) := by
  refine run_storeAt_mid w b o ty S (fun j hj => ?_) (by rw [hi, hs]) h1
  rw [hs] at hj
  obtain ⟨h2, h3⟩ := rowOf_range h
  refine ⟨?_, ?_⟩
  · rw [cell_of_rowOf h hj]
    simp [Array.getElem?_eq_getElem (show j < (rowOf w b o n).size by omega)]
  · unfold openRow at hz
    unfold World.frozen?
    cases hb : w.heap[b]? with
    | none => simp [hb] at hz
    | some ob => cases ob <;> simp [hb] at hz ⊢; simp [hz]
end

/-- An array with a list written over it from a place on. -/
def spl (c : Array Value) : Nat → List Value → Array Value
  | _, [] => c
  | o, v :: r => spl (c.setIfInBounds o v) (o + 1) r
@[simp] theorem spl_nil (c : Array Value) (o : Nat) : spl c o [] = c := rfl
@[simp] theorem spl_cons (c : Array Value) (o : Nat) (v : Value) (r : List Value) : spl c o (v :: r) = spl (c.setIfInBounds o v) (o + 1) r := rfl
@[simp] theorem spl_size (c : Array Value) (o : Nat) (r : List Value) : (spl c o r).size = c.size := by
  induction r generalizing c o with
  | nil => rfl
  | cons v r ih => simp [ih]

theorem setCells_heap (b : Nat) : ∀ (r : List Value) (o : Nat) (w : World) (c : Array Value) (t : TypeId) (fr : Nat × Nat), w.heap[b]? = some (.cells c t fr) → (w.setCells b o r).heap[b]? = some (.cells (spl c o r) t fr)
  | [], _, _, _, _, _, h => h
  | v :: r, o, w, c, t, fr, h => by
    refine setCells_heap b r (o + 1) _ _ t fr ?_
    simp [World.setCell, Array.getElem?_modify, h]
theorem setCells_far {g : Nat} (b : Nat) (h : g ≠ b) : ∀ (r : List Value) (o : Nat) (w : World), (w.setCells b o r).heap[g]? = w.heap[g]?
  | [], _, _ => rfl
  | v :: r, o, w => (setCells_far b h r (o + 1) _).trans (Below.heap_setCell _ _ _ _ h)
@[simp] theorem setCells_size (b : Nat) : ∀ (r : List Value) (o : Nat) (w : World), (w.setCells b o r).heap.size = w.heap.size
  | [], _, _ => rfl
  | v :: r, o, w => (setCells_size b r (o + 1) _).trans (World.size_setCell _ _ _)

section
variable {w : World}
@[go_sem] theorem setCells_alloc_at (c : Array Value) (t : TypeId) (n o : Nat) (r : List Value) (hn : n = w.heap.size) : (w.alloc (.cells c t)).setCells n o r = w.alloc (.cells (spl c o r) t) := by
  induction r generalizing c o with
  | nil => rfl
  | cons v r ih =>
    show ((w.alloc (.cells c t)).setCell ⟨n, o, none⟩ v).setCells n (o + 1) r = _
    rw [World.setCell_alloc_at c t n o v hn, ih]
    rfl
@[go_sem] theorem setCells_alloc_past (ob : Obj) (n o : Nat) (r : List Value) (hn : n < w.heap.size) : (w.alloc ob).setCells n o r = (w.setCells n o r).alloc ob := by
  induction r generalizing w o with
  | nil => rfl
  | cons v r ih =>
    show ((w.alloc ob).setCell ⟨n, o, none⟩ v).setCells n (o + 1) r = _
    rw [World.setCell_alloc_past ob n o v hn, ih (o + 1) (by simpa using hn)]
    rfl
@[go_sem] theorem setCells_drew (n o : Nat) (r : List Value) : w.drew.setCells n o r = (w.setCells n o r).drew := by
  induction r generalizing w o with
  | nil => rfl
  | cons v r ih => exact ih (w := w.setCell ⟨n, o, none⟩ v) (o + 1)
@[go_sem] theorem cell_setCells (b o n j : Nat) (r : List Value) (h : n ≠ b) : (w.setCells b o r).cell? ⟨n, j, none⟩ = w.cell? ⟨n, j, none⟩ := World.cell?_of_block (setCells_far b h r o w)
@[go_sem] theorem frozen_setCells (b o : Nat) (r : List Value) (x : Addr) : (w.setCells b o r).frozen? x = w.frozen? x := World.frozen?_setCells b r o w x
@[go_sem] theorem rowOf_setCells (b o n b' p : Nat) (r : List Value) (h : b ≠ b') : rowOf (w.setCells b' p r) b o n = rowOf w b o n := rowOf_of (setCells_far b' h r p w) o n
@[go_sem] theorem hasRow_setCells (b o n b' p : Nat) (r : List Value) : hasRow (w.setCells b' p r) b o n = hasRow w b o n := by
  induction r generalizing w p with
  | nil => rfl
  | cons v r ih => exact (ih (p + 1)).trans (hasRow_setCell ..)
@[go_sem] theorem openRow_setCells (b b' p : Nat) (r : List Value) : openRow (w.setCells b' p r) b = openRow w b := by
  induction r generalizing w p with
  | nil => rfl
  | cons v r ih => exact (ih (p + 1)).trans (openRow_setCell ..)
end
theorem Mod.setCells {R : Nat → Prop} {a w : World} (h : Mod R a w) {b : Nat} (hb : b < w.heap.size → R b ∨ a.heap.size ≤ b) (o : Nat) (r : List Value) : Mod R a (w.setCells b o r) := by
  induction r generalizing w o with
  | nil => exact h
  | cons v r ih => exact ih (Mod.setCell h (p := ⟨b, o, none⟩) hb v) (by simpa using hb) (o + 1)
end Go.Proofs.YtkkjjhooamlljaaGreatDoor
namespace Go.Proofs.YtkkjjhooamlljaaGreatDoor
open Go.RowKit

def edgesOf (ops : Array Oper) (k : Nat) : List Nat := ((ops[k]?).map fun o => o.after.toList.filterMap fun e => if Region.binds .any e then some e.on else none).getD []
def anc (ops : Array Oper) : Nat → List Nat → List Nat
  | 0, acc => acc
  | n + 1, acc => anc ops n (if acc.contains n then acc ++ edgesOf ops n else acc)
/-- Who must have come up before number k. -/
def reach (ops : Array Oper) (_f k : Nat) : List Nat := anc ops k (edgesOf ops k)

def dstOf (ops : Array Oper) (i : Nat) : Option Tmp := (ops[i]?).bind (·.dst)

/-- The region is in order: edges go back; each temporary has one writer; who looks at it waits for its writer. -/
def regOkTo (n : Nat) (ops : Array Oper) : Bool :=
  Region.noSelect ops &&
  ((List.range ops.size).all fun i => match ops[i]? with
    | none => true
    | some o => o.after.all fun e => !Region.binds .any e || decide (e.on < i)) &&
  (List.range n).all fun i => match ops[i]? with
    | none => true
    | some o => (List.range n).all fun j => match dstOf ops j with
      | none => true
      | some d => (i == j || o.dst != some d) && (!(o.looksAt ops).contains d || o.after.any fun e => Region.binds .any e && e.on == j)
abbrev regOk (ops : Array Oper) : Bool := regOkTo ops.size ops

theorem regOk_spec {n : Nat} {ops : Array Oper} (h : regOkTo n ops = true) : Region.noSelect ops = true ∧
    (∀ (i : Nat) o, ops[i]? = some o → ∀ e ∈ o.after, Region.binds .any e = true → e.on < i) ∧
    (∀ (i j : Nat) o p d, i < n → j < n → ops[i]? = some o → ops[j]? = some p → p.dst = some d → o.dst = some d → i = j) ∧
    (∀ (i j : Nat) o p d, i < n → j < n → ops[i]? = some o → ops[j]? = some p → p.dst = some d → d ∈ o.looksAt ops → ∃ e ∈ o.after, Region.binds .any e = true ∧ e.on = j) := by
  unfold regOkTo at h
  simp only [Bool.and_eq_true, List.all_eq_true, List.mem_range] at h
  obtain ⟨⟨h0, hb⟩, h1⟩ := h
  have lt : ∀ (i : Nat) o, ops[i]? = some o → i < ops.size := fun i o hi => (Array.getElem?_eq_some_iff.1 hi).1
  refine ⟨h0, fun i o hi e he hbd => ?_, fun i j o p d hin hjn hi hj hp ho => ?_, fun i j o p d hin hjn hi hj hp hd => ?_⟩
  · have h2 := hb i (lt i o hi)
    simp only [hi] at h2
    have h3 := Array.all_eq_true_iff_forall_mem.1 h2 e he
    simpa [hbd] using h3
  · have h2 := h1 i hin
    simp only [hi] at h2
    have h3 := List.all_eq_true.1 h2 j (by simpa using hjn)
    have hdj : dstOf ops j = some d := by simp [dstOf, hj, hp]
    simp only [hdj, Bool.and_eq_true, Bool.or_eq_true] at h3
    rcases h3.1 with h4 | h4
    · simpa using h4
    · simp [ho] at h4
  · have h2 := h1 i hin
    simp only [hi] at h2
    have h3 := List.all_eq_true.1 h2 j (by simpa using hjn)
    have hdj : dstOf ops j = some d := by simp [dstOf, hj, hp]
    simp only [hdj, Bool.and_eq_true, Bool.or_eq_true] at h3
    rcases h3.2 with h4 | h4
    · rw [List.contains_iff_mem.2 hd] at h4; simp at h4
    · rw [← Array.any_toList] at h4
      obtain ⟨e, he, h5⟩ := List.any_eq_true.1 h4
      simp only [Bool.and_eq_true, beq_iff_eq] at h5
      exact ⟨e, Array.mem_toList_iff.1 he, h5.1, h5.2⟩

def never : Exit → Act → World → Prop := fun _ _ _ => False

/-- The walk in the text's order. x: what the calls that make memory hand back, by their number. -/
inductive RS (P : Program) (ops : Array Oper) (T : World → World → Prop) (S : World → Prop) (Q : Exit → Act → World → Prop) : Nat → List Oper → ((Nat → Value) → Act) → List (Nat × ((Nat → Value) → World → Value → Prop)) → Prop
  | done {k : Nat} {F : (Nat → Value) → Act} {U : List (Nat × ((Nat → Value) → World → Value → Prop))} (h : ∀ x w, S w → (∀ u ∈ U, u.2 x w (x u.1)) → Q .normal (F x) w) : RS P ops T S Q k [] F U
  | skip {k : Nat} {o : Oper} {rest : List Oper} {F : (Nat → Value) → Act} {U : List (Nat × ((Nat → Value) → World → Value → Prop))} (hw : ∀ x, Region.wanted o (yielded ops (F x).tmps) = false)
      (h : RS P ops T S Q (k + 1) rest (fun x => (F x).put o.dst undef) U) : RS P ops T S Q k (o :: rest) F U
  | val {k : Nat} {o : Oper} {rest : List Oper} {F : (Nat → Value) → Act} {U : List (Nat × ((Nat → Value) → World → Value → Prop))} (us : List Nat) (g : (Nat → Value) → Value)
      (hus : (us.all fun i => (reach ops ops.size k).contains i) = true) (hg : ∀ x y, (∀ i ∈ us, x i = y i) → g x = g y)
      (hw : ∀ x, Region.wanted o (yielded ops (F x).tmps) = true)
      (ho : ∀ x w, S w → (∀ u ∈ U, u.1 ∈ us → u.2 x w (x u.1)) → o.wp P (F x) w (fun a' w' => a' = (F x).put o.dst (g x) ∧ S w' ∧ T w w') never)
      (h : RS P ops T S Q (k + 1) rest (fun x => (F x).put o.dst (g x)) U) : RS P ops T S Q k (o :: rest) F U
  | newx {k : Nat} {o : Oper} {rest : List Oper} {F : (Nat → Value) → Act} {U : List (Nat × ((Nat → Value) → World → Value → Prop))} (us : List Nat) (V : ((Nat → Value) → World → Value → Prop)) (D : Value → Value) (hD : ∀ x w v, V x w v → D v = v)
      (hus : (us.all fun i => (reach ops ops.size k).contains i) = true) (hV : (∀ x w w' v, V x w v → T w w' → V x w' v) ∧ ∀ x y w v, (∀ i ∈ us, x i = y i) → V x w v → V y w v)
      (hw : ∀ x, Region.wanted o (yielded ops (F x).tmps) = true)
      (ho : ∀ x w, S w → (∀ u ∈ U, u.1 ∈ us → u.2 x w (x u.1)) → o.wp P (F x) w (fun a' w' => ∃ v, a' = (F x).put o.dst v ∧ V x w' v ∧ S w' ∧ T w w') never)
      (h : RS P ops T S Q (k + 1) rest (fun x => (F x).put o.dst (D (x k))) ((k, V) :: U)) : RS P ops T S Q k (o :: rest) F U

section
variable {P : Program} {ops : Array Oper} {T : World → World → Prop} {S : World → Prop} {Q : Exit → Act → World → Prop}

/-- The same, where what is told of a value does not hang on other values. -/
theorem RS.new {k : Nat} {o : Oper} {rest : List Oper} {F : (Nat → Value) → Act} {U : List (Nat × ((Nat → Value) → World → Value → Prop))} (us : List Nat) (V : World → Value → Prop) (D : Value → Value) (hD : ∀ w v, V w v → D v = v)
    (hus : (us.all fun i => (reach ops ops.size k).contains i) = true) (hV : ∀ w w' v, V w v → T w w' → V w' v)
    (hw : ∀ x, Region.wanted o (yielded ops (F x).tmps) = true)
    (ho : ∀ x w, S w → (∀ u ∈ U, u.1 ∈ us → u.2 x w (x u.1)) → o.wp P (F x) w (fun a' w' => ∃ v, a' = (F x).put o.dst v ∧ V w' v ∧ S w' ∧ T w w') never)
    (h : RS P ops T S Q (k + 1) rest (fun x => (F x).put o.dst (D (x k))) ((k, fun _ => V) :: U)) : RS P ops T S Q k (o :: rest) F U :=
  RS.newx us (fun _ => V) D (fun _ => hD) hus ⟨fun _ => hV, fun _ _ _ _ _ h => h⟩ hw ho h

/-- The frame behind the first k operations. -/
def frm (ops : Array Oper) (a0 : Act) (G : Nat → (Nat → Value) → Value) (x : Nat → Value) : Nat → Act
  | 0 => a0
  | k + 1 => (frm ops a0 G x k).put (dstOf ops k) (G k x)

/-- What the walk says of one operation. -/
def Spec (P : Program) (ops : Array Oper) (T : World → World → Prop) (S : World → Prop) (k : Nat) (o : Oper) (A : (Nat → Value) → Act) (U : List (Nat × ((Nat → Value) → World → Value → Prop))) (g : (Nat → Value) → Value) (nw : Option ((Nat → Value) → World → Value → Prop)) : Prop :=
  ((∀ x, Region.wanted o (yielded ops (A x).tmps) = false) ∧ g = (fun _ => undef) ∧ nw = none) ∨
  (∃ us : List Nat, (∀ i ∈ us, i ∈ reach ops ops.size k) ∧ (∀ x y, (∀ i ∈ us, x i = y i) → g x = g y) ∧ nw = none ∧ (∀ x, Region.wanted o (yielded ops (A x).tmps) = true) ∧
    ∀ x w, S w → (∀ u ∈ U, u.1 ∈ us → u.2 x w (x u.1)) → o.wp P (A x) w (fun a' w' => a' = (A x).put o.dst (g x) ∧ S w' ∧ T w w') never) ∨
  (∃ (us : List Nat) (V : ((Nat → Value) → World → Value → Prop)) (D : Value → Value), (∀ i ∈ us, i ∈ reach ops ops.size k) ∧ nw = some V ∧ (g = (fun x => D (x k)) ∧ ∀ x w v, V x w v → D v = v) ∧ ((∀ x w w' v, V x w v → T w w' → V x w' v) ∧ ∀ x y w v, (∀ i ∈ us, x i = y i) → V x w v → V y w v) ∧ (∀ x, Region.wanted o (yielded ops (A x).tmps) = true) ∧
    ∀ x w, S w → (∀ u ∈ U, u.1 ∈ us → u.2 x w (x u.1)) → o.wp P (A x) w (fun a' w' => ∃ v, a' = (A x).put o.dst v ∧ V x w' v ∧ S w' ∧ T w w') never)

theorem contains_all {us r : List Nat} (h : (us.all fun i => r.contains i) = true) : ∀ i ∈ us, i ∈ r := fun i hi => by
  have := List.all_eq_true.1 h i hi
  simpa using this

/-- What a walk from number k on holds, written out. -/
theorem RS.out {k : Nat} {rest : List Oper} {F : (Nat → Value) → Act} {U : List (Nat × ((Nat → Value) → World → Value → Prop))} (h : RS P ops T S Q k rest F U) :
    ∀ (a0 : Act) (G0 : Nat → (Nat → Value) → Value) (N0 : Nat → Option ((Nat → Value) → World → Value → Prop)), (∀ j, j < rest.length → rest[j]? = ops[k + j]?) → F = (fun x => frm ops a0 G0 x k) → (∀ u ∈ U, N0 u.1 = some u.2 ∧ u.1 < k) → (∀ i V, i < k → N0 i = some V → (i, V) ∈ U) →
    ∃ (G : Nat → (Nat → Value) → Value) (N : Nat → Option ((Nat → Value) → World → Value → Prop)), (∀ i, i < k → G i = G0 i ∧ N i = N0 i) ∧
      (∀ i o, k ≤ i → i < k + rest.length → ops[i]? = some o → ∃ Ui : List (Nat × ((Nat → Value) → World → Value → Prop)), (∀ u ∈ Ui, N u.1 = some u.2 ∧ u.1 < i) ∧ Spec P ops T S i o (fun x => frm ops a0 G x i) Ui (G i) (N i)) ∧
      (∀ x w, S w → (∀ i V, i < k + rest.length → N i = some V → V x w (x i)) → Q .normal (frm ops a0 G x (k + rest.length)) w) := by
  have frmEq : ∀ (a0 : Act) (G G' : Nat → (Nat → Value) → Value) (m : Nat), (∀ i, i < m → G i = G' i) → ∀ x, frm ops a0 G x m = frm ops a0 G' x m := by
    intro a0 G G' m
    induction m with
    | zero => intro _ _; rfl
    | succ m ih => intro hG x; simp only [frm]; rw [ih (fun i hi => hG i (by omega)) x, hG m (by omega)]
  induction h with
  | @done k F U h =>
    intro a0 G0 N0 hr hF hU hU2
    subst hF
    refine ⟨G0, N0, fun i _ => ⟨rfl, rfl⟩, fun i o hi hlt ho => ?_, fun x w hS hN => h x w hS fun u hu => hN u.1 u.2 (by have := (hU u hu).2; simp; omega) (hU u hu).1⟩
    simp at hlt; omega
  | @skip k o rest F U hw h ih =>
    intro a0 G0 N0 hr hF hU hU2
    subst hF
    have ho : ops[k]? = some o := by simpa using (hr 0 (by simp)).symm
    have hd : dstOf ops k = o.dst := by simp [dstOf, ho]
    let G1 : Nat → (Nat → Value) → Value := fun i => if i = k then fun _ => undef else G0 i
    let N1 : Nat → Option ((Nat → Value) → World → Value → Prop) := fun i => if i = k then none else N0 i
    have g1 : ∀ i, i < k → G1 i = G0 i := fun i hi => if_neg (by omega)
    have n1 : ∀ i, i < k → N1 i = N0 i := fun i hi => if_neg (by omega)
    have gk : G1 k = fun _ => undef := if_pos rfl
    have nk : N1 k = none := if_pos rfl
    obtain ⟨G, N, e1, e2, e3⟩ := ih a0 G1 N1 (fun j hj => by have := hr (j + 1) (by simp; omega); simpa [Nat.add_assoc, Nat.add_comm 1 j] using this)
      (by funext x; simp only [frm, gk, hd]; rw [frmEq a0 G1 G0 k g1 x])
      (fun u hu => ⟨by rw [n1 _ (hU u hu).2]; exact (hU u hu).1, by have := (hU u hu).2; omega⟩)
      (fun i V hi hN => by
        by_cases e : i = k
        · subst e; rw [nk] at hN; cases hN
        · rw [n1 i (by omega)] at hN; exact hU2 i V (by omega) hN)
    refine ⟨G, N, fun i hi => ⟨(e1 i (by omega)).1.trans (g1 i hi), (e1 i (by omega)).2.trans (n1 i hi)⟩, fun i o' hi hlt ho' => ?_, by simpa [Nat.add_assoc, Nat.add_comm 1] using e3⟩
    by_cases e : i = k
    · subst e
      obtain rfl : o = o' := by rw [ho] at ho'; simpa using ho'
      refine ⟨[], fun u hu => by simp at hu, .inl ⟨fun x => ?_, by rw [(e1 i (by omega)).1, gk], by rw [(e1 i (by omega)).2, nk]⟩⟩
      show Region.wanted o (yielded ops (frm ops a0 G x i).tmps) = false
      rw [frmEq a0 G G0 i (fun j hj => (e1 j (by omega)).1.trans (g1 j hj)) x]
      exact hw x
    · exact e2 i o' (by omega) (by simp only [List.length_cons] at hlt; omega) ho'
  | @val k o rest F U us g hus hg hw hop h ih =>
    intro a0 G0 N0 hr hF hU hU2
    subst hF
    have ho : ops[k]? = some o := by simpa using (hr 0 (by simp)).symm
    have hd : dstOf ops k = o.dst := by simp [dstOf, ho]
    let G1 : Nat → (Nat → Value) → Value := fun i => if i = k then g else G0 i
    let N1 : Nat → Option ((Nat → Value) → World → Value → Prop) := fun i => if i = k then none else N0 i
    have g1 : ∀ i, i < k → G1 i = G0 i := fun i hi => if_neg (by omega)
    have n1 : ∀ i, i < k → N1 i = N0 i := fun i hi => if_neg (by omega)
    have gk : G1 k = g := if_pos rfl
    have nk : N1 k = none := if_pos rfl
    obtain ⟨G, N, e1, e2, e3⟩ := ih a0 G1 N1 (fun j hj => by have := hr (j + 1) (by simp; omega); simpa [Nat.add_assoc, Nat.add_comm 1 j] using this)
      (by funext x; simp only [frm, gk, hd]; rw [frmEq a0 G1 G0 k g1 x])
      (fun u hu => ⟨by rw [n1 _ (hU u hu).2]; exact (hU u hu).1, by have := (hU u hu).2; omega⟩)
      (fun i V hi hN => by
        by_cases e : i = k
        · subst e; rw [nk] at hN; cases hN
        · rw [n1 i (by omega)] at hN; exact hU2 i V (by omega) hN)
    refine ⟨G, N, fun i hi => ⟨(e1 i (by omega)).1.trans (g1 i hi), (e1 i (by omega)).2.trans (n1 i hi)⟩, fun i o' hi hlt ho' => ?_, by simpa [Nat.add_assoc, Nat.add_comm 1] using e3⟩
    by_cases e : i = k
    · subst e
      obtain rfl : o = o' := by rw [ho] at ho'; simpa using ho'
      have fe := frmEq a0 G G0 i (fun j hj => (e1 j (by omega)).1.trans (g1 j hj))
      have ge : G i = g := (e1 i (by omega)).1.trans gk
      refine ⟨U, fun u hu => ⟨by rw [(e1 u.1 (by have := (hU u hu).2; omega)).2, n1 _ (hU u hu).2]; exact (hU u hu).1, (hU u hu).2⟩, .inr (.inl ⟨us, contains_all hus, by rw [ge]; exact hg, by rw [(e1 i (by omega)).2, nk], fun x => by show Region.wanted o (yielded ops (frm ops a0 G x i).tmps) = true; rw [fe]; exact hw x, fun x w hS hK => ?_⟩)⟩
      simp only [fe, ge]
      exact hop x w hS hK
    · exact e2 i o' (by omega) (by simp only [List.length_cons] at hlt; omega) ho'
  | @newx k o rest F U us V D hD hus hV hw hop h ih =>
    intro a0 G0 N0 hr hF hU hU2
    subst hF
    have ho : ops[k]? = some o := by simpa using (hr 0 (by simp)).symm
    have hd : dstOf ops k = o.dst := by simp [dstOf, ho]
    let G1 : Nat → (Nat → Value) → Value := fun i => if i = k then fun x => D (x k) else G0 i
    let N1 : Nat → Option ((Nat → Value) → World → Value → Prop) := fun i => if i = k then some V else N0 i
    have g1 : ∀ i, i < k → G1 i = G0 i := fun i hi => if_neg (by omega)
    have n1 : ∀ i, i < k → N1 i = N0 i := fun i hi => if_neg (by omega)
    have gk : G1 k = fun x => D (x k) := if_pos rfl
    have nk : N1 k = some V := if_pos rfl
    obtain ⟨G, N, e1, e2, e3⟩ := ih a0 G1 N1 (fun j hj => by have := hr (j + 1) (by simp; omega); simpa [Nat.add_assoc, Nat.add_comm 1 j] using this)
      (by funext x; simp only [frm, gk, hd]; rw [frmEq a0 G1 G0 k g1 x])
      (fun u hu => by
        rcases List.mem_cons.1 hu with rfl | hu
        · exact ⟨nk, Nat.lt_succ_self _⟩
        · exact ⟨by rw [n1 _ (hU u hu).2]; exact (hU u hu).1, by have := (hU u hu).2; omega⟩)
      (fun i V' hi hN => by
        by_cases e : i = k
        · subst e; rw [nk] at hN; cases hN; exact List.mem_cons_self
        · rw [n1 i (by omega)] at hN; exact List.mem_cons_of_mem _ (hU2 i V' (by omega) hN))
    refine ⟨G, N, fun i hi => ⟨(e1 i (by omega)).1.trans (g1 i hi), (e1 i (by omega)).2.trans (n1 i hi)⟩, fun i o' hi hlt ho' => ?_, by simpa [Nat.add_assoc, Nat.add_comm 1] using e3⟩
    by_cases e : i = k
    · subst e
      obtain rfl : o = o' := by rw [ho] at ho'; simpa using ho'
      have fe := frmEq a0 G G0 i (fun j hj => (e1 j (by omega)).1.trans (g1 j hj))
      have ge : G i = fun x => D (x i) := (e1 i (by omega)).1.trans gk
      refine ⟨U, fun u hu => ⟨by rw [(e1 u.1 (by have := (hU u hu).2; omega)).2, n1 _ (hU u hu).2]; exact (hU u hu).1, (hU u hu).2⟩, .inr (.inr ⟨us, V, D, contains_all hus, by rw [(e1 i (by omega)).2, nk], ⟨ge, hD⟩, hV, fun x => by show Region.wanted o (yielded ops (frm ops a0 G x i).tmps) = true; rw [fe]; exact hw x, fun x w hS hK => ?_⟩)⟩
      simp only [fe]
      exact hop x w hS hK
    · exact e2 i o' (by omega) (by simp only [List.length_cons] at hlt; omega) ho'

/-! ### Frames -/
theorem put_size (a : Act) (d : Option Tmp) (v : Value) : (a.put d v).tmps.size = a.tmps.size := by
  cases d <;> simp [Act.put]
theorem put_at (a : Act) (t : Tmp) (v : Value) (h : t < a.tmps.size) : (a.put (some t) v).tmps[t]? = some v := by
  simp [Act.put, h]
theorem put_other (a : Act) (d : Option Tmp) (v : Value) (t : Tmp) (h : d ≠ some t) : (a.put d v).tmps[t]? = a.tmps[t]? := by
  cases d with
  | none => rfl
  | some d => exact Array.getElem?_setIfInBounds_ne (fun e => h (by rw [e]))
theorem put_defers' (a : Act) (d : Option Tmp) (v : Value) : (a.put d v).defers = a.defers := by cases d <;> rfl

/-- The frame a is a0 with what has come up laid in. -/
structure Laid (ops : Array Oper) (a0 : Act) (G : Nat → (Nat → Value) → Value) (x : Nat → Value) (L : Nat → Prop) (a : Act) : Prop where
  defers : a.defers = a0.defers
  size : a.tmps.size = a0.tmps.size
  on : ∀ i t, L i → dstOf ops i = some t → t < a0.tmps.size → a.tmps[t]? = some (G i x)
  off : ∀ t, (∀ i, L i → dstOf ops i ≠ some t) → a.tmps[t]? = a0.tmps[t]?

theorem Laid.put {a0 : Act} {G : Nat → (Nat → Value) → Value} {x : Nat → Value} {L : Nat → Prop} {a : Act} (h : Laid ops a0 G x L a) (k : Nat)
    (hd : ∀ i t, L i → dstOf ops i = some t → dstOf ops k = some t → i = k) : Laid ops a0 G x (fun i => L i ∨ i = k) (a.put (dstOf ops k) (G k x)) := by
  refine ⟨(put_defers' _ _ _).trans h.defers, (put_size _ _ _).trans h.size, fun i t hi ht hs => ?_, fun t ht => ?_⟩
  · by_cases e : dstOf ops k = some t
    · have : i = k := hi.elim (fun hi => hd i t hi ht e) id
      subst this
      rw [e]
      exact put_at a t _ (by rw [h.size]; exact hs)
    · rw [put_other a _ _ t e]
      rcases hi with hi | rfl
      · exact h.on i t hi ht hs
      · exact (e ht).elim
  · rw [put_other a _ _ t (ht k (.inr rfl))]
    exact h.off t fun i hi => ht i (.inl hi)

theorem laid_frm {n : Nat} (hc : regOkTo n ops = true) (a0 : Act) (G : Nat → (Nat → Value) → Value) (x : Nat → Value) (k : Nat) (hk : k ≤ n) : Laid ops a0 G x (fun i => i < k) (frm ops a0 G x k) := by
  obtain ⟨_, _, h3, _⟩ := regOk_spec hc
  induction k with
  | zero => exact ⟨rfl, rfl, fun i t hi => by omega, fun _ _ => rfl⟩
  | succ k ih =>
    have h1 := (ih (by omega)).put k (fun i t hik ht hk' => by
      unfold dstOf at ht hk'
      obtain ⟨o, ho, hot⟩ := Option.bind_eq_some_iff.1 ht
      obtain ⟨p, hp, hpt⟩ := Option.bind_eq_some_iff.1 hk'
      exact h3 i k o p t (by omega) (by omega) ho hp hpt hot)
    have e : (fun i => i < k ∨ i = k) = fun i => i < k + 1 := by funext i; exact propext (by omega)
    rw [e] at h1
    exact h1

/-- Two frames laid alike look alike to an operation whose writers have come up in both. -/
theorem Laid.same {a0 : Act} {G : Nat → (Nat → Value) → Value} {x : Nat → Value} {L M : Nat → Prop} {a b : Act} (ha : Laid ops a0 G x L a) (hb : Laid ops a0 G x M b) {o : Oper} (hs : ∀ cs c, o.op ≠ .select cs c)
    (hl : ∀ t ∈ o.looksAt ops, (∃ i, dstOf ops i = some t ∧ L i ∧ M i) ∨ ∀ i, dstOf ops i = some t → ¬ L i ∧ ¬ M i) :
    execOp a.eval o = execOp b.eval o ∧ Region.wanted o (yielded ops a.tmps) = Region.wanted o (yielded ops b.tmps) := by
  have key : ∀ t ∈ o.looksAt ops, a.tmps[t]? = b.tmps[t]? := fun t ht => by
    by_cases hs : t < a0.tmps.size
    · rcases hl t ht with ⟨i, hi, h1, h2⟩ | he
      · rw [ha.on i t h1 hi hs, hb.on i t h2 hi hs]
      · rw [ha.off t (fun i hi hd => (he i hd).1 hi), hb.off t (fun i hi hd => (he i hd).2 hi)]
    · rw [Array.getElem?_eq_none (by rw [ha.size]; exact Nat.le_of_not_lt hs), Array.getElem?_eq_none (by rw [hb.size]; exact Nat.le_of_not_lt hs)]
  refine ⟨execOp_congr o hs fun y hy => ?_, ?_⟩
  · cases y with
    | tmp t =>
      have := key t (List.mem_append_left _ (List.mem_filterMap.2 ⟨.tmp t, by simpa using hy, rfl⟩))
      simp only [Act.eval, Array.getD_eq_getD_getElem?, this]
    | _ => rfl
  · unfold Region.wanted
    cases hg : o.guard with
    | none => rfl
    | some g =>
      obtain ⟨j, want⟩ := g
      simp only [yielded]
      cases hj : ops[j]? with
      | none => rfl
      | some p =>
        cases hp : p.dst with
        | none => simp [hp]
        | some d =>
          have := key d (List.mem_append_right _ (by simp [hg, hj, hp]))
          simp only [Option.bind_some, hp, this]

theorem upon_transfer {o : Oper} {a b : Act} {w : World} (hs : a.tmps.size = b.tmps.size) (he : execOp a.eval o = execOp b.eval o) {R : Value → World → Prop}
    (h : o.wp P b w (fun a' w' => ∃ v, a' = b.put o.dst v ∧ R v w') never) : o.wp P a w (fun a' w' => ∃ v, a' = a.put o.dst v ∧ R v w') Q := by
  have key : ∀ u w', (∃ v, b.put o.dst u = b.put o.dst v ∧ R v w') → ∃ v, a.put o.dst u = a.put o.dst v ∧ R v w' := fun u w' ⟨v, h1, h2⟩ => by
    refine ⟨v, ?_, h2⟩
    cases hd : o.dst with
    | none => rfl
    | some d =>
      rw [hd] at h1
      by_cases hb : d < b.tmps.size
      · have e1 := put_at b d u hb
        rw [h1, put_at b d v hb] at e1
        simp only [Option.some.injEq] at e1
        rw [e1]
      · simp only [Act.put]
        rw [Array.setIfInBounds_eq_of_size_le (by rw [hs]; exact Nat.le_of_not_lt hb), Array.setIfInBounds_eq_of_size_le (by rw [hs]; exact Nat.le_of_not_lt hb)]
  unfold Oper.wp at *
  rw [he]
  generalize (execOp b.eval o).run P w = r at *
  cases r with
  | ok n w' =>
    cases n <;> simp only [Oper.upon] at h ⊢
    case value v => exact key _ _ h
    case skip => exact key _ _ h
    case defer d =>
      obtain ⟨v, h1, _⟩ := h
      have := congrArg Act.defers h1
      simp only [put_defers'] at this
      exact absurd (congrArg List.length this) (by simp)
    case enter f args =>
      refine Calls.mono h fun e w'' he => ?_
      cases e with
      | returned u => exact key _ _ he
      | panicked c => exact he.elim
      | outgrown => obtain ⟨_, _, hf⟩ := he; exact hf.elim
    case row row args => exact Rows.mono h fun u w'' he => key _ _ he
  | halt x w' => cases x <;> simp only [Oper.upon, never] at h

def unlistedNo (listed : Array Bool) : List Nat := (List.range listed.size).filter fun i => !listed.getD i true

theorem mem_edgesOf {k i : Nat} (h : i ∈ edgesOf ops k) : ∃ o, ops[k]? = some o ∧ ∃ e ∈ o.after, Region.binds .any e = true ∧ e.on = i := by
  unfold edgesOf at h
  cases ho : ops[k]? with
  | none => simp [ho] at h
  | some o =>
    simp only [ho, Option.map_some, Option.getD_some, List.mem_filterMap, Array.mem_toList_iff] at h
    obtain ⟨e, he, h2⟩ := h
    by_cases hb : Region.binds .any e = true
    · rw [if_pos hb] at h2
      exact ⟨o, rfl, e, he, hb, by simpa using h2⟩
    · rw [if_neg hb] at h2
      cases h2
theorem reach_listed {L : Nat → Prop} (hL : ∀ i, L i → ∀ o, ops[i]? = some o → ∀ e ∈ o.after, Region.binds .any e = true → L e.on) :
    ∀ f k, (∀ o, ops[k]? = some o → ∀ e ∈ o.after, Region.binds .any e = true → L e.on) → ∀ i ∈ reach ops f k, L i := by
  have hanc : ∀ n (acc : List Nat), (∀ i ∈ acc, L i) → ∀ i ∈ anc ops n acc, L i := by
    intro n
    induction n with
    | zero => intro acc h; exact h
    | succ n ih =>
      intro acc h
      refine ih _ ?_
      intro i hi
      by_cases hc : acc.contains n = true
      · rw [if_pos hc] at hi
        rcases List.mem_append.1 hi with hi | hi
        · exact h i hi
        · obtain ⟨o, ho, e, he, hb, rfl⟩ := mem_edgesOf hi
          exact hL n (h n (by simpa using hc)) o ho e he hb
      · rw [if_neg hc] at hi
        exact h i hi
  intro _ k hk
  refine hanc k _ ?_
  intro i hi
  obtain ⟨o, ho, e, he, hb, rfl⟩ := mem_edgesOf hi
  exact hk o ho e he hb

/-- WHATEVER ORDER: the walk in the text's order serves. -/
theorem RS.any {a0 : Act} {w0 : World} (hc : regOk ops = true) (h : RS P ops T S Q 0 ops.toList (fun _ => a0) []) (hS : S w0) :
    wpAny P .any ops Q ops.size (Array.replicate ops.size false) a0 w0 := by
  obtain ⟨c1, c2, c3, c4⟩ := regOk_spec hc
  obtain ⟨G, N, _, hspec, hfin⟩ := h.out a0 (fun _ _ => undef) (fun _ => none) (fun j _ => by simp) rfl (fun u hu => by simp at hu) (fun i V hi => by omega)
  simp only [Nat.zero_add, Array.length_toList] at hfin
  have gdep : ∀ i o, ops[i]? = some o → ∀ x y, (∀ j, (j ∈ reach ops ops.size i ∨ j = i) → x j = y j) → G i x = G i y := fun i o ho x y hxy => by
    obtain ⟨Ui, _, hs⟩ := hspec i o (Nat.zero_le _) (by simpa using (Array.getElem?_eq_some_iff.1 ho).1) ho
    rcases hs with ⟨_, hg, _⟩ | ⟨us, hus, hg, _⟩ | ⟨us, V, D, _, _, hg, _⟩
    · rw [hg]
    · exact hg x y fun j hj => hxy j (.inl (hus j hj))
    · rw [hg.1]; show D (x i) = D (y i); rw [hxy i (.inr rfl)]
  have main : ∀ (fuel : Nat) (listed : Array Bool) (a : Act) (w : World) (x : Nat → Value), listed.size = ops.size → (unlistedNo listed).length ≤ fuel →
      (∀ i, listed.getD i false = true → ∀ o, ops[i]? = some o → ∀ e ∈ o.after, Region.binds .any e = true → listed.getD e.on false = true) →
      Laid ops a0 G x (fun i => listed.getD i false = true) a → S w → (∀ i V, listed.getD i false = true → N i = some V → V x w (x i)) → wpAny P .any ops Q fuel listed a w := by
    intro fuel
    induction fuel with
    | zero =>
      intro listed a w x hsz hfu hcl hla hSw hNw
      have hall : ∀ i, i < ops.size → listed.getD i false = true := fun i hi => by
        have h0 : unlistedNo listed = [] := List.eq_nil_of_length_eq_zero (by omega)
        by_cases hn : listed.getD i false = true
        · exact hn
        · have : i ∈ unlistedNo listed := by
            unfold unlistedNo
            rw [List.mem_filter, List.mem_range]
            have hi' : i < listed.size := by omega
            simp only [Array.getD_eq_getD_getElem?, Array.getElem?_eq_getElem hi', Option.getD_some, Bool.not_eq_true] at hn ⊢
            exact ⟨hi', by rw [hn]; rfl⟩
          rw [h0] at this; simp at this
      refine ⟨?_, ?_⟩
      · cases hr : Region.ready .any ops listed with
        | nil => rfl
        | cons i rest =>
          have hi : i ∈ Region.ready .any ops listed := by rw [hr]; exact List.mem_cons_self
          obtain ⟨h1, o, ho, _⟩ := mem_ready.1 hi
          have hlt := (Array.getElem?_eq_some_iff.1 ho).1
          have h2 := hall i hlt
          have hi' : i < listed.size := by omega
          simp only [Array.getD_eq_getD_getElem?, Array.getElem?_eq_getElem hi', Option.getD_some] at h1 h2
          rw [h1] at h2; cases h2
      · have e : a = frm ops a0 G x ops.size := by
          have hb := laid_frm hc a0 G x ops.size (Nat.le_refl _)
          have ht : a.tmps = (frm ops a0 G x ops.size).tmps := by
            apply Array.ext_getElem?
            intro t
            by_cases hs : t < a0.tmps.size
            · by_cases he : ∃ i, dstOf ops i = some t
              · obtain ⟨i, hi⟩ := he
                obtain ⟨o, ho, _⟩ := Option.bind_eq_some_iff.1 hi
                have hlt := (Array.getElem?_eq_some_iff.1 ho).1
                rw [hla.on i t (hall i hlt) hi hs, hb.on i t hlt hi hs]
              · rw [hla.off t (fun i _ hi => he ⟨i, hi⟩), hb.off t (fun i _ hi => he ⟨i, hi⟩)]
            · rw [Array.getElem?_eq_none (by rw [hla.size]; exact Nat.le_of_not_lt hs), Array.getElem?_eq_none (by rw [hb.size]; exact Nat.le_of_not_lt hs)]
          have hd : a.defers = (frm ops a0 G x ops.size).defers := hla.defers.trans hb.defers.symm
          cases a; cases hf : frm ops a0 G x ops.size
          rw [hf] at ht hd
          simp only at ht hd
          rw [ht, hd]
        rw [e]
        exact hfin x w hSw fun i V hi hN => hNw i V (hall i hi) hN
    | succ fuel ih =>
      intro listed a w x hsz hfu hcl hla hSw hNw
      -- an operation that comes up
      have step : ∀ i ∈ Region.ready .any ops listed, wpOp P ops Q i (wpAny P .any ops Q fuel (listed.setIfInBounds i true)) a w := by
        intro i hi
        obtain ⟨h1, o, ho, h2⟩ := mem_ready.1 hi
        have hlt := (Array.getElem?_eq_some_iff.1 ho).1
        have hli : i < listed.size := by omega
        have hun : listed.getD i false = false := by
          simp only [Array.getD_eq_getD_getElem?, Array.getElem?_eq_getElem hli, Option.getD_some] at h1 ⊢
          exact h1
        have hd : dstOf ops i = o.dst := by simp [dstOf, ho]
        have hset : ∀ j, (listed.setIfInBounds i true).getD j false = true ↔ listed.getD j false = true ∨ j = i := fun j => by
          by_cases e : i = j
          · subst e; simp [hli]
          · rw [getD_set_ne false e]
            exact ⟨.inl, fun h => h.elim id fun h => (e h.symm).elim⟩
        have hcl' : ∀ j, (listed.setIfInBounds i true).getD j false = true → ∀ p, ops[j]? = some p → ∀ e ∈ p.after, Region.binds .any e = true → (listed.setIfInBounds i true).getD e.on false = true := fun j hj p hp e he hb => by
          rw [hset] at hj ⊢
          rcases hj with hj | rfl
          · exact .inl (hcl j hj p hp e he hb)
          · obtain rfl : o = p := by rw [ho] at hp; simpa using hp
            exact .inl (h2 e he hb)
        have hsz' : (listed.setIfInBounds i true).size = ops.size := by simpa using hsz
        have hfu' : (unlistedNo (listed.setIfInBounds i true)).length ≤ fuel := by
          have hlt2 : (unlistedNo (listed.setIfInBounds i true)).length < (unlistedNo listed).length := by
            unfold unlistedNo
            have e : ∀ j, (!(listed.setIfInBounds i true).getD j true) = ((!listed.getD j true) && decide (j ≠ i)) := fun j => by
              by_cases hj : i = j
              · subst hj; simp [hli]
              · rw [getD_set_ne true hj]; simp [Ne.symm hj]
            simp only [e, Array.size_setIfInBounds]
            have hm : i ∈ (List.range listed.size).filter fun j => !listed.getD j true := by
              rw [List.mem_filter, List.mem_range]
              exact ⟨hli, by rw [h1]; rfl⟩
            have hf : (List.range listed.size).filter (fun j => (!listed.getD j true) && decide (j ≠ i)) = ((List.range listed.size).filter fun j => !listed.getD j true).filter fun j => decide (j ≠ i) := by
              rw [List.filter_filter]
              exact List.filter_congr fun j _ => Bool.and_comm _ _
            rw [hf]
            exact List.length_filter_lt_length_iff_exists.2 ⟨i, hm, by simp⟩
          omega
        have hself : ∀ t ∈ o.looksAt ops, (∃ j, dstOf ops j = some t ∧ listed.getD j false = true ∧ j < i) ∨ ∀ j, dstOf ops j = some t → ¬ listed.getD j false = true ∧ ¬ j < i := fun t ht => by
          by_cases hex : ∃ j, j < ops.size ∧ dstOf ops j = some t
          · obtain ⟨j, hjn, hj⟩ := hex
            obtain ⟨p, hp, hpt⟩ := Option.bind_eq_some_iff.1 hj
            obtain ⟨e, he, hb, rfl⟩ := c4 i j o p t hlt hjn ho hp hpt ht
            exact .inl ⟨e.on, hj, h2 e he hb, c2 i o ho e he hb⟩
          · exact .inr fun j hj => ⟨fun hl => hex ⟨j, (by obtain ⟨p, hp, _⟩ := Option.bind_eq_some_iff.1 hj; exact (Array.getElem?_eq_some_iff.1 hp).1), hj⟩, fun hl => hex ⟨j, by omega, hj⟩⟩
        have hreach : ∀ j ∈ reach ops ops.size i, listed.getD j false = true :=
          reach_listed (L := fun j => listed.getD j false = true) hcl ops.size i (fun p hp e he hb => by
            obtain rfl : o = p := by rw [ho] at hp; simpa using hp
            exact h2 e he hb)
        have hdist : ∀ j t, listed.getD j false = true → dstOf ops j = some t → dstOf ops i = some t → j = i := fun j t _ hj hi' => by
          obtain ⟨p, hp, hpt⟩ := Option.bind_eq_some_iff.1 hj
          obtain ⟨q, hq, hqt⟩ := Option.bind_eq_some_iff.1 hi'
          exact c3 j i p q t (Array.getElem?_eq_some_iff.1 hp).1 hlt hp hq hqt hpt
        have hsel : ∀ cs c, o.op ≠ .select cs c := fun cs c => Region.noSelect_spec c1 i o cs c ho
        have hfr := laid_frm hc a0 G x i (by omega)
        obtain ⟨he, hwa⟩ := Laid.same hla hfr hsel hself
        have hlaid' : Laid ops a0 G x (fun j => (listed.setIfInBounds i true).getD j false = true) (a.put o.dst (G i x)) := by
          have := hla.put i hdist
          rw [hd] at this
          have e : (fun j => listed.getD j false = true ∨ j = i) = fun j => (listed.setIfInBounds i true).getD j false = true := funext fun j => propext (hset j).symm
          rwa [e] at this
        obtain ⟨Ui, hUi, hs⟩ := hspec i o (Nat.zero_le _) (by simpa using (Array.getElem?_eq_some_iff.1 ho).1) ho
        have know : ∀ us : List Nat, (∀ j ∈ us, j ∈ reach ops ops.size i) → ∀ u ∈ Ui, u.1 ∈ us → u.2 x w (x u.1) := fun us hus u hu hm => hNw u.1 u.2 (hreach _ (hus _ hm)) (hUi u hu).1
        unfold wpOp
        simp only [ho]
        rcases hs with ⟨hw, hg, hn⟩ | ⟨us, hus, _, hn, hw, hop⟩ | ⟨us, V, D, hus, hn, hg, hst, hw, hop⟩
        · rw [hwa, hw x]
          simp only [Bool.false_eq_true, if_false]
          have hgu : G i x = undef := by rw [hg]
          rw [hgu] at hlaid'
          refine ih _ _ w x hsz' hfu' hcl' hlaid' hSw fun j V' hj hN => ?_
          rw [hset] at hj
          rcases hj with hj | rfl
          · exact hNw j V' hj hN
          · rw [hn] at hN; cases hN
        · rw [hwa, hw x]
          simp only [if_true]
          refine .inl (Oper.wp_mono ?_ (upon_transfer (R := fun v w' => v = G i x ∧ S w' ∧ T w w') (b := frm ops a0 G x i) (by rw [hla.size, hfr.size]) he ?_))
          · rintro a' w' ⟨v, rfl, rfl, hS', hT⟩
            refine ih _ _ w' x hsz' hfu' hcl' hlaid' hS' fun j V' hj hN => ?_
            rw [hset] at hj
            rcases hj with hj | rfl
            · have hlo := hNw j V' hj hN
              -- stable
              have hlt' : j < ops.size := by
                by_cases h : j < ops.size
                · exact h
                · rw [Array.getD_eq_getD_getElem?, Array.getElem?_eq_none (by omega)] at hj; cases hj
              obtain ⟨Uj, _, hsj⟩ := hspec j ops[j] (Nat.zero_le _) (by simpa using hlt') (Array.getElem?_eq_getElem hlt')
              rcases hsj with ⟨_, _, h0⟩ | ⟨_, _, _, h0, _⟩ | ⟨_, V2, _, _, h0, _, hst, _⟩
              · rw [h0] at hN; cases hN
              · rw [h0] at hN; cases hN
              · rw [h0] at hN
                cases hN
                exact hst.1 _ _ _ _ hlo hT
            · rw [hn] at hN; cases hN
          · refine Oper.wp_mono ?_ (hop x w hSw (know us hus))
            rintro a' w' ⟨h1, h2, h3⟩
            exact ⟨_, h1, rfl, h2, h3⟩
        · rw [hwa, hw x]
          simp only [if_true]
          refine .inl (Oper.wp_mono ?_ (upon_transfer (R := fun v w' => V x w' v ∧ S w' ∧ T w w') (b := frm ops a0 G x i) (by rw [hla.size, hfr.size]) he ?_))
          · rintro a' w' ⟨v, rfl, hVv, hS', hT⟩
            let y : Nat → Value := fun j => if j = i then v else x j
            have yi : y i = v := if_pos rfl
            have yo : ∀ j, j ≠ i → y j = x j := fun j hj => if_neg hj
            have hirr : ∀ j ∈ reach ops ops.size i, j ≠ i := fun j hj e => by
              subst e
              rw [hreach j hj] at hun; cases hun
            have hGy : ∀ j, listed.getD j false = true → ∀ p, ops[j]? = some p → G j y = G j x := fun j hj p hp => by
              refine gdep j p hp y x fun m hm => yo m fun e => ?_
              subst e
              rcases hm with hm | rfl
              · have := reach_listed (L := fun j => listed.getD j false = true) hcl ops.size j (fun q hq e he hb => hcl j hj q hq e he hb) m hm
                rw [this] at hun; cases hun
              · rw [hj] at hun; cases hun
            have hla' : Laid ops a0 G y (fun j => listed.getD j false = true) a := by
              refine ⟨hla.defers, hla.size, fun j t hj ht hs => ?_, hla.off⟩
              obtain ⟨p, hp, _⟩ := Option.bind_eq_some_iff.1 ht
              rw [hGy j hj p hp]
              exact hla.on j t hj ht hs
            have hlaid2 : Laid ops a0 G y (fun j => (listed.setIfInBounds i true).getD j false = true) (a.put o.dst v) := by
              have := hla'.put i hdist
              rw [hd, show G i y = v by rw [hg.1]; show D (y i) = v; rw [yi]; exact hg.2 _ _ _ hVv] at this
              have e : (fun j => listed.getD j false = true ∨ j = i) = fun j => (listed.setIfInBounds i true).getD j false = true := funext fun j => propext (hset j).symm
              rwa [e] at this
            refine ih _ _ w' y hsz' hfu' hcl' hlaid2 hS' fun j V' hj hN => ?_
            rw [hset] at hj
            by_cases e : j = i
            · subst e
              rw [hn] at hN
              cases hN
              rw [yi]
              exact hst.2 x y w' v (fun m hm => (yo m (hirr m (hus m hm))).symm) hVv
            · have hj' := hj.resolve_right e
              rw [yo j e]
              have hlo := hNw j V' hj' hN
              have hlt' : j < ops.size := by
                by_cases h : j < ops.size
                · exact h
                · rw [Array.getD_eq_getD_getElem?, Array.getElem?_eq_none (by omega)] at hj'; cases hj'
              obtain ⟨Uj, _, hsj⟩ := hspec j ops[j] (Nat.zero_le _) (by simpa using hlt') (Array.getElem?_eq_getElem hlt')
              rcases hsj with ⟨_, _, h0⟩ | ⟨_, _, _, h0, _⟩ | ⟨us2, V2, _, hus2, h0, _, hst2, _⟩
              · rw [h0] at hN; cases hN
              · rw [h0] at hN; cases hN
              · rw [h0] at hN
                cases hN
                exact hst2.2 x y w' _ (fun m hm => (yo m fun e => by
                  subst e
                  have := reach_listed (L := fun j => listed.getD j false = true) hcl ops.size j (fun q hq e he hb => hcl j hj' q hq e he hb) m (hus2 m hm)
                  rw [this] at hun; cases hun).symm) (hst2.1 _ _ _ _ hlo hT)
          · refine Oper.wp_mono ?_ (hop x w hSw (know us hus))
            rintro a' w' ⟨v, h1, h2, h3, h4⟩
            exact ⟨v, h1, h2, h3, h4⟩
      refine ⟨fun hr => ?_, step⟩
      -- nobody is ready: all have come up
      have hall : ∀ i, i < ops.size → listed.getD i false = true := by
        intro i
        induction i using Nat.strongRecOn with
        | _ i ihi =>
          intro hi
          by_cases hn : listed.getD i false = true
          · exact hn
          · have hli : i < listed.size := by omega
            have : i ∈ Region.ready .any ops listed := mem_ready.2 ⟨by
                simp only [Array.getD_eq_getD_getElem?, Array.getElem?_eq_getElem hli, Option.getD_some, Bool.not_eq_true] at hn ⊢
                exact hn, ops[i], Array.getElem?_eq_getElem hi, fun e he hb => ihi e.on (c2 i _ (Array.getElem?_eq_getElem hi) e he hb) (by have := c2 i _ (Array.getElem?_eq_getElem hi) e he hb; omega)⟩
            rw [hr] at this; simp at this
      have h0 : (unlistedNo listed).length ≤ 0 := by
        have : unlistedNo listed = [] := by
          unfold unlistedNo
          rw [List.filter_eq_nil_iff]
          intro i hi
          have hi' : i < listed.size := by simpa using hi
          have := hall i (by omega)
          simp only [Array.getD_eq_getD_getElem?, Array.getElem?_eq_getElem hi', Option.getD_some] at this ⊢
          rw [this]; simp
        rw [this]; simp
      clear ih step
      -- as at the end
      have e : a = frm ops a0 G x ops.size := by
        have hb := laid_frm hc a0 G x ops.size (Nat.le_refl _)
        have ht : a.tmps = (frm ops a0 G x ops.size).tmps := by
          apply Array.ext_getElem?
          intro t
          by_cases hs : t < a0.tmps.size
          · by_cases he : ∃ i, dstOf ops i = some t
            · obtain ⟨i, hi⟩ := he
              obtain ⟨o, ho, _⟩ := Option.bind_eq_some_iff.1 hi
              have hlt := (Array.getElem?_eq_some_iff.1 ho).1
              rw [hla.on i t (hall i hlt) hi hs, hb.on i t hlt hi hs]
            · rw [hla.off t (fun i _ hi => he ⟨i, hi⟩), hb.off t (fun i _ hi => he ⟨i, hi⟩)]
          · rw [Array.getElem?_eq_none (by rw [hla.size]; exact Nat.le_of_not_lt hs), Array.getElem?_eq_none (by rw [hb.size]; exact Nat.le_of_not_lt hs)]
        have hd : a.defers = (frm ops a0 G x ops.size).defers := hla.defers.trans hb.defers.symm
        cases a; cases hf : frm ops a0 G x ops.size
        rw [hf] at ht hd
        simp only at ht hd
        rw [ht, hd]
      rw [e]
      exact hfin x w hSw fun i V hi hN => hNw i V (hall i hi) hN
  refine main ops.size _ a0 w0 (fun _ => undef) (by simp) ?_ (fun i hi => ?_) ⟨rfl, rfl, fun i t hi => ?_, fun _ _ => rfl⟩ hS (fun i V hi => ?_)
  · unfold unlistedNo
    exact Nat.le_trans (List.length_filter_le _ _) (by simp)
  all_goals
    exfalso
    rw [Array.getD_eq_getD_getElem?, Array.getElem?_replicate] at hi
    split at hi <;> cases hi

/-! ### A head in any order, and a tail that waits for all of it -/
def unlistedTo (n : Nat) (listed : Array Bool) : List Nat := (List.range n).filter fun i => !listed.getD i true
def headDone (n m : Nat) : Array Bool := Array.replicate n true ++ Array.replicate (m - n) false
def tailOk (ops : Array Oper) (n : Nat) : Bool :=
  decide (n < ops.size) && Region.sinkB .any ops n && Region.chainB .any ops n && Region.seqB .any ops (ops.size - n) n (headDone n ops.size)

/-- WHATEVER ORDER of the head: the walk in the text's order serves; behind it the tail goes in its own order. -/
theorem RS.tail {n : Nat} {a0 : Act} {w0 : World} (hc : regOkTo n ops = true) (ht : tailOk ops n = true) (h : RS P ops T S (fun _ a w => wpList P ops Q (ops.toList.drop n) a w) 0 (ops.toList.take n) (fun _ => a0) []) (hS : S w0) :
    wpAny P .any ops Q ops.size (Array.replicate ops.size false) a0 w0 := by
  obtain ⟨c1, c2, c3, c4⟩ := regOk_spec hc
  simp only [tailOk, Bool.and_eq_true, decide_eq_true_eq] at ht
  obtain ⟨⟨⟨hn, hs1⟩, hs2⟩, hs3⟩ := ht
  have htn : 0 + (ops.toList.take n).length = n := by simp; omega
  obtain ⟨G, N, _, hspec, hfin⟩ := h.out a0 (fun _ _ => undef) (fun _ => none) (fun j hj => by
    have hj' : j < n := by omega
    simp [hj']) rfl (fun u hu => by simp at hu) (fun i V hi => by omega)
  rw [htn] at hfin
  have gdep : ∀ i o, i < n → ops[i]? = some o → ∀ x y, (∀ j, (j ∈ reach ops ops.size i ∨ j = i) → x j = y j) → G i x = G i y := fun i o hin ho x y hxy => by
    obtain ⟨Ui, _, hs⟩ := hspec i o (Nat.zero_le _) (by rw [htn]; exact hin) ho
    rcases hs with ⟨_, hg, _⟩ | ⟨us, hus, hg, _⟩ | ⟨us, V, D, _, _, hg, _⟩
    · rw [hg]
    · exact hg x y fun j hj => hxy j (.inl (hus j hj))
    · rw [hg.1]; show D (x i) = D (y i); rw [hxy i (.inr rfl)]
  have main : ∀ (fuel : Nat) (listed : Array Bool) (a : Act) (w : World) (x : Nat → Value), listed.size = ops.size → (unlistedTo n listed).length = fuel →
      (∀ i, listed.getD i false = true → ∀ o, ops[i]? = some o → ∀ e ∈ o.after, Region.binds .any e = true → listed.getD e.on false = true) →
      (∀ t, n ≤ t → t < ops.size → listed.getD t true = false) →
      Laid ops a0 G x (fun i => listed.getD i false = true) a → S w → (∀ i V, listed.getD i false = true → N i = some V → V x w (x i)) → wpAny P .any ops Q (fuel + (ops.size - n)) listed a w := by
    intro fuel
    induction fuel with
    | zero =>
      intro listed a w x hsz hfu hcl htl hla hSw hNw
      have hall : ∀ i, i < n → listed.getD i false = true := fun i hi => by
        have h0 : unlistedTo n listed = [] := List.eq_nil_of_length_eq_zero hfu
        by_cases hn' : listed.getD i false = true
        · exact hn'
        · have : i ∈ unlistedTo n listed := by
            unfold unlistedTo
            rw [List.mem_filter, List.mem_range]
            have hi' : i < listed.size := by omega
            simp only [Array.getD_eq_getD_getElem?, Array.getElem?_eq_getElem hi', Option.getD_some, Bool.not_eq_true] at hn' ⊢
            exact ⟨hi, by rw [hn']; rfl⟩
          rw [h0] at this; simp at this
      have hon : ∀ i, listed.getD i false = true → i < n := fun i hi => by
        by_cases h : i < n
        · exact h
        · by_cases h2 : i < ops.size
          · have := getD_both (htl i (Nat.le_of_not_lt h) h2)
            rw [this] at hi; cases hi
          · rw [Array.getD_eq_getD_getElem?, Array.getElem?_eq_none (by omega)] at hi; cases hi
      have eL : listed = headDone n ops.size := by
        have hds : (headDone n ops.size).size = ops.size := by simp [headDone]; omega
        apply Array.ext (by rw [hds, hsz])
        intro i h1 h2
        have e1 : listed.getD i false = listed[i] := by simp [h1]
        by_cases hi : i < n
        · have := hall i hi
          rw [e1] at this
          rw [this]
          simp [headDone, hi]
        · have := getD_both (htl i (Nat.le_of_not_lt hi) (by omega))
          rw [e1] at this
          rw [this]
          simp [headDone, Array.getElem_append, hi]
      have e : a = frm ops a0 G x n := by
        have hb := laid_frm hc a0 G x n (by omega)
        have ht : a.tmps = (frm ops a0 G x n).tmps := by
          apply Array.ext_getElem?
          intro t
          by_cases hs : t < a0.tmps.size
          · by_cases he : ∃ i, i < n ∧ dstOf ops i = some t
            · obtain ⟨i, hin, hi⟩ := he
              rw [hla.on i t (hall i hin) hi hs, hb.on i t hin hi hs]
            · rw [hla.off t (fun i hli hi => he ⟨i, hon i hli, hi⟩), hb.off t (fun i hin hi => he ⟨i, hin, hi⟩)]
          · rw [Array.getElem?_eq_none (by rw [hla.size]; exact Nat.le_of_not_lt hs), Array.getElem?_eq_none (by rw [hb.size]; exact Nat.le_of_not_lt hs)]
        have hd : a.defers = (frm ops a0 G x n).defers := hla.defers.trans hb.defers.symm
        cases a; cases hf : frm ops a0 G x n
        rw [hf] at ht hd
        simp only at ht hd
        rw [ht, hd]
      have hlen : (ops.toList.drop n).length = ops.size - n := by simp
      have hw := hfin x w hSw fun i V hi hN => hNw i V (hall i hi) hN
      rw [← e] at hw
      have := wpAny_of_seq (md := .any) (ops.toList.drop n) n listed a w (fun j => by simp [List.getElem?_drop]) (by rw [hlen, eL]; exact hs3) hw
      rw [hlen] at this
      rw [Nat.zero_add]
      exact this
    | succ fuel ih =>
      intro listed a w x hsz hfu hcl htl hla hSw hNw
      have inv : HeadInv .any ops n listed := ⟨hsz, fun j oj hj hl e he hb => hcl j hl oj hj e he hb, htl⟩
      obtain ⟨j0, hj0⟩ : ∃ j0, j0 < n ∧ listed.getD j0 true = false := by
        cases hu : unlistedTo n listed with
        | nil => rw [hu] at hfu; cases hfu
        | cons j r =>
          have : j ∈ unlistedTo n listed := by rw [hu]; exact List.mem_cons_self
          unfold unlistedTo at this
          rw [List.mem_filter, List.mem_range] at this
          exact ⟨j, this.1, by simpa using this.2⟩
      have lt_of_listed : ∀ j, listed.getD j false = true → j < n := fun i hi => by
        by_cases h : i < n
        · exact h
        · by_cases h2 : i < ops.size
          · have := getD_both (htl i (Nat.le_of_not_lt h) h2)
            rw [this] at hi; cases hi
          · rw [Array.getD_eq_getD_getElem?, Array.getElem?_eq_none (by omega)] at hi; cases hi
      -- an operation that comes up
      have step : ∀ i ∈ Region.ready .any ops listed, wpOp P ops Q i (wpAny P .any ops Q (fuel + (ops.size - n)) (listed.setIfInBounds i true)) a w := by
        intro i hi
        have hin : i < n := by
          by_cases h : i < n
          · exact h
          · exact (tail_waits hs1 hs2 hn inv (n - j0) j0 rfl hj0.1 hj0.2 i (Nat.le_of_not_lt h) hi).elim
        obtain ⟨h1, o, ho, h2⟩ := mem_ready.1 hi
        have hlt := (Array.getElem?_eq_some_iff.1 ho).1
        have hli : i < listed.size := by omega
        have hun : listed.getD i false = false := by
          simp only [Array.getD_eq_getD_getElem?, Array.getElem?_eq_getElem hli, Option.getD_some] at h1 ⊢
          exact h1
        have hd : dstOf ops i = o.dst := by simp [dstOf, ho]
        have hset : ∀ j, (listed.setIfInBounds i true).getD j false = true ↔ listed.getD j false = true ∨ j = i := fun j => by
          by_cases e : i = j
          · subst e; simp [hli]
          · rw [getD_set_ne false e]
            exact ⟨.inl, fun h => h.elim id fun h => (e h.symm).elim⟩
        have hcl' : ∀ j, (listed.setIfInBounds i true).getD j false = true → ∀ p, ops[j]? = some p → ∀ e ∈ p.after, Region.binds .any e = true → (listed.setIfInBounds i true).getD e.on false = true := fun j hj p hp e he hb => by
          rw [hset] at hj ⊢
          rcases hj with hj | rfl
          · exact .inl (hcl j hj p hp e he hb)
          · obtain rfl : o = p := by rw [ho] at hp; simpa using hp
            exact .inl (h2 e he hb)
        have hsz' : (listed.setIfInBounds i true).size = ops.size := by simpa using hsz
        have hfu' : (unlistedTo n (listed.setIfInBounds i true)).length = fuel := by
          have e : unlistedTo n (listed.setIfInBounds i true) = (unlistedTo n listed).erase i := by
            unfold unlistedTo
            rw [List.Nodup.erase_eq_filter (List.nodup_range.filter _), List.filter_filter]
            refine List.filter_congr fun j _ => ?_
            by_cases hj : i = j
            · subst hj; simp [hli]
            · rw [getD_set_ne true hj]; simp [Ne.symm hj]
          rw [e, List.length_erase_of_mem, hfu]
          · rfl
          · unfold unlistedTo
            rw [List.mem_filter, List.mem_range]
            exact ⟨hin, by rw [h1]; rfl⟩
        have htl' : ∀ t, n ≤ t → t < ops.size → (listed.setIfInBounds i true).getD t true = false := fun t ht ht' => by rw [getD_set_ne true (by omega)]; exact htl t ht ht'
        have hself : ∀ t ∈ o.looksAt ops, (∃ j, dstOf ops j = some t ∧ listed.getD j false = true ∧ j < i) ∨ ∀ j, dstOf ops j = some t → ¬ listed.getD j false = true ∧ ¬ j < i := fun t ht => by
          by_cases hex : ∃ j, j < n ∧ dstOf ops j = some t
          · obtain ⟨j, hjn, hj⟩ := hex
            obtain ⟨p, hp, hpt⟩ := Option.bind_eq_some_iff.1 hj
            obtain ⟨e, he, hb, rfl⟩ := c4 i j o p t hin hjn ho hp hpt ht
            exact .inl ⟨e.on, hj, h2 e he hb, c2 i o ho e he hb⟩
          · exact .inr fun j hj => ⟨fun hl => hex ⟨j, lt_of_listed j hl, hj⟩, fun hl => hex ⟨j, by omega, hj⟩⟩
        have hreach : ∀ j ∈ reach ops ops.size i, listed.getD j false = true :=
          reach_listed (L := fun j => listed.getD j false = true) hcl ops.size i (fun p hp e he hb => by
            obtain rfl : o = p := by rw [ho] at hp; simpa using hp
            exact h2 e he hb)
        have hdist : ∀ j t, listed.getD j false = true → dstOf ops j = some t → dstOf ops i = some t → j = i := fun j t _ hj hi' => by
          obtain ⟨p, hp, hpt⟩ := Option.bind_eq_some_iff.1 hj
          obtain ⟨q, hq, hqt⟩ := Option.bind_eq_some_iff.1 hi'
          exact c3 j i p q t (lt_of_listed j ‹_›) hin hp hq hqt hpt
        have hsel : ∀ cs c, o.op ≠ .select cs c := fun cs c => Region.noSelect_spec c1 i o cs c ho
        have hfr := laid_frm hc a0 G x i (by omega)
        obtain ⟨he, hwa⟩ := Laid.same hla hfr hsel hself
        have hlaid' : Laid ops a0 G x (fun j => (listed.setIfInBounds i true).getD j false = true) (a.put o.dst (G i x)) := by
          have := hla.put i hdist
          rw [hd] at this
          have e : (fun j => listed.getD j false = true ∨ j = i) = fun j => (listed.setIfInBounds i true).getD j false = true := funext fun j => propext (hset j).symm
          rwa [e] at this
        obtain ⟨Ui, hUi, hs⟩ := hspec i o (Nat.zero_le _) (by rw [htn]; omega) ho
        have know : ∀ us : List Nat, (∀ j ∈ us, j ∈ reach ops ops.size i) → ∀ u ∈ Ui, u.1 ∈ us → u.2 x w (x u.1) := fun us hus u hu hm => hNw u.1 u.2 (hreach _ (hus _ hm)) (hUi u hu).1
        unfold wpOp
        simp only [ho]
        rcases hs with ⟨hw, hg, hn⟩ | ⟨us, hus, _, hn, hw, hop⟩ | ⟨us, V, D, hus, hn, hg, hst, hw, hop⟩
        · rw [hwa, hw x]
          simp only [Bool.false_eq_true, if_false]
          have hgu : G i x = undef := by rw [hg]
          rw [hgu] at hlaid'
          refine ih _ _ w x hsz' hfu' hcl' htl' hlaid' hSw fun j V' hj hN => ?_
          rw [hset] at hj
          rcases hj with hj | rfl
          · exact hNw j V' hj hN
          · rw [hn] at hN; cases hN
        · rw [hwa, hw x]
          simp only [if_true]
          refine .inl (Oper.wp_mono ?_ (upon_transfer (R := fun v w' => v = G i x ∧ S w' ∧ T w w') (b := frm ops a0 G x i) (by rw [hla.size, hfr.size]) he ?_))
          · rintro a' w' ⟨v, rfl, rfl, hS', hT⟩
            refine ih _ _ w' x hsz' hfu' hcl' htl' hlaid' hS' fun j V' hj hN => ?_
            rw [hset] at hj
            rcases hj with hj | rfl
            · have hlo := hNw j V' hj hN
              -- stable
              have hlt' : j < ops.size := by
                by_cases h : j < ops.size
                · exact h
                · rw [Array.getD_eq_getD_getElem?, Array.getElem?_eq_none (by omega)] at hj; cases hj
              obtain ⟨Uj, _, hsj⟩ := hspec j ops[j] (Nat.zero_le _) (by rw [htn]; have := lt_of_listed j hj; omega) (Array.getElem?_eq_getElem hlt')
              rcases hsj with ⟨_, _, h0⟩ | ⟨_, _, _, h0, _⟩ | ⟨_, V2, _, _, h0, _, hst, _⟩
              · rw [h0] at hN; cases hN
              · rw [h0] at hN; cases hN
              · rw [h0] at hN
                cases hN
                exact hst.1 _ _ _ _ hlo hT
            · rw [hn] at hN; cases hN
          · refine Oper.wp_mono ?_ (hop x w hSw (know us hus))
            rintro a' w' ⟨h1, h2, h3⟩
            exact ⟨_, h1, rfl, h2, h3⟩
        · rw [hwa, hw x]
          simp only [if_true]
          refine .inl (Oper.wp_mono ?_ (upon_transfer (R := fun v w' => V x w' v ∧ S w' ∧ T w w') (b := frm ops a0 G x i) (by rw [hla.size, hfr.size]) he ?_))
          · rintro a' w' ⟨v, rfl, hVv, hS', hT⟩
            let y : Nat → Value := fun j => if j = i then v else x j
            have yi : y i = v := if_pos rfl
            have yo : ∀ j, j ≠ i → y j = x j := fun j hj => if_neg hj
            have hirr : ∀ j ∈ reach ops ops.size i, j ≠ i := fun j hj e => by
              subst e
              rw [hreach j hj] at hun; cases hun
            have hGy : ∀ j, listed.getD j false = true → ∀ p, ops[j]? = some p → G j y = G j x := fun j hj p hp => by
              refine gdep j p (lt_of_listed j hj) hp y x fun m hm => yo m fun e => ?_
              subst e
              rcases hm with hm | rfl
              · have := reach_listed (L := fun j => listed.getD j false = true) hcl ops.size j (fun q hq e he hb => hcl j hj q hq e he hb) m hm
                rw [this] at hun; cases hun
              · rw [hj] at hun; cases hun
            have hla' : Laid ops a0 G y (fun j => listed.getD j false = true) a := by
              refine ⟨hla.defers, hla.size, fun j t hj ht hs => ?_, hla.off⟩
              obtain ⟨p, hp, _⟩ := Option.bind_eq_some_iff.1 ht
              rw [hGy j hj p hp]
              exact hla.on j t hj ht hs
            have hlaid2 : Laid ops a0 G y (fun j => (listed.setIfInBounds i true).getD j false = true) (a.put o.dst v) := by
              have := hla'.put i hdist
              rw [hd, show G i y = v by rw [hg.1]; show D (y i) = v; rw [yi]; exact hg.2 _ _ _ hVv] at this
              have e : (fun j => listed.getD j false = true ∨ j = i) = fun j => (listed.setIfInBounds i true).getD j false = true := funext fun j => propext (hset j).symm
              rwa [e] at this
            refine ih _ _ w' y hsz' hfu' hcl' htl' hlaid2 hS' fun j V' hj hN => ?_
            rw [hset] at hj
            by_cases e : j = i
            · subst e
              rw [hn] at hN
              cases hN
              rw [yi]
              exact hst.2 x y w' v (fun m hm => (yo m (hirr m (hus m hm))).symm) hVv
            · have hj' := hj.resolve_right e
              rw [yo j e]
              have hlo := hNw j V' hj' hN
              have hlt' : j < ops.size := by
                by_cases h : j < ops.size
                · exact h
                · rw [Array.getD_eq_getD_getElem?, Array.getElem?_eq_none (by omega)] at hj'; cases hj'
              obtain ⟨Uj, _, hsj⟩ := hspec j ops[j] (Nat.zero_le _) (by rw [htn]; have := lt_of_listed j hj'; omega) (Array.getElem?_eq_getElem hlt')
              rcases hsj with ⟨_, _, h0⟩ | ⟨_, _, _, h0, _⟩ | ⟨us2, V2, _, hus2, h0, _, hst2, _⟩
              · rw [h0] at hN; cases hN
              · rw [h0] at hN; cases hN
              · rw [h0] at hN
                cases hN
                exact hst2.2 x y w' _ (fun m hm => (yo m fun e => by
                  subst e
                  have := reach_listed (L := fun j => listed.getD j false = true) hcl ops.size j (fun q hq e he hb => hcl j hj' q hq e he hb) m (hus2 m hm)
                  rw [this] at hun; cases hun).symm) (hst2.1 _ _ _ _ hlo hT)
          · refine Oper.wp_mono ?_ (hop x w hSw (know us hus))
            rintro a' w' ⟨v, h1, h2, h3, h4⟩
            exact ⟨v, h1, h2, h3, h4⟩
      rw [show fuel + 1 + (ops.size - n) = (fuel + (ops.size - n)) + 1 by omega]
      refine ⟨fun hr => ?_, step⟩
      exfalso
      have hall : ∀ i, i < ops.size → listed.getD i false = true := by
        intro i
        induction i using Nat.strongRecOn with
        | _ i ihi =>
          intro hi
          by_cases hn : listed.getD i false = true
          · exact hn
          · have hli : i < listed.size := by omega
            have : i ∈ Region.ready .any ops listed := mem_ready.2 ⟨by
                simp only [Array.getD_eq_getD_getElem?, Array.getElem?_eq_getElem hli, Option.getD_some, Bool.not_eq_true] at hn ⊢
                exact hn, ops[i], Array.getElem?_eq_getElem hi, fun e he hb => ihi e.on (c2 i _ (Array.getElem?_eq_getElem hi) e he hb) (by have := c2 i _ (Array.getElem?_eq_getElem hi) e he hb; omega)⟩
            rw [hr] at this; simp at this
      have h1 := hall j0 (by omega)
      rw [getD_both hj0.2] at h1
      cases h1
  have hcount : (unlistedTo n (Array.replicate ops.size false)).length = n := by
    unfold unlistedTo
    rw [List.filter_eq_self.2, List.length_range]
    intro i hi
    have hi' : i < ops.size := by have := List.mem_range.1 hi; omega
    simp [hi']
  have := main n _ a0 w0 (fun _ => undef) (by simp) hcount (fun i hi => ?_) (fun t _ ht => getD_in (by simpa using ht) (getD_replicate_false _ _)) ⟨rfl, rfl, fun i t hi => ?_, fun _ _ => rfl⟩ hS (fun i V hi => ?_)
  · rwa [show n + (ops.size - n) = ops.size by omega] at this
  all_goals
    exfalso
    rw [getD_replicate_false] at hi
    cases hi

theorem wp_region_rs {id : Nat} {a : Act} {w : World} (S : World → Prop) (T : World → World → Prop) (hm : P.follows .mixedOrders = true) (hc : regOk ops = true) (hS : S w.drew) (h : RS P ops T S Q 0 ops.toList (fun _ => a) []) : (Code.region id ops true).wp P Q a w :=
  wp_region_any hm (RS.any hc h hS)
theorem wp_region_rs_tail {id : Nat} {a : Act} {w : World} (n : Nat) (S : World → Prop) (T : World → World → Prop) (hm : P.follows .mixedOrders = true) (hc : regOkTo n ops = true) (ht : tailOk ops n = true) (hS : S w.drew) (h : RS P ops T S (fun _ a w => wpList P ops Q (ops.toList.drop n) a w) 0 (ops.toList.take n) (fun _ => a) []) : (Code.region id ops true).wp P Q a w :=
  wp_region_any hm (RS.tail hc ht h hS)
end

/-! ### The same, where nothing old turns: S is 'as at the start W but for new blocks' -/
section
variable {P : Program} {ops : Array Oper} {W : World} {Q : Exit → Act → World → Prop} {k : Nat} {o : Oper} {rest : List Oper} {F : (Nat → Value) → Act} {U : List (Nat × ((Nat → Value) → World → Value → Prop))}
abbrev Kept : World → World → Prop := Mod (fun _ => False)
theorem wp_region_mod_tail {l : List Oper} {id : Nat} {a : Act} (n : Nat) (hm : P.follows .mixedOrders = true) (hc : regOkTo n l.toArray = true) (ht : tailOk l.toArray n = true) (h : RS P l.toArray Kept (Kept W) (fun _ a w => wpList P l.toArray Q (l.drop n) a w) 0 (l.take n) (fun _ => a) []) : (Code.region id l.toArray true).wp P Q a W :=
  wp_region_rs_tail n (Kept W) Kept hm hc ht (Mod.refl _ W).drew (by simpa using h)
theorem RM.done (h : ∀ x w, Kept W w → (∀ u ∈ U, u.2 x w (x u.1)) → Q .normal (F x) w) : RS P ops Kept (Kept W) Q k [] F U := RS.done h
theorem RM.skip (hw : ∀ x, Region.wanted o (yielded ops (F x).tmps) = false) (h : RS P ops Kept (Kept W) Q (k + 1) rest (fun x => (F x).put o.dst undef) U) : RS P ops Kept (Kept W) Q k (o :: rest) F U := RS.skip hw h
theorem wp_of_run {a : Act} {w : World} {v : Value} {K : Act → World → Prop} (h : (execOp a.eval o).run P w = .ok (.value v) w) (hK : K (a.put o.dst v) w) : o.wp P a w K Q := by
  unfold Oper.wp
  rw [h]
  exact hK
theorem wp_of_enter {a : Act} {w : World} {f : FuncId} {args : Array Value} {K : Act → World → Prop} {R : Ending → World → Prop} (h : (execOp a.eval o).run P w = .ok (.enter f args) w) (hc : Calls P f args w R) (hK : ∀ e w', R e w' → ∃ v, e = .returned v ∧ K (a.put o.dst v) w') : o.wp P a w K Q := by
  unfold Oper.wp
  rw [h, Oper.upon_enter]
  refine hc.mono fun e w' hr => ?_
  obtain ⟨v, rfl, h2⟩ := hK e w' hr
  exact h2
/-- A copy, an address, arithmetic, a load of what stands. -/
theorem RM.const {v : Value} (hw : ∀ x, Region.wanted o (yielded ops (F x).tmps) = true) (ho : ∀ x w, Kept W w → (execOp (F x).eval o).run P w = .ok (.value v) w)
    (h : RS P ops Kept (Kept W) Q (k + 1) rest (fun x => (F x).put o.dst v) U) : RS P ops Kept (Kept W) Q k (o :: rest) F U :=
  RS.val [] (fun _ => v) rfl (fun _ _ _ => rfl) hw (fun x w hS _ => wp_of_run (ho x w hS) ⟨rfl, hS, Mod.refl _ _⟩) h
/-- A value that hangs on what earlier calls of the region handed back. -/
theorem RM.val (us : List Nat) (g : (Nat → Value) → Value) (hus : (us.all fun i => (reach ops ops.size k).contains i) = true) (hg : ∀ x y, (∀ i ∈ us, x i = y i) → g x = g y) (hw : ∀ x, Region.wanted o (yielded ops (F x).tmps) = true)
    (ho : ∀ x w, Kept W w → (∀ u ∈ U, u.1 ∈ us → u.2 x w (x u.1)) → (execOp (F x).eval o).run P w = .ok (.value (g x)) w)
    (h : RS P ops Kept (Kept W) Q (k + 1) rest (fun x => (F x).put o.dst (g x)) U) : RS P ops Kept (Kept W) Q k (o :: rest) F U :=
  RS.val us g hus hg hw (fun x w hS hK => wp_of_run (ho x w hS hK) ⟨rfl, hS, Mod.refl _ _⟩) h
/-- A call whose answer is known. -/
theorem RM.call {v : Value} {f : FuncId} {args : (Nat → Value) → Array Value} (us : List Nat) (hus : (us.all fun i => (reach ops ops.size k).contains i) = true) (hw : ∀ x, Region.wanted o (yielded ops (F x).tmps) = true)
    (hr : ∀ x w, Kept W w → (execOp (F x).eval o).run P w = .ok (.enter f (args x)) w)
    (hc : ∀ x w, Kept W w → (∀ u ∈ U, u.1 ∈ us → u.2 x w (x u.1)) → Calls P f (args x) w fun e w' => e = .returned v ∧ Kept w w')
    (h : RS P ops Kept (Kept W) Q (k + 1) rest (fun x => (F x).put o.dst v) U) : RS P ops Kept (Kept W) Q k (o :: rest) F U :=
  RS.val us (fun _ => v) hus (fun _ _ _ => rfl) hw (fun x w hS hK => wp_of_enter (hr x w hS) (hc x w hS hK) fun _ _ ⟨he, hm⟩ => ⟨v, he, rfl, hS.thenNone hm, hm⟩) h
/-- The same, of arguments that are known. -/
theorem RM.callc {v : Value} {f : FuncId} {args : Array Value} (hw : ∀ x, Region.wanted o (yielded ops (F x).tmps) = true)
    (hr : ∀ x w, Kept W w → (execOp (F x).eval o).run P w = .ok (.enter f args) w)
    (hc : ∀ w, Kept W w → Calls P f args w fun e w' => e = .returned v ∧ Kept w w')
    (h : RS P ops Kept (Kept W) Q (k + 1) rest (fun x => (F x).put o.dst v) U) : RS P ops Kept (Kept W) Q k (o :: rest) F U :=
  RM.call [] rfl hw hr (fun _ w hS _ => hc w hS) h
/-- A call that makes memory: what it hands back is told by V. -/
theorem RM.new {f : FuncId} {args : (Nat → Value) → Array Value} (us : List Nat) (V : World → Value → Prop) (hus : (us.all fun i => (reach ops ops.size k).contains i) = true) (hV : ∀ w w' v, V w v → Kept w w' → V w' v) (hw : ∀ x, Region.wanted o (yielded ops (F x).tmps) = true)
    (hr : ∀ x w, Kept W w → (execOp (F x).eval o).run P w = .ok (.enter f (args x)) w)
    (hc : ∀ x w, Kept W w → (∀ u ∈ U, u.1 ∈ us → u.2 x w (x u.1)) → Calls P f (args x) w fun e w' => ∃ v, e = .returned v ∧ V w' v ∧ Kept w w')
    (h : RS P ops Kept (Kept W) Q (k + 1) rest (fun x => (F x).put o.dst (x k)) ((k, fun _ => V) :: U)) : RS P ops Kept (Kept W) Q k (o :: rest) F U :=
  RS.new us V id (fun _ _ _ => rfl) hus hV hw (fun x w hS hK => wp_of_enter (hr x w hS) (hc x w hS hK) fun _ _ ⟨v, he, h1, hm⟩ => ⟨v, he, v, rfl, h1, hS.thenNone hm, hm⟩) h
theorem Calls.kept {f : FuncId} {args : Array Value} {w : World} {r : Ending} (h : Calls P f args w fun e w' => e = r ∧ w = w') : Calls P f args w fun e w' => e = r ∧ Kept w w' :=
  h.mono fun _ _ ⟨he, hw⟩ => ⟨he, hw ▸ Mod.refl _ _⟩
/-- What a cell holds at the start, as a rule for all worlds of the region. -/
theorem hold {a : Addr} {v : Value} (h : W.cell? a = some v) : ∀ w, Kept W w → w.cell? a = some v := fun _ hm => hm.keep a v h
/-- A new block with known cells, laid behind W: what a slice literal is. -/
def LitAt (W : World) (e : TypeId) (n : Nat) (vals : Array Value) (w : World) (v : Value) : Prop :=
  ∃ g, v = .slice (some ⟨g, 0, none⟩) n n ∧ W.heap.size ≤ g ∧ w.heap[g]? = some (.cells vals e (0, 0))
theorem RM.lit {e : TypeId} {n : Nat} {vals : Array Value} (hw : ∀ x, Region.wanted o (yielded ops (F x).tmps) = true)
    (hr : ∀ x w, Kept W w → (execOp (F x).eval o).run P w = .ok (.value (.slice (some ⟨w.heap.size, 0, none⟩) n n)) (w.alloc (.cells vals e)))
    (h : RS P ops Kept (Kept W) Q (k + 1) rest (fun x => (F x).put o.dst (x k)) ((k, fun _ => LitAt W e n vals) :: U)) : RS P ops Kept (Kept W) Q k (o :: rest) F U :=
  RS.new [] (LitAt W e n vals) id (fun _ _ _ => rfl) rfl (fun w w' v ⟨g, h1, h2, h3⟩ hm => ⟨g, h1, h2, hm.blk h3 (fun f => f)⟩) hw
    (fun x w hS _ => by
      unfold Oper.wp
      rw [hr x w hS]
      exact ⟨_, rfl, ⟨_, rfl, hS.size, heap_alloc_new w _⟩, hS.alloc _, (Mod.refl _ w).alloc _⟩) h
theorem LitAt.cells {e : TypeId} {n : Nat} {vals : Array Value} {w : World} {v : Value} (h : LitAt W e n vals w v) : ∃ g, v = .slice (some ⟨g, 0, none⟩) n n ∧ W.heap.size ≤ g ∧ g < w.heap.size ∧ ∀ j u, vals.toList[j]? = some u → w.cell? ((⟨g, 0, none⟩ : Addr).add j) = some u := by
  obtain ⟨g, h1, h2, h3⟩ := h
  refine ⟨g, h1, h2, (Array.getElem?_eq_some_iff.1 h3).1, fun j u hu => ?_⟩
  have ea : (⟨g, 0, none⟩ : Addr).add j = ⟨g, j, none⟩ := by unfold Addr.add; split <;> simp_all
  rw [ea]
  exact blk_cell (l := vals.toList) h3 hu
end

end Go.Proofs.YtkkjjhooamlljaaGreatDoor
namespace Go.Proofs.YtkkjjhooamlljaaGreatDoor
open Go.RowKit

/-- A fact on memory that is only read, and the blocks that it speaks of. -/
structure Res where
  foot : Nat → Prop
  says : World → Prop
  stable : ∀ (S : Nat → Prop) (w w' : World), says w → Mod S w w' → (∀ k, foot k → ¬ S k) → says w'
/-- A slice of the call's own. -/
structure Own where
  v : Value
  e : TypeId
  sz : Nat
  n : Nat
  xs : List Value
/-- A block of the call's own. -/
structure Blk where
  g : Nat
  cells : List Value
  T : TypeId

/-- What the call may turn of old memory: the blocks p; of these q are held as blocks of the call's own; J is kept by whatever turns none but these. -/
structure Rg (W : World) where
  p : Nat → Prop
  q : Nat → Prop
  J : World → Prop
  low : ∀ k, p k → k < W.heap.size
  sub : ∀ k, q k → p k
  keep : ∀ (S : Nat → Prop) (w w' : World), J w → Mod S w w' → (∀ k, k < W.heap.size → S k → q k) → J w'
/-- Nothing. -/
def Rg.none (W : World) : Rg W := ⟨fun _ => False, fun _ => False, fun _ => True, fun _ h => h.elim, fun _ h => h, fun _ _ _ _ _ _ => trivial⟩

structure Loc (W : World) (R : Rg W) (L : List Blk) (O : List Own) (E : List Res) (w : World) : Prop where
  mod : Mod R.p W w
  inv : R.J w
  blk : ∀ b ∈ L, (R.q b.g ∨ W.heap.size ≤ b.g) ∧ w.heap[b.g]? = some (.cells b.cells.toArray b.T (0, 0))
  apart : L.Pairwise (fun a b => a.g ≠ b.g)
  own : ∀ o ∈ O, w.ownsRow W.heap.size o.e o.sz o.v o.n o.xs ∧ ∀ b ∈ L, o.v.ownBlock ≠ some b.g
  ownApart : O.Pairwise (fun a b => ∀ k, a.v.ownBlock = some k → b.v.ownBlock ≠ some k)
  res : ∀ F ∈ E, F.says w ∧ (∀ k, F.foot k → k < w.heap.size) ∧ (∀ b ∈ L, ¬ F.foot b.g) ∧ ∀ o ∈ O, ∀ k, o.v.ownBlock = some k → ¬ F.foot k
  resNew : ∀ F ∈ E, ∀ k, F.foot k → W.heap.size ≤ k
  resApart : E.Pairwise (fun F G => ∀ k, F.foot k → ¬ G.foot k)

section
variable {W : World} {R : Rg W} {L : List Blk} {O : List Own} {E : List Res} {w w' : World}

theorem ownBlock_lt {w : World} {base e sz n : Nat} {v : Value} {xs : List Value} (h : w.ownsRow base e sz v n xs) {k : Nat} (hk : v.ownBlock = some k) : base ≤ k ∧ k < w.heap.size := by
  exact h.lt k hk
theorem ownsRow_keep {w w' : World} {base e sz n : Nat} {v : Value} {xs : List Value} (h : w.ownsRow base e sz v n xs) {S : Nat → Prop} (hm : Mod S w w') (hs : ∀ k, v.ownBlock = some k → ¬ S k) : w'.ownsRow base e sz v n xs := by
  refine ⟨h.1, ?_⟩
  rcases h.2 with h2 | ⟨g, cap, cur, hv, hb, hh, hrest⟩
  · exact .inl h2
  · exact .inr ⟨g, cap, cur, hv, hb, hm.blk hh (hs g (by rw [hv]; rfl)), hrest⟩
theorem Loc.blk_lt (h : Loc W R L O E w) {b : Blk} (hb : b ∈ L) : b.g < w.heap.size := (Array.getElem?_eq_some_iff.1 (h.blk b hb).2).1

/-- What turns nothing that is held keeps the whole. -/
theorem Loc.frame {S : Nat → Prop} (h : Loc W R L O E w) (hm : Mod S w w') (h0 : ∀ k, k < W.heap.size → S k → R.q k) (h1 : ∀ b ∈ L, ¬ S b.g) (h2 : ∀ o ∈ O, ∀ k, o.v.ownBlock = some k → ¬ S k) (h3 : ∀ F ∈ E, ∀ k, F.foot k → ¬ S k) : Loc W R L O E w' where
  mod := h.mod.then hm fun k hk hs => R.sub k (h0 k hk hs)
  inv := R.keep S w w' h.inv hm h0
  blk := fun b hb => ⟨(h.blk b hb).1, hm.blk (h.blk b hb).2 (h1 b hb)⟩
  apart := h.apart
  own := fun o ho => ⟨ownsRow_keep (h.own o ho).1 hm (h2 o ho), (h.own o ho).2⟩
  ownApart := h.ownApart
  res := fun F hF => ⟨F.stable S w w' (h.res F hF).1 hm (h3 F hF), fun k hk => Nat.lt_of_lt_of_le ((h.res F hF).2.1 k hk) hm.size, (h.res F hF).2.2⟩
  resNew := h.resNew
  resApart := h.resApart
theorem Loc.keep (h : Loc W R L O E w) (hm : Mod (fun _ => False) w w') : Loc W R L O E w' := h.frame hm (fun _ _ f => f.elim) (fun _ _ f => f) (fun _ _ _ _ f => f) (fun _ _ _ _ f => f)
/-- A new block. -/
theorem Loc.made (h : Loc W R L O E w) (hm : Mod (fun _ => False) w w') {g : Nat} (hg : w.heap.size ≤ g) {cells : List Value} {T : TypeId} (hc : w'.heap[g]? = some (.cells cells.toArray T (0, 0))) : Loc W R (⟨g, cells, T⟩ :: L) O E w' := by
  have h' := h.keep hm
  exact {
    mod := h'.mod
    inv := h'.inv
    blk := fun b hb => by
      rcases List.mem_cons.1 hb with rfl | hb
      · exact ⟨.inr (Nat.le_trans h.mod.size hg), hc⟩
      · exact h'.blk b hb
    apart := List.pairwise_cons.2 ⟨fun b hb e => by have := h.blk_lt hb; simp only at e; omega, h.apart⟩
    own := fun o ho => ⟨(h'.own o ho).1, fun b hb e => by
      rcases List.mem_cons.1 hb with rfl | hb
      · have := (ownBlock_lt (h.own o ho).1 e).2; simp only at this; omega
      · exact (h.own o ho).2 b hb e⟩
    ownApart := h.ownApart
    res := fun F hF => ⟨(h'.res F hF).1, (h'.res F hF).2.1, fun b hb f => by
      rcases List.mem_cons.1 hb with rfl | hb
      · have := (h.res F hF).2.1 _ f; simp only at this; omega
      · exact (h.res F hF).2.2.1 b hb f, (h.res F hF).2.2.2⟩
    resNew := h.resNew
    resApart := h.resApart }
theorem Loc.alloc (h : Loc W R L O E w) (cells : List Value) (T : TypeId) : Loc W R (⟨w.heap.size, cells, T⟩ :: L) O E (w.alloc (.cells cells.toArray T)) :=
  h.made ((Mod.refl _ w).alloc _) (Nat.le_refl _) (heap_alloc_new w _)

theorem pairwise_ne_of {α : Type} {r : α → α → Prop} (hr : ∀ a b, r a b → r b a) {l : List α} (h : l.Pairwise r) {i j : Nat} {a b : α} (ha : l[i]? = some a) (hb : l[j]? = some b) (hij : i ≠ j) : r a b := by
  have hi := List.getElem?_eq_some_iff.1 ha
  have hj := List.getElem?_eq_some_iff.1 hb
  obtain ⟨hi1, rfl⟩ := hi
  obtain ⟨hj1, rfl⟩ := hj
  rw [List.pairwise_iff_getElem] at h
  rcases Nat.lt_or_gt_of_ne hij with hlt | hlt
  · exact h i j hi1 hj1 hlt
  · exact hr _ _ (h j i hj1 hi1 hlt)
theorem mem_set_cases {α : Type} {l : List α} {i : Nat} {x y : α} (h : y ∈ l.set i x) : y = x ∨ ∃ j, j ≠ i ∧ l[j]? = some y := by
  obtain ⟨j, hj⟩ := List.mem_iff_getElem?.1 h
  rw [List.getElem?_set] at hj
  split at hj
  · split at hj
    · left; simpa using hj.symm
    · cases hj
  · exact .inr ⟨j, fun e => by subst e; contradiction, hj⟩

/-- A block of the call's own, turned. -/
theorem Loc.turned {g : Nat} {cells cells' : List Value} {T : TypeId} {i : Nat} (h : Loc W R L O E w) (hi : L[i]? = some ⟨g, cells, T⟩) (hm : Mod (fun k => k = g) w w') (hc : w'.heap[g]? = some (.cells cells'.toArray T (0, 0))) : Loc W R (L.set i ⟨g, cells', T⟩) O E w' := by
  have hmem : (⟨g, cells, T⟩ : Blk) ∈ L := List.mem_iff_getElem?.2 ⟨i, hi⟩
  have hR := (h.blk _ hmem).1
  exact {
    mod := h.mod.then hm (fun k hk e => by subst e; rcases hR with hR | hR; exact R.sub _ hR; (simp only at hR; omega))
    inv := R.keep _ w w' h.inv hm (fun k hk e => by subst e; rcases hR with hR | hR; exact hR; (simp only at hR; omega))
    blk := fun b hb => by
      rcases mem_set_cases hb with rfl | ⟨j, hj, hb⟩
      · exact ⟨hR, hc⟩
      · have hne : b.g ≠ g := fun e => (pairwise_ne_of (fun _ _ h e => h e.symm) h.apart hb hi hj) e
        exact ⟨(h.blk b (List.mem_iff_getElem?.2 ⟨j, hb⟩)).1, hm.blk (h.blk b (List.mem_iff_getElem?.2 ⟨j, hb⟩)).2 hne⟩
    apart := by
      have h1 := h.apart
      have e : (L.set i ⟨g, cells', T⟩).map (·.g) = L.map (·.g) := by
        rw [List.map_set]
        refine List.ext_getElem? fun j => ?_
        rw [List.getElem?_set]
        split
        · subst_vars
          split
          · simp [hi]
          · rename_i hlt; rw [List.getElem?_eq_none (by simpa using hlt)]
        · rfl
      have h2 : (L.map (·.g)).Pairwise (· ≠ ·) := List.pairwise_map.2 h1
      rw [← e] at h2
      exact List.pairwise_map.1 h2
    own := fun o ho => ⟨ownsRow_keep (h.own o ho).1 hm (fun k hk e => by subst e; exact (h.own o ho).2 _ hmem hk), fun b hb e => by
      rcases mem_set_cases hb with rfl | ⟨j, hj, hb⟩
      · exact (h.own o ho).2 _ hmem e
      · exact (h.own o ho).2 b (List.mem_iff_getElem?.2 ⟨j, hb⟩) e⟩
    ownApart := h.ownApart
    res := fun F hF => ⟨F.stable _ w w' (h.res F hF).1 hm (fun k hk e => by subst e; exact (h.res F hF).2.2.1 _ hmem hk), fun k hk => Nat.lt_of_lt_of_le ((h.res F hF).2.1 k hk) hm.size, fun b hb f => by
      rcases mem_set_cases hb with rfl | ⟨j, hj, hb⟩
      · exact (h.res F hF).2.2.1 _ hmem f
      · exact (h.res F hF).2.2.1 b (List.mem_iff_getElem?.2 ⟨j, hb⟩) f, (h.res F hF).2.2.2⟩
    resNew := h.resNew
    resApart := h.resApart }
theorem Loc.set {g j : Nat} {cells : List Value} {T : TypeId} {i : Nat} (h : Loc W R L O E w) (hi : L[i]? = some ⟨g, cells, T⟩) (v : Value) : Loc W R (L.set i ⟨g, cells.set j v, T⟩) O E (w.setCell ⟨g, j, none⟩ v) := by
  have hmem : (⟨g, cells, T⟩ : Blk) ∈ L := List.mem_iff_getElem?.2 ⟨i, hi⟩
  refine h.turned hi ((Mod.refl _ w).setAt _ _ _) ?_
  have hb := (h.blk _ hmem).2
  simp only at hb
  simp [World.setCell, Array.getElem?_modify, hb]
/-- A new fact on new memory. -/
theorem Loc.told (h : Loc W R L O E w) (hm : Mod (fun _ => False) w w') {F1 : Res} (h1 : F1.says w') (h2 : ∀ k, F1.foot k → w.heap.size ≤ k ∧ k < w'.heap.size) : Loc W R L O (F1 :: E) w' := by
  have h' := h.keep hm
  exact {
    mod := h'.mod, inv := h'.inv, blk := h'.blk, apart := h.apart, own := h'.own, ownApart := h.ownApart
    res := fun F hF => by
      rcases List.mem_cons.1 hF with rfl | hF
      · refine ⟨h1, fun k hk => (h2 k hk).2, fun b hb f => ?_, fun o ho k hk f => ?_⟩
        · have := h.blk_lt hb; have := (h2 _ f).1; omega
        · have := (ownBlock_lt (h.own o ho).1 hk).2; have := (h2 _ f).1; omega
      · exact h'.res F hF
    resNew := fun F hF k hk => by
      rcases List.mem_cons.1 hF with rfl | hF
      · exact Nat.le_trans h.mod.size (h2 k hk).1
      · exact h.resNew F hF k hk
    resApart := List.pairwise_cons.2 ⟨fun G hG k hk hk' => by have := (h.res G hG).2.1 k hk'; have := (h2 k hk).1; omega, h.resApart⟩ }
/-- Memory that a fact speaks of, turned: another fact on it. -/
theorem Loc.retold {F F' : Res} {i : Nat} (h : Loc W R L O E w) (hi : E[i]? = some F) (hm : Mod F.foot w w') (h1 : F'.says w') (h2 : ∀ k, F'.foot k → F.foot k) : Loc W R L O (E.set i F') w' := by
  have hmem : F ∈ E := List.mem_iff_getElem?.2 ⟨i, hi⟩
  obtain ⟨_, f2, f3, f4⟩ := h.res F hmem
  have f5 := h.resNew F hmem
  have far : ∀ (j : Nat) (G : Res), j ≠ i → E[j]? = some G → ∀ k, G.foot k → ¬ F.foot k := fun j G hj hG k hk hf =>
    pairwise_ne_of (r := fun A B : Res => ∀ k, A.foot k → ¬ B.foot k) (fun a b hab k hb ha => hab k ha hb) h.resApart hG hi hj k hk hf
  exact {
    mod := h.mod.then hm fun k hk e => by have := f5 k e; omega
    inv := R.keep _ w w' h.inv hm fun k hk e => by have := f5 k e; omega
    blk := fun b hb => ⟨(h.blk b hb).1, hm.blk (h.blk b hb).2 (f3 b hb)⟩
    apart := h.apart
    own := fun o ho => ⟨ownsRow_keep (h.own o ho).1 hm (f4 o ho), (h.own o ho).2⟩
    ownApart := h.ownApart
    res := fun G hG => by
      rcases mem_set_cases hG with rfl | ⟨j, hj, hG⟩
      · exact ⟨h1, fun k hk => Nat.lt_of_lt_of_le (f2 k (h2 k hk)) hm.size, fun b hb f => f3 b hb (h2 _ f), fun o ho k hk f => f4 o ho k hk (h2 _ f)⟩
      · have hGm : G ∈ E := List.mem_iff_getElem?.2 ⟨j, hG⟩
        exact ⟨G.stable _ w w' (h.res G hGm).1 hm (far j G hj hG), fun k hk => Nat.lt_of_lt_of_le ((h.res G hGm).2.1 k hk) hm.size, (h.res G hGm).2.2⟩
    resNew := fun G hG k hk => by
      rcases mem_set_cases hG with rfl | ⟨j, hj, hG⟩
      · exact f5 k (h2 k hk)
      · exact h.resNew G (List.mem_iff_getElem?.2 ⟨j, hG⟩) k hk
    resApart := by
      rw [List.pairwise_iff_getElem]
      intro a b ha hb hab k hk hk'
      have ea : (E.set i F')[a]? = some (E.set i F')[a] := List.getElem?_eq_getElem ha
      have eb : (E.set i F')[b]? = some (E.set i F')[b] := List.getElem?_eq_getElem hb
      rw [List.getElem?_set] at ea eb
      rw [List.length_set] at ha hb
      by_cases h3 : i = a
      · by_cases h4 : i = b
        · omega
        · rw [if_pos h3, if_pos (show i < E.length by omega)] at ea
          rw [if_neg h4] at eb
          rw [← Option.some.inj ea] at hk
          exact far b _ (fun e => h4 e.symm) eb k hk' (h2 k hk)
      · rw [if_neg h3] at ea
        by_cases h4 : i = b
        · rw [if_pos h4, if_pos (show i < E.length by omega)] at eb
          rw [← Option.some.inj eb] at hk'
          exact far a _ (fun e => h3 e.symm) ea k hk (h2 k hk')
        · rw [if_neg h4] at eb
          exact pairwise_ne_of (r := fun A B : Res => ∀ k, A.foot k → ¬ B.foot k) (fun a b hab k hb ha => hab k ha hb) h.resApart ea eb (by omega) k hk hk' }
end

/-! ### Frames -/
def look : List (Nat × Value) → Nat → Option Value
  | [], _ => none
  | (d, v) :: f, t => bif Nat.beq t d then some v else look f t
def evO (f : List (Nat × Value)) : Operand → Option Value
  | .tmp t => look f t
  | .const v => some v
  | .global g => some (.pointer (some ⟨g, 0, none⟩))
  | .func x => some (.func (.func x) #[] #[])
structure Fr (n : Nat) (f : List (Nat × Value)) (a : Act) : Prop where
  defers : a.defers = []
  size : n ≤ a.tmps.size
  at_ : ∀ t v, look f t = some v → a.tmps[t]? = some v
theorem Fr.eval {n : Nat} {f : List (Nat × Value)} {a : Act} (h : Fr n f a) {x : Operand} {v : Value} (hx : evO f x = some v) : a.eval x = v := by
  cases x with
  | tmp t => simp [Act.eval, Array.getD_eq_getD_getElem?, h.at_ t v hx]
  | const u => exact Option.some.inj hx
  | global g => exact Option.some.inj hx
  | func g => exact Option.some.inj hx
theorem Fr.put {n : Nat} {f : List (Nat × Value)} {a : Act} (h : Fr n f a) {d : Nat} (hd : Nat.blt d n = true) (v : Value) : Fr n ((d, v) :: f) (a.put (some d) v) where
  defers := h.defers
  size := by simpa [Act.put] using h.size
  at_ := fun t u hu => by
    have hd' : d < a.tmps.size := Nat.lt_of_lt_of_le (by simpa using hd) h.size
    simp only [look, cond_eq_ite] at hu
    simp only [Act.put, Array.getElem?_setIfInBounds]
    by_cases e : t = d
    · subst e
      simpa [hd'] using hu
    · have e' : Nat.beq t d = false := Bool.eq_false_iff.2 fun h => e (Nat.eq_of_beq_eq_true h)
      rw [e'] at hu
      simp only [Bool.false_eq_true, if_false] at hu
      rw [if_neg (fun h => e h.symm)]
      exact h.at_ t u hu
theorem Fr.puto {n : Nat} {f : List (Nat × Value)} {a : Act} (h : Fr n f a) (v : Value) : Fr n f (a.put none v) := h
/-- What is told of a frame may be told in part. -/
def subF (f f' : List (Nat × Value)) : Prop := ∀ t v, look f' t = some v → look f t = some v
theorem Fr.sub {n : Nat} {f f' : List (Nat × Value)} {a : Act} (h : Fr n f a) (hs : subF f f') : Fr n f' a := ⟨h.defers, h.size, fun t v ht => h.at_ t v (hs t v ht)⟩
theorem subF_nil (f : List (Nat × Value)) : subF f [] := fun _ _ h => by cases h
theorem subF_cons {f f' : List (Nat × Value)} {d : Nat} {v : Value} (h : look f d = some v) (hs : subF f f') : subF f ((d, v) :: f') := fun t u hu => by
  simp only [look, cond_eq_ite] at hu
  by_cases e : t = d
  · subst e; rw [h]; simpa using hu
  · have e' : Nat.beq t d = false := Bool.eq_false_iff.2 fun h => e (Nat.eq_of_beq_eq_true h)
    rw [e'] at hu
    exact hs t u (by simpa using hu)

theorem subF_consv {f f' : List (Nat × Value)} {d : Nat} {u v : Value} (h : look f d = some u) (hu : u = v) (hs : subF f f') : subF f ((d, v) :: f') := subF_cons (h.trans (by rw [hu])) hs

/-! ### Walks -/
section
variable (P : Program) (n : Nat) (W : World) (R : Rg W)
structure SX (L : List Blk) (O : List Own) (E : List Res) (f : List (Nat × Value)) (c : Code) (Q : Exit → Act → World → Prop) : Prop where
  run : ∀ a w, Fr n f a → Loc W R L O E w → c.wp P Q a w
structure SXl (ops : Array Oper) (L : List Blk) (O : List Own) (E : List Res) (f : List (Nat × Value)) (l : List Oper) (Q : Exit → Act → World → Prop) : Prop where
  run : ∀ a w, Fr n f a → Loc W R L O E w → wpList P ops Q l a w
structure SQ (L : List Blk) (O : List Own) (E : List Res) (f : List (Nat × Value)) (e : Exit) (Q : Exit → Act → World → Prop) : Prop where
  run : ∀ a w, Fr n f a → Loc W R L O E w → Q e a w
end

section
variable {P : Program} {n : Nat} {W : World} {R : Rg W} {L : List Blk} {O : List Own} {E : List Res} {f : List (Nat × Value)} {Q : Exit → Act → World → Prop} {ops : Array Oper} {rest : List Oper}

theorem qap {x y : Code} (h : SX P n W R L O E f x (Exit.then (y.wp P Q) Q)) : SX P n W R L O E f (.seq x y) Q := ⟨fun a w hf hl => wp_seq (h.run a w hf hl)⟩
theorem SX.block {id : Nat} {c : Code} (h : SX P n W R L O E f c (Exit.inBlock id Q)) : SX P n W R L O E f (.block id c) Q := ⟨fun a w hf hl => wp_block (h.run a w hf hl)⟩
theorem qaE (h : SQ n W R L O E f .normal Q) : SX P n W R L O E f .skip Q := ⟨fun a w hf hl => wp_skip (h.run a w hf hl)⟩
theorem qav (h : SQ n W R L O E f .ret Q) : SX P n W R L O E f .ret Q := ⟨fun a w hf hl => wp_ret (h.run a w hf hl)⟩
theorem SX.exit {id : Nat} (h : SQ n W R L O E f (.exit id) Q) : SX P n W R L O E f (.exit id) Q := ⟨fun a w hf hl => wp_exit (h.run a w hf hl)⟩
theorem SX.cond {c : Operand} {x y : Code} {t : Bool} (hc : evO f c = some (.bool t)) (ht : t = true → SX P n W R L O E f x Q) (hf : t = false → SX P n W R L O E f y Q) : SX P n W R L O E f (.cond c x y) Q :=
  ⟨fun a w hfr hl => wp_cond_split (hfr.eval hc) (fun h => (ht h).run a w hfr hl) (fun h => (hf h).run a w hfr hl)⟩
theorem qao {c : Operand} {x y : Code} (hc : evO f c = some (.bool true)) (h : SX P n W R L O E f x Q) : SX P n W R L O E f (.cond c x y) Q := SX.cond hc (fun _ => h) (fun e => by cases e)
theorem qas {c : Operand} {x y : Code} (hc : evO f c = some (.bool false)) (h : SX P n W R L O E f y Q) : SX P n W R L O E f (.cond c x y) Q := SX.cond hc (fun e => by cases e) (fun _ => h)
theorem qaf {id : Nat} {l : List Oper} (h : SXl P n W R l.toArray L O E f l Q) : SX P n W R L O E f (.region id l.toArray false) Q := ⟨fun a w hf hl => wp_region_lit (h.run a w hf hl)⟩
theorem SX.sub {c : Code} {f' : List (Nat × Value)} (h : SX P n W R L O E f' c Q) (hs : subF f f') : SX P n W R L O E f c Q := ⟨fun a w hf hl => h.run a w (hf.sub hs) hl⟩
theorem qab {y : Code} (h : SX P n W R L O E f y Q) : SQ n W R L O E f .normal (Exit.then (y.wp P Q) Q) := ⟨h.run⟩
theorem qan {K : Act → World → Prop} (h : SQ n W R L O E f .ret Q) : SQ n W R L O E f .ret (Exit.then K Q) := ⟨h.run⟩
theorem SQ.thenExit {K : Act → World → Prop} {id : Nat} (h : SQ n W R L O E f (.exit id) Q) : SQ n W R L O E f (.exit id) (Exit.then K Q) := ⟨h.run⟩
theorem qar {id : Nat} (h : SQ n W R L O E f .normal Q) : SQ n W R L O E f .normal (Exit.inBlock id Q) := ⟨h.run⟩
theorem qaw {id : Nat} (h : SQ n W R L O E f .ret Q) : SQ n W R L O E f .ret (Exit.inBlock id Q) := ⟨h.run⟩
theorem SQ.blockExit {id : Nat} (h : SQ n W R L O E f .normal Q) : SQ n W R L O E f (.exit id) (Exit.inBlock id Q) := ⟨fun a w hf hl => by
  show (if id = id then _ else _); rw [if_pos rfl]; exact h.run a w hf hl⟩
theorem qaC {fn : Func} {R' : Ending → World → Prop} {t : Tmp} {v : Value} (hr : fn.results = #[.tmp t]) (ht : look f t = some v) (h : ∀ w, Loc W R L O E w → R' (.returned v) w) : SQ n W R L O E f .ret (bodyPost P fn R') :=
  ⟨fun a w hf hl => ⟨hf.defers, v, by rw [results_tmp hr, Array.getD_eq_getD_getElem?, hf.at_ t v ht]; rfl, h w hl⟩⟩
theorem qaU {fn : Func} {R' : Ending → World → Prop} {t u : Tmp} {v z : Value} (hr : fn.results = #[.tmp t, .tmp u]) (ht : look f t = some v) (hu : look f u = some z) (h : ∀ w, Loc W R L O E w → R' (.returned (.tuple #[v, z])) w) : SQ n W R L O E f .ret (bodyPost P fn R') :=
  ⟨fun a w hf hl => ⟨hf.defers, _, by rw [results_tmp2 hr, Array.getD_eq_getD_getElem?, Array.getD_eq_getD_getElem?, hf.at_ t v ht, hf.at_ u z hu]; rfl, h w hl⟩⟩

theorem qak (h : SQ n W R L O E f .normal Q) : SXl P n W R ops L O E f [] Q := ⟨h.run⟩

/-- What one operation does: it gives v and turns nothing old. -/
structure OpW (P : Program) (n : Nat) (W : World) (R : Rg W) (L : List Blk) (O : List Own) (E : List Res) (f : List (Nat × Value)) (o : Oper) (v : Value) : Prop where
  run : ∀ a w, Fr n f a → Loc W R L O E w → o.wp P a w (fun a' w' => a' = a.put o.dst v ∧ Mod (fun _ => False) w w') never
theorem OpW.of {o : Oper} {v : Value} (hr : ∀ a w, Fr n f a → Loc W R L O E w → (execOp a.eval o).run P w = .ok (.value v) w) : OpW P n W R L O E f o v := ⟨fun a w hf hl => by
  unfold Oper.wp
  rw [hr a w hf hl, Oper.upon_value]
  exact ⟨rfl, Mod.refl _ _⟩⟩
theorem OpW.enter {o : Oper} {v : Value} {fn : FuncId} {args : Array Value} (hr : ∀ a w, Fr n f a → Loc W R L O E w → (execOp a.eval o).run P w = .ok (.enter fn args) w)
    (hc : ∀ w, Loc W R L O E w → Calls P fn args w fun e w' => e = .returned v ∧ Mod (fun _ => False) w w') : OpW P n W R L O E f o v := ⟨fun a w hf hl => by
  unfold Oper.wp
  rw [hr a w hf hl, Oper.upon_enter]
  refine (hc w hl).mono ?_
  rintro e w' ⟨rfl, hm⟩
  exact ⟨rfl, hm⟩⟩
theorem wp_never {o : Oper} {a : Act} {w : World} {K K' : Act → World → Prop} (h : o.wp P a w K never) (hK : ∀ a w, K a w → K' a w) : o.wp P a w K' Q := by
  unfold Oper.wp at *
  generalize (execOp a.eval o).run P w = r at *
  cases r with
  | ok x w' =>
    cases x <;> simp only [Oper.upon] at h ⊢
    case value v => exact hK _ _ h
    case skip => exact hK _ _ h
    case defer d => exact hK _ _ h
    case enter f args =>
      refine Calls.mono h fun e w'' he => ?_
      cases e with
      | returned u => exact hK _ _ he
      | panicked c => exact he.elim
      | outgrown => obtain ⟨_, _, hf⟩ := he; exact hf.elim
    case row row args => exact Rows.mono h fun u w'' he => hK _ _ he
  | halt x w' => cases x <;> simp only [Oper.upon, never] at h
/-- Is an operation's guard met? -/
def wantO (ops : Array Oper) (f : List (Nat × Value)) (o : Oper) : Option Bool :=
  match o.guard with
  | none => some true
  | some (j, want) => match (ops[j]?).bind (·.dst) with
    | some d => match look f d with
      | some (.bool b) => some (b == want)
      | some (.tuple _) => some false
      | _ => none
    | none => none
theorem wanted_of {o : Oper} {a : Act} {b : Bool} (hf : Fr n f a) (h : wantO ops f o = some b) : Region.wanted o (yielded ops a.tmps) = b := by
  unfold wantO at h
  unfold Region.wanted
  cases hg : o.guard with
  | none => simpa [hg] using h
  | some p =>
    obtain ⟨j, want⟩ := p
    simp only [hg] at h ⊢
    cases hj : ops[j]? with
    | none => simp [hj] at h
    | some q =>
      cases hq : q.dst with
      | none => simp [hj, hq] at h
      | some d =>
        simp only [hj, Option.bind_some, hq] at h
        cases hd : look f d with
        | none => simp [hd] at h
        | some v =>
          have e := hf.at_ d _ hd
          cases v <;> simp [hd] at h
          · rename_i b'
            simp only [yielded, hj, hq, Option.bind_some, e]
            rw [← h]
            cases b' <;> cases want <;> rfl
          · simp only [yielded, hj, hq, Option.bind_some, e]
            rw [h]
            rfl
theorem qaa {o : Oper} {v : Value} {d : Nat} (hr : OpW P n W R L O E f o v) (hdst : o.dst = some d) (hw : wantO ops f o = some true) (hd : Nat.blt d n = true) (h : SXl P n W R ops L O E ((d, v) :: f) rest Q) : SXl P n W R ops L O E f (o :: rest) Q := ⟨fun a w hf hl => by
  unfold wpList
  rw [if_pos (wanted_of hf hw)]
  refine .inl (wp_never (hr.run a w hf hl) ?_)
  rintro a' w' ⟨rfl, hm⟩
  rw [hdst]
  exact h.run _ _ (hf.put hd v) (hl.keep hm)⟩
/-- Nobody takes what it gives. -/
theorem SXl.v0 {o : Oper} {v : Value} (hr : OpW P n W R L O E f o v) (hdst : o.dst = none) (hw : wantO ops f o = some true) (h : SXl P n W R ops L O E f rest Q) : SXl P n W R ops L O E f (o :: rest) Q := ⟨fun a w hf hl => by
  unfold wpList
  rw [if_pos (wanted_of hf hw)]
  refine .inl (wp_never (hr.run a w hf hl) ?_)
  rintro a' w' ⟨rfl, hm⟩
  rw [hdst]
  exact h.run _ _ hf (hl.keep hm)⟩
theorem SXl.no {o : Oper} {d : Nat} (hw : wantO ops f o = some false) (hdst : o.dst = some d) (hd : Nat.blt d n = true) (h : SXl P n W R ops L O E ((d, undef) :: f) rest Q) : SXl P n W R ops L O E f (o :: rest) Q := ⟨fun a w hf hl => by
  unfold wpList
  rw [if_neg (by rw [wanted_of hf hw]; decide)]
  rw [hdst]
  exact h.run _ _ (hf.put hd undef) hl⟩
theorem SXl.stepn {o : Oper} {V : Nat → Value} {L' : Nat → List Blk} {O' : Nat → List Own} {d : Nat} (hw : wantO ops f o = some true) (hdst : o.dst = some d) (hd : Nat.blt d n = true) (hr : ∀ a w, Fr n f a → Loc W R L O E w → ∃ g w', (execOp a.eval o).run P w = .ok (.value (V g)) w' ∧ Loc W R (L' g) (O' g) E w')
    (h : ∀ g, SXl P n W R ops (L' g) (O' g) E ((d, V g) :: f) rest Q) : SXl P n W R ops L O E f (o :: rest) Q := ⟨fun a w hf hl => by
  unfold wpList
  rw [if_pos (wanted_of hf hw)]
  refine .inl ?_
  unfold Oper.wp
  obtain ⟨g, w', h1, h2⟩ := hr a w hf hl
  rw [h1, Oper.upon_value, hdst]
  exact (h g).run _ _ (hf.put hd _) h2⟩
theorem SXl.steps {o : Oper} {L' : List Blk} {O' : List Own} (hw : wantO ops f o = some true) (hd : o.dst = none) (hr : ∀ a w, Fr n f a → Loc W R L O E w → ∃ w', (execOp a.eval o).run P w = .ok .skip w' ∧ Loc W R L' O' E w')
    (h : SXl P n W R ops L' O' E f rest Q) : SXl P n W R ops L O E f (o :: rest) Q := ⟨fun a w hf hl => by
  unfold wpList
  rw [if_pos (wanted_of hf hw)]
  refine .inl ?_
  unfold Oper.wp
  obtain ⟨w', h1, h2⟩ := hr a w hf hl
  rw [h1, Oper.upon_skip, hd]
  exact h.run _ _ hf h2⟩
/-- A call that hands back new memory. -/
def NewR (ξ : Type) (v : ξ → Value) (F1 : ξ → Res) (w : World) (e : Ending) (w' : World) : Prop :=
  ∃ x, e = .returned (v x) ∧ ((F1 x).says w' ∧ ∀ k, (F1 x).foot k → w.heap.size ≤ k ∧ k < w'.heap.size) ∧ Mod (fun _ => False) w w'
theorem SXl.callx {o : Oper} {ξ : Type} {v : ξ → Value} {F1 : ξ → Res} {fn : FuncId} {args : Array Value} {d : Nat} (hw : wantO ops f o = some true) (hdst : o.dst = some d) (hd : Nat.blt d n = true)
    (hr : ∀ a w, Fr n f a → Loc W R L O E w → (execOp a.eval o).run P w = .ok (.enter fn args) w)
    (hc : ∀ w, Loc W R L O E w → Calls P fn args w (NewR ξ v F1 w))
    (h : ∀ x, SXl P n W R ops L O (F1 x :: E) ((d, v x) :: f) rest Q) : SXl P n W R ops L O E f (o :: rest) Q := ⟨fun a w hf hl => by
  unfold wpList
  rw [if_pos (wanted_of hf hw)]
  refine .inl ?_
  unfold Oper.wp
  rw [hr a w hf hl, Oper.upon_enter]
  refine (hc w hl).mono ?_
  rintro e w' ⟨x, rfl, h1, hm⟩
  simp only [hdst]
  exact (h x).run _ _ (hf.put hd _) (hl.told hm h1.1 h1.2)⟩

/-! ### Regions that draw their order -/
/-- A drawn region, from operation k on, in the text's order; each operation gives a value that is told and turns nothing old. -/
structure SXr (P : Program) (n : Nat) (W : World) (R : Rg W) (ops : Array Oper) (L : List Blk) (O : List Own) (E : List Res) (k : Nat) (f : List (Nat × Value)) (l : List Oper) (Q : Exit → Act → World → Prop) : Prop where
  run : ∀ F : Act, Fr n f F → RS P ops (Mod fun _ => False) (Loc W R L O E) Q k l (fun _ => F) []
theorem SXr.nil {k : Nat} (h : SQ n W R L O E f .normal Q) : SXr P n W R ops L O E k f [] Q := ⟨fun _ hF => RS.done fun _ w hS _ => h.run _ w hF hS⟩
theorem SXr.v {k : Nat} {o : Oper} {v : Value} {d : Nat} (hr : OpW P n W R L O E f o v) (hdst : o.dst = some d) (hw : wantO ops f o = some true) (hd : Nat.blt d n = true) (h : SXr P n W R ops L O E (k + 1) ((d, v) :: f) rest Q) : SXr P n W R ops L O E k f (o :: rest) Q := ⟨fun F hF =>
  RS.val [] (fun _ => v) rfl (fun _ _ _ => rfl) (fun _ => wanted_of hF hw) (fun _ w hS _ => wp_never (hr.run F w hF hS) fun _ _ ⟨h1, h2⟩ => ⟨h1, hS.keep h2, h2⟩) (by rw [hdst]; exact h.run _ (hF.put hd v))⟩
theorem SXr.no {k : Nat} {o : Oper} {d : Nat} (hw : wantO ops f o = some false) (hdst : o.dst = some d) (hd : Nat.blt d n = true) (h : SXr P n W R ops L O E (k + 1) ((d, undef) :: f) rest Q) : SXr P n W R ops L O E k f (o :: rest) Q := ⟨fun F hF =>
  RS.skip (fun _ => wanted_of hF hw) (by rw [hdst]; exact h.run _ (hF.put hd undef))⟩
theorem SX.drawn {id : Nat} {l : List Oper} (hm : P.follows .mixedOrders = true) (hc : regOk l.toArray = true) (h : SXr P n W R l.toArray L O E 0 f l Q) : SX P n W R L O E f (.region id l.toArray true) Q := ⟨fun a w hf hl =>
  wp_region_rs (Loc W R L O E) (Mod fun _ => False) hm hc (hl.keep ((Mod.refl _ w).drew)) (h.run a hf)⟩
/-- The first m in any order, the rest one by one. -/
theorem SX.drawnTail {id : Nat} {l : List Oper} (m : Nat) (hm : P.follows .mixedOrders = true) (hc : regOkTo m l.toArray = true) (ht : tailOk l.toArray m = true) (h : SXr P n W R l.toArray L O E 0 f (l.take m) (fun _ a w => wpList P l.toArray Q (l.drop m) a w)) : SX P n W R L O E f (.region id l.toArray true) Q := ⟨fun a w hf hl =>
  wp_region_rs_tail m (Loc W R L O E) (Mod fun _ => False) hm hc ht (hl.keep ((Mod.refl _ w).drew)) (h.run a hf)⟩
theorem SXr.tail {k : Nat} (h : SXl P n W R ops L O E f rest Q) : SXr P n W R ops L O E k f [] (fun _ a w => wpList P ops Q rest a w) := ⟨fun _ hF => RS.done fun _ w hS _ => h.run _ w hF hS⟩

/-! ### Loops -/
theorem SX.loop {ι : Type} {c : Code} (I : ι → Nat → List Blk → List Own → List Res → List (Nat × Value) → Prop) (m0 : Nat) (i0 : ι) (L0 : List Blk) (O0 : List Own) (E0 : List Res) (f0 : List (Nat × Value)) (h0 : I i0 m0 L0 O0 E0 f0) (hf0 : subF f f0) (hl0 : ∀ w, Loc W R L O E w → Loc W R L0 O0 E0 w)
    (round : ∀ i m L O E f, I i m L O E f → SX P n W R L O E f c (Exit.then (fun a w => ∃ m', m' < m ∧ ∃ i L O E f, I i m' L O E f ∧ Fr n f a ∧ Loc W R L O E w) Q)) : SX P n W R L O E f (.loop c) Q := ⟨fun a w hf hl =>
  wp_loop_ghost (fun m a w => ∃ i L O E f, I i m L O E f ∧ Fr n f a ∧ Loc W R L O E w) m0 ⟨i0, L0, O0, E0, f0, h0, hf.sub hf0, hl0 w hl⟩
    (fun m a w ⟨i, L, O, E, f, hI, hf, hl⟩ => (round i m L O E f hI).run a w hf hl)⟩
theorem SQ.round {ι : Type} {m : Nat} {I : ι → Nat → List Blk → List Own → List Res → List (Nat × Value) → Prop} (m' : Nat) (hm : m' < m) (i : ι) (L' : List Blk) (O' : List Own) (E' : List Res) (f' : List (Nat × Value)) (h : I i m' L' O' E' f') (hs : subF f f') (hl : ∀ w, Loc W R L O E w → Loc W R L' O' E' w) :
    SQ n W R L O E f .normal (Exit.then (fun a w => ∃ m', m' < m ∧ ∃ i L O E f, I i m' L O E f ∧ Fr n f a ∧ Loc W R L O E w) Q) := ⟨fun _ w hf hl' => ⟨m', hm, i, L', O', E', f', h, hf.sub hs, hl w hl'⟩⟩
/-- A loop whose state is told by an index. -/
theorem SX.loopi {ι : Type} {c : Code} (inv : ι → Prop) (μ : ι → Nat) (Lf : ι → List Blk) (Of : ι → List Own) (Ef : ι → List Res) (ff : ι → List (Nat × Value)) (i0 : ι) (h0 : inv i0) (hf0 : subF f (ff i0)) (hl0 : ∀ w, Loc W R L O E w → Loc W R (Lf i0) (Of i0) (Ef i0) w)
    (round : ∀ i, inv i → SX P n W R (Lf i) (Of i) (Ef i) (ff i) c (Exit.then (fun a w => ∃ j, inv j ∧ μ j < μ i ∧ Fr n (ff j) a ∧ Loc W R (Lf j) (Of j) (Ef j) w) Q)) : SX P n W R L O E f (.loop c) Q := ⟨fun a w hf hl =>
  wp_loop_ghost (fun m a w => ∃ i, inv i ∧ μ i = m ∧ Fr n (ff i) a ∧ Loc W R (Lf i) (Of i) (Ef i) w) (μ i0) ⟨i0, h0, rfl, hf.sub hf0, hl0 w hl⟩
    (fun m a w ⟨i, hI, hm, hf, hl⟩ => wp_mono ((round i hI).run a w hf hl) (fun e a w q => by
      cases e with
      | normal => obtain ⟨j, h1, h2, h3⟩ := q; exact ⟨μ j, hm ▸ h2, j, h1, rfl, h3⟩
      | exit id => exact q
      | goto l => exact q
      | ret => exact q
      | panic ch => exact q
      | outgrown => exact q))⟩
theorem SQ.roundi {ι : Type} {inv : ι → Prop} {μ : ι → Nat} {Lf : ι → List Blk} {Of : ι → List Own} {Ef : ι → List Res} {ff : ι → List (Nat × Value)} {m : Nat} (j : ι) (h : inv j) (hm : μ j < m) (hs : subF f (ff j)) (hl : ∀ w, Loc W R L O E w → Loc W R (Lf j) (Of j) (Ef j) w) :
    SQ n W R L O E f .normal (Exit.then (fun a w => ∃ j, inv j ∧ μ j < m ∧ Fr n (ff j) a ∧ Loc W R (Lf j) (Of j) (Ef j) w) Q) := ⟨fun _ w hf hl' => ⟨j, h, hm, hf.sub hs, hl w hl'⟩⟩
/-- The same, with three indices. -/
theorem SX.loop3 {α β γ : Type} {c : Code} (inv : α → β → γ → Prop) (μ : α → β → γ → Nat) (Lf : α → β → γ → List Blk) (Of : α → β → γ → List Own) (Ef : α → β → γ → List Res) (ff : α → β → γ → List (Nat × Value)) (i0 : α) (j0 : β) (k0 : γ) (h0 : inv i0 j0 k0) (hf0 : subF f (ff i0 j0 k0)) (hl0 : ∀ w, Loc W R L O E w → Loc W R (Lf i0 j0 k0) (Of i0 j0 k0) (Ef i0 j0 k0) w)
    (round : ∀ i j k, inv i j k → SX P n W R (Lf i j k) (Of i j k) (Ef i j k) (ff i j k) c (Exit.then (fun a w => ∃ i' j' k', inv i' j' k' ∧ μ i' j' k' < μ i j k ∧ Fr n (ff i' j' k') a ∧ Loc W R (Lf i' j' k') (Of i' j' k') (Ef i' j' k') w) Q)) : SX P n W R L O E f (.loop c) Q :=
  SX.loopi (ι := α × β × γ) (fun i => inv i.1 i.2.1 i.2.2) (fun i => μ i.1 i.2.1 i.2.2) (fun i => Lf i.1 i.2.1 i.2.2) (fun i => Of i.1 i.2.1 i.2.2) (fun i => Ef i.1 i.2.1 i.2.2) (fun i => ff i.1 i.2.1 i.2.2) (i0, j0, k0) h0 hf0 hl0
    (fun ⟨i, j, k⟩ hi => ⟨fun a w hf hl => wp_mono ((round i j k hi).run a w hf hl) (fun e a w q => by
      cases e with
      | normal => obtain ⟨i', j', k', h⟩ := q; exact ⟨(i', j', k'), h⟩
      | exit id => exact q
      | goto l => exact q
      | ret => exact q
      | panic ch => exact q
      | outgrown => exact q)⟩)
theorem SQ.round3 {α β γ : Type} {inv : α → β → γ → Prop} {μ : α → β → γ → Nat} {Lf : α → β → γ → List Blk} {Of : α → β → γ → List Own} {Ef : α → β → γ → List Res} {ff : α → β → γ → List (Nat × Value)} {m : Nat} (i' : α) (j' : β) (k' : γ) (h : inv i' j' k') (hm : μ i' j' k' < m) (hs : subF f (ff i' j' k')) (hl : ∀ w, Loc W R L O E w → Loc W R (Lf i' j' k') (Of i' j' k') (Ef i' j' k') w) :
    SQ n W R L O E f .normal (Exit.then (fun a w => ∃ i' j' k', inv i' j' k' ∧ μ i' j' k' < m ∧ Fr n (ff i' j' k') a ∧ Loc W R (Lf i' j' k') (Of i' j' k') (Ef i' j' k') w) Q) := ⟨fun _ w hf hl' => ⟨i', j', k', h, hm, hf.sub hs, hl w hl'⟩⟩
/-- A call that turns the memory that a fact speaks of. -/
theorem SXl.callm {o : Oper} {ξ : Type} {v : ξ → Value} {F : Res} {F' : ξ → Res} {K : ξ → Prop} {fn : FuncId} {args : Array Value} {d : Nat} (i : Nat) (hw : wantO ops f o = some true) (hdst : o.dst = some d) (hd : Nat.blt d n = true)
    (hr : ∀ a w, Fr n f a → Loc W R L O E w → (execOp a.eval o).run P w = .ok (.enter fn args) w) (hi : E[i]? = some F) (hsub : ∀ x k, (F' x).foot k → F.foot k)
    (hc : ∀ w, Loc W R L O E w → Calls P fn args w fun e w' => ∃ x, e = .returned (v x) ∧ K x ∧ (F' x).says w' ∧ Mod F.foot w w')
    (h : ∀ x, K x → SXl P n W R ops L O (E.set i (F' x)) ((d, v x) :: f) rest Q) : SXl P n W R ops L O E f (o :: rest) Q := ⟨fun a w hf hl => by
  unfold wpList
  rw [if_pos (wanted_of hf hw)]
  refine .inl ?_
  unfold Oper.wp
  rw [hr a w hf hl, Oper.upon_enter]
  refine (hc w hl).mono ?_
  rintro e w' ⟨x, rfl, hk, h1, hm⟩
  simp only [hdst]
  exact (h x hk).run _ _ (hf.put hd _) (hl.retold hi hm h1 (hsub x))⟩
theorem Loc.drop1 {b : Blk} {w : World} (h : Loc W R (b :: L) O E w) : Loc W R L O E w where
  mod := h.mod
  inv := h.inv
  blk := fun c hc => h.blk c (List.mem_cons_of_mem _ hc)
  apart := (List.pairwise_cons.1 h.apart).2
  own := fun o ho => ⟨(h.own o ho).1, fun c hc => (h.own o ho).2 c (List.mem_cons_of_mem _ hc)⟩
  ownApart := h.ownApart
  res := fun F hF => ⟨(h.res F hF).1, (h.res F hF).2.1, fun c hc => (h.res F hF).2.2.1 c (List.mem_cons_of_mem _ hc), (h.res F hF).2.2.2⟩
  resNew := h.resNew
  resApart := h.resApart
theorem Loc.dropE {F : Res} {w : World} (h : Loc W R L O (F :: E) w) : Loc W R L O E w where
  mod := h.mod
  inv := h.inv
  blk := h.blk
  apart := h.apart
  own := h.own
  ownApart := h.ownApart
  res := fun F hF => h.res F (List.mem_cons_of_mem _ hF)
  resNew := fun F hF => h.resNew F (List.mem_cons_of_mem _ hF)
  resApart := (List.pairwise_cons.1 h.resApart).2
theorem calls_sx {fid : FuncId} {fn : Func} {c : Code} {args : List Value} {w : World} {R' : Ending → World → Prop} {f : List (Nat × Value)} (hf : P.funcs[fid]? = some fn) (hb : fn.body = some c) (hn : fn.ntmps = n)
    (hfr : ∀ a : Act, a.defers = [] → n ≤ a.tmps.size → (∀ (t : Nat) (v : Value), args[t]? = some v → a.tmps[t]? = some v) → Fr n f a)
    (h : SX P n w (Rg.none w) [] [] [] f c (bodyPost P fn R')) : Calls P fid args.toArray w R' := by
  refine calls_of_wp hf hb (h.run _ w (hfr _ rfl ?_ ?_) ⟨Mod.refl _ _, trivial, by simp, by simp, by simp, by simp, by simp, by simp, by simp⟩)
  · simp; omega
  · intro t v ht
    have hlt := (List.getElem?_eq_some_iff.1 ht).1
    obtain ⟨_, e⟩ := List.getElem?_eq_some_iff.1 ht
    simp [Array.getElem?_append, hlt, e]
/-- The same, where the call may turn old memory. -/
theorem calls_sxJ {fid : FuncId} {fn : Func} {c : Code} {args : List Value} {w : World} (Rr : Rg w) (hj : Rr.J w) {R' : Ending → World → Prop} {f : List (Nat × Value)} (hf : P.funcs[fid]? = some fn) (hb : fn.body = some c) (hn : fn.ntmps = n)
    (hfr : ∀ a : Act, a.defers = [] → n ≤ a.tmps.size → (∀ (t : Nat) (v : Value), args[t]? = some v → a.tmps[t]? = some v) → Fr n f a)
    (h : SX P n w Rr [] [] [] f c (bodyPost P fn R')) : Calls P fid args.toArray w R' := by
  refine calls_of_wp hf hb (h.run _ w (hfr _ rfl ?_ ?_) ⟨Mod.refl _ _, hj, by simp, by simp, by simp, by simp, by simp, by simp, by simp⟩)
  · simp; omega
  · intro t v ht
    have hlt := (List.getElem?_eq_some_iff.1 ht).1
    obtain ⟨_, e⟩ := List.getElem?_eq_some_iff.1 ht
    simp [Array.getElem?_append, hlt, e]
theorem Fr.nil {a : Act} (h : a.defers = []) (hn : n ≤ a.tmps.size) : Fr n [] a := ⟨h, hn, fun _ _ h => by cases h⟩
theorem Fr.arg {a : Act} {t : Nat} {v : Value} (h : Fr n f a) (ht : a.tmps[t]? = some v) : Fr n ((t, v) :: f) a := ⟨h.defers, h.size, fun s u hu => by
  simp only [look, cond_eq_ite] at hu
  by_cases e : s = t
  · subst e; rw [ht]; simpa using hu
  · have e' : Nat.beq s t = false := Bool.eq_false_iff.2 fun h => e (Nat.eq_of_beq_eq_true h)
    rw [e'] at hu
    exact h.at_ s u (by simpa using hu)⟩
end
end Go.Proofs.YtkkjjhooamlljaaGreatDoor
namespace Go.Proofs.YtkkjjhooamlljaaGreatDoor
open Go.RowKit

/-- A struct's or an array's type, of n cells. -/
class TRow (P : Program) (T : TypeId) (n : outParam Nat) : Prop where
  h : (∃ d, P.underlying T = some d ∧ d.isRow = true) ∧ (P.info? T).map (·.size) = some n
/-- A type of one cell. -/
class TOne (P : Program) (T : TypeId) : Prop where
  h : (∃ d, P.underlying T = some d ∧ d.isRow = false) ∧ (P.info? T).map (·.size) = some 1
/-- Where a field lies. -/
class TFld (P : Program) (T j : Nat) (off : outParam Nat) : Prop where
  h : ∃ fs f k, P.underlying T = some (.struct fs) ∧ fs[j]? = some f ∧ f.offset = off ∧ (P.info? f.type).map (·.size) = some (k + 1)
/-- A slice's type. -/
class TSl (P : Program) (T : TypeId) (e sz : outParam Nat) : Prop where
  h : P.underlying T = some (.slice e) ∧ (P.info? e).map (·.size) = some sz
/-- A type's zero value. -/
class TZero (P : Program) (T : TypeId) (c : outParam (List Value)) : Prop where
  h : ∃ v, (P.info? T).map (·.zero) = some (some v) ∧ v.cells = c.toArray
class TBool (P : Program) (T : TypeId) : Prop where
  h : P.underlying T = some .bool
/-- A function with a body. -/
class TFun (P : Program) (f : FuncId) : Prop where
  h : ∃ fn, P.funcs[f]? = some fn ∧ (fn.name == "runtime.NumGoroutine") = false ∧ fn.body.isNone = false

section
variable {P : Program} {n : Nat} {W : World} {R : Rg W} {L : List Blk} {O : List Own} {E : List Res} {f : List (Nat × Value)} {Q : Exit → Act → World → Prop} {ops : Array Oper} {rest : List Oper}
variable {d : Option Nat} {dn : Nat} {x y : Operand} {ty T T' : TypeId} {pos : String} {af : Array Edge} {gd : Option (Nat × Bool)}

theorem qaj {v : Value} (hx : evO f x = some v) : OpW P n W R L O E f ⟨d, .move x, ty, pos, af, gd⟩ (v) :=
  OpW.of (fun a w hf _ => by show Result.ok (Next.value (a.eval x)) w = _; rw [hf.eval hx])
theorem qae {v : Value} (hx : evO f x = some v) : OpW P n W R L O E f ⟨d, .assign x, ty, pos, af, gd⟩ (v) :=
  OpW.of (fun a w hf _ => by show Result.ok (Next.value (a.eval x)) w = _; rw [hf.eval hx])
theorem qax {c : Operand} {b : Bool} {u v : Value} (hc : evO f c = some (.bool b)) (hx : evO f x = some u) (hy : evO f y = some v) : OpW P n W R L O E f ⟨d, .pick c x y, ty, pos, af, gd⟩ (bif b then u else v) :=
  OpW.of (fun a w hf _ => by simp only [execOp, hf.eval hc, hf.eval hx, hf.eval hy]; cases b <;> simp [asBool])

theorem OpW.bin {op : BinOp} {u v z : Value} (hx : evO f x = some u) (hy : evO f y = some v) (hg : eqGuard op T x y u v = pure ()) (hr : ∀ w, (binOp op T u v).run P w = .ok z w) : OpW P n W R L O E f ⟨d, .binOp op T x y T', ty, pos, af, gd⟩ (z) :=
  OpW.of (fun a w hf _ => by simp [execOp, hf.eval hx, hf.eval hy, hg, hr w])
variable {k : IntKind} {p q : Int}
theorem OpW.add (hx : evO f x = some (.int k p)) (hy : evO f y = some (.int k q)) : OpW P n W R L O E f ⟨d, .binOp .add T x y T', ty, pos, af, gd⟩ (.int k (k.wrap (p + q))) := OpW.bin hx hy rfl (fun w => by simp [go_sem])
theorem OpW.sub (hx : evO f x = some (.int k p)) (hy : evO f y = some (.int k q)) : OpW P n W R L O E f ⟨d, .binOp .sub T x y T', ty, pos, af, gd⟩ (.int k (k.wrap (p - q))) := OpW.bin hx hy rfl (fun w => by simp [go_sem])
theorem OpW.mul (hx : evO f x = some (.int k p)) (hy : evO f y = some (.int k q)) : OpW P n W R L O E f ⟨d, .binOp .mul T x y T', ty, pos, af, gd⟩ (.int k (k.wrap (p * q))) := OpW.bin hx hy rfl (fun w => by simp [go_sem])
theorem OpW.lss (hx : evO f x = some (.int k p)) (hy : evO f y = some (.int k q)) : OpW P n W R L O E f ⟨d, .binOp .lss T x y T', ty, pos, af, gd⟩ (.bool (decide (p < q))) := OpW.bin hx hy rfl (fun w => by simp [go_sem])
theorem OpW.leq (hx : evO f x = some (.int k p)) (hy : evO f y = some (.int k q)) : OpW P n W R L O E f ⟨d, .binOp .leq T x y T', ty, pos, af, gd⟩ (.bool (decide (p ≤ q))) := OpW.bin hx hy rfl (fun w => by simp [go_sem])
theorem OpW.gtr (hx : evO f x = some (.int k p)) (hy : evO f y = some (.int k q)) : OpW P n W R L O E f ⟨d, .binOp .gtr T x y T', ty, pos, af, gd⟩ (.bool (decide (q < p))) := OpW.bin hx hy rfl (fun w => by simp [go_sem])
theorem OpW.geq (hx : evO f x = some (.int k p)) (hy : evO f y = some (.int k q)) : OpW P n W R L O E f ⟨d, .binOp .geq T x y T', ty, pos, af, gd⟩ (.bool (decide (q ≤ p))) := OpW.bin hx hy rfl (fun w => by simp [go_sem])
theorem OpW.eql (hx : evO f x = some (.int k p)) (hy : evO f y = some (.int k q)) : OpW P n W R L O E f ⟨d, .binOp .eql T x y T', ty, pos, af, gd⟩ (.bool (decide (p = q))) := OpW.bin hx hy (eqGuard_at_int ..) (fun w => by simp [go_sem]; rfl)
theorem OpW.neq (hx : evO f x = some (.int k p)) (hy : evO f y = some (.int k q)) : OpW P n W R L O E f ⟨d, .binOp .neq T x y T', ty, pos, af, gd⟩ (.bool (!decide (p = q))) := OpW.bin hx hy (eqGuard_at_int ..) (fun w => by simp [go_sem]; rfl)
theorem OpW.eqlb {p q : Bool} [t : TBool P T] (hx : evO f x = some (.bool p)) (hy : evO f y = some (.bool q)) : OpW P n W R L O E f ⟨d, .binOp .eql T x y T', ty, pos, af, gd⟩ (.bool (p == q)) := OpW.bin hx hy (eqGuard_at_bool ..) (fun w => by simp [go_sem, binOp, run_equal_bool w T _ _ t.h]; try rfl)
theorem OpW.not {p : Bool} (hx : evO f x = some (.bool p)) : OpW P n W R L O E f ⟨d, .unOp .not T x, ty, pos, af, gd⟩ (.bool (!p)) :=
  OpW.of (fun a w hf _ => by simp only [execOp, hf.eval hx]; simp [go_sem, Op.unary])
theorem OpW.neg (hx : evO f x = some (.int k p)) : OpW P n W R L O E f ⟨d, .unOp .neg T x, ty, pos, af, gd⟩ (.int k (k.wrap (-p))) :=
  OpW.of (fun a w hf _ => by simp only [execOp, hf.eval hx]; simp [go_sem, Op.unary])

theorem OpW.lssT (hx : evO f x = some (.int k p)) (hy : evO f y = some (.int k q)) (hp : p < q) : OpW P n W R L O E f ⟨d, .binOp .lss T x y T', ty, pos, af, gd⟩ (.bool true) := by
  have := OpW.lss (P := P) (n := n) (W := W) (R := R) (L := L) (O := O) (E := E) (d := d) (T := T) (T' := T') (ty := ty) (pos := pos) (af := af) (gd := gd) hx hy
  simpa [hp] using this
theorem OpW.lssF (hx : evO f x = some (.int k p)) (hy : evO f y = some (.int k q)) (hp : ¬ (p < q)) : OpW P n W R L O E f ⟨d, .binOp .lss T x y T', ty, pos, af, gd⟩ (.bool false) := by
  have := OpW.lss (P := P) (n := n) (W := W) (R := R) (L := L) (O := O) (E := E) (d := d) (T := T) (T' := T') (ty := ty) (pos := pos) (af := af) (gd := gd) hx hy
  simpa [hp] using this
theorem OpW.leqT (hx : evO f x = some (.int k p)) (hy : evO f y = some (.int k q)) (hp : p ≤ q) : OpW P n W R L O E f ⟨d, .binOp .leq T x y T', ty, pos, af, gd⟩ (.bool true) := by
  have := OpW.leq (P := P) (n := n) (W := W) (R := R) (L := L) (O := O) (E := E) (d := d) (T := T) (T' := T') (ty := ty) (pos := pos) (af := af) (gd := gd) hx hy
  simpa [hp] using this
theorem OpW.leqF (hx : evO f x = some (.int k p)) (hy : evO f y = some (.int k q)) (hp : ¬ (p ≤ q)) : OpW P n W R L O E f ⟨d, .binOp .leq T x y T', ty, pos, af, gd⟩ (.bool false) := by
  have := OpW.leq (P := P) (n := n) (W := W) (R := R) (L := L) (O := O) (E := E) (d := d) (T := T) (T' := T') (ty := ty) (pos := pos) (af := af) (gd := gd) hx hy
  simpa [hp] using this
theorem OpW.gtrT (hx : evO f x = some (.int k p)) (hy : evO f y = some (.int k q)) (hp : q < p) : OpW P n W R L O E f ⟨d, .binOp .gtr T x y T', ty, pos, af, gd⟩ (.bool true) := by
  have := OpW.gtr (P := P) (n := n) (W := W) (R := R) (L := L) (O := O) (E := E) (d := d) (T := T) (T' := T') (ty := ty) (pos := pos) (af := af) (gd := gd) hx hy
  simpa [hp] using this
theorem OpW.gtrF (hx : evO f x = some (.int k p)) (hy : evO f y = some (.int k q)) (hp : ¬ (q < p)) : OpW P n W R L O E f ⟨d, .binOp .gtr T x y T', ty, pos, af, gd⟩ (.bool false) := by
  have := OpW.gtr (P := P) (n := n) (W := W) (R := R) (L := L) (O := O) (E := E) (d := d) (T := T) (T' := T') (ty := ty) (pos := pos) (af := af) (gd := gd) hx hy
  simpa [hp] using this
theorem OpW.geqT (hx : evO f x = some (.int k p)) (hy : evO f y = some (.int k q)) (hp : q ≤ p) : OpW P n W R L O E f ⟨d, .binOp .geq T x y T', ty, pos, af, gd⟩ (.bool true) := by
  have := OpW.geq (P := P) (n := n) (W := W) (R := R) (L := L) (O := O) (E := E) (d := d) (T := T) (T' := T') (ty := ty) (pos := pos) (af := af) (gd := gd) hx hy
  simpa [hp] using this
theorem OpW.geqF (hx : evO f x = some (.int k p)) (hy : evO f y = some (.int k q)) (hp : ¬ (q ≤ p)) : OpW P n W R L O E f ⟨d, .binOp .geq T x y T', ty, pos, af, gd⟩ (.bool false) := by
  have := OpW.geq (P := P) (n := n) (W := W) (R := R) (L := L) (O := O) (E := E) (d := d) (T := T) (T' := T') (ty := ty) (pos := pos) (af := af) (gd := gd) hx hy
  simpa [hp] using this
theorem qaI (hx : evO f x = some (.int k p)) (hy : evO f y = some (.int k q)) (hp : p = q) : OpW P n W R L O E f ⟨d, .binOp .eql T x y T', ty, pos, af, gd⟩ (.bool true) := by
  have := OpW.eql (P := P) (n := n) (W := W) (R := R) (L := L) (O := O) (E := E) (d := d) (T := T) (T' := T') (ty := ty) (pos := pos) (af := af) (gd := gd) hx hy
  simpa [hp] using this
theorem qaH (hx : evO f x = some (.int k p)) (hy : evO f y = some (.int k q)) (hp : ¬ (p = q)) : OpW P n W R L O E f ⟨d, .binOp .eql T x y T', ty, pos, af, gd⟩ (.bool false) := by
  have := OpW.eql (P := P) (n := n) (W := W) (R := R) (L := L) (O := O) (E := E) (d := d) (T := T) (T' := T') (ty := ty) (pos := pos) (af := af) (gd := gd) hx hy
  simpa [hp] using this
theorem OpW.neqT (hx : evO f x = some (.int k p)) (hy : evO f y = some (.int k q)) (hp : ¬ (p = q)) : OpW P n W R L O E f ⟨d, .binOp .neq T x y T', ty, pos, af, gd⟩ (.bool true) := by
  have := OpW.neq (P := P) (n := n) (W := W) (R := R) (L := L) (O := O) (E := E) (d := d) (T := T) (T' := T') (ty := ty) (pos := pos) (af := af) (gd := gd) hx hy
  simpa [hp] using this
theorem OpW.neqF (hx : evO f x = some (.int k p)) (hy : evO f y = some (.int k q)) (hp : p = q) : OpW P n W R L O E f ⟨d, .binOp .neq T x y T', ty, pos, af, gd⟩ (.bool false) := by
  have := OpW.neq (P := P) (n := n) (W := W) (R := R) (L := L) (O := O) (E := E) (d := d) (T := T) (T' := T') (ty := ty) (pos := pos) (af := af) (gd := gd) hx hy
  simpa [hp] using this
theorem wrap_in {a : Int} (h0 : -9223372036854775808 ≤ a) (h1 : a ≤ 9223372036854775807) : IntKind.i64.wrap a = a := by
  simp [IntKind.wrap, IntKind.bits, IntKind.signed]; omega
theorem OpW.addi {p q : Int} (hx : evO f x = some (.int .i64 p)) (hy : evO f y = some (.int .i64 q)) (h0 : -9223372036854775808 ≤ p + q) (h1 : p + q ≤ 9223372036854775807) : OpW P n W R L O E f ⟨d, .binOp .add T x y T', ty, pos, af, gd⟩ (.int .i64 (p + q)) := by
  have := OpW.add (P := P) (n := n) (W := W) (R := R) (L := L) (O := O) (E := E) (d := d) (T := T) (T' := T') (ty := ty) (pos := pos) (af := af) (gd := gd) hx hy
  rwa [wrap_in h0 h1] at this
theorem OpW.subi {p q : Int} (hx : evO f x = some (.int .i64 p)) (hy : evO f y = some (.int .i64 q)) (h0 : -9223372036854775808 ≤ p - q) (h1 : p - q ≤ 9223372036854775807) : OpW P n W R L O E f ⟨d, .binOp .sub T x y T', ty, pos, af, gd⟩ (.int .i64 (p - q)) := by
  have := OpW.sub (P := P) (n := n) (W := W) (R := R) (L := L) (O := O) (E := E) (d := d) (T := T) (T' := T') (ty := ty) (pos := pos) (af := af) (gd := gd) hx hy
  rwa [wrap_in h0 h1] at this
theorem OpW.muli {p q : Int} (hx : evO f x = some (.int .i64 p)) (hy : evO f y = some (.int .i64 q)) (h0 : -9223372036854775808 ≤ p * q) (h1 : p * q ≤ 9223372036854775807) : OpW P n W R L O E f ⟨d, .binOp .mul T x y T', ty, pos, af, gd⟩ (.int .i64 (p * q)) := by
  have := OpW.mul (P := P) (n := n) (W := W) (R := R) (L := L) (O := O) (E := E) (d := d) (T := T) (T' := T') (ty := ty) (pos := pos) (af := af) (gd := gd) hx hy
  rwa [wrap_in h0 h1] at this
theorem OpW.succ {i : Nat} (hx : evO f x = some (.int .i64 (i : Int))) (hy : evO f y = some (.int .i64 1)) (h1 : i + 1 ≤ 9223372036854775807) : OpW P n W R L O E f ⟨d, .binOp .add T x y T', ty, pos, af, gd⟩ (.int .i64 ((i + 1 : Nat) : Int)) := by
  have := OpW.addi (P := P) (n := n) (W := W) (R := R) (L := L) (O := O) (E := E) (d := d) (T := T) (T' := T') (ty := ty) (pos := pos) (af := af) (gd := gd) hx hy (by omega) (by omega)
  exact this
/-! ### Memory -/
variable {g o j : Nat} {cells : List Value}
theorem run_field {b o j off : Nat} [t : TFld P T j off] (w : World) : (Instr.fieldAt T (.pointer (some ⟨b, o, none⟩)) j).run P w = .ok (.pointer (some ⟨b, o + off, none⟩)) w := by
  obtain ⟨fs, f, k, h1, h2, h3, h4⟩ := t.h
  obtain ⟨i, hi, hs⟩ := Option.map_eq_some_iff.1 h4
  simp [Instr.fieldAt, run_underlying h1, h2, Instr.sureAddr, fieldPlace, sizeOf, typeInfo, hi, hs, h3, go_sem]
theorem qag {off : Nat} [TFld P T j off] (hx : evO f x = some (.pointer (some ⟨g, o, none⟩))) : OpW P n W R L O E f ⟨d, .fieldAddr T x j, ty, pos, af, gd⟩ (.pointer (some ⟨g, o + off, none⟩)) :=
  OpW.of (fun a w hf _ => by simp [execOp, hf.eval hx, run_field])
theorem run_load1 [t : TOne P T] {w : World} {v : Value} (h : w.cell? ⟨g, o, none⟩ = some v) : (Instr.loadAt T (.pointer (some ⟨g, o, none⟩))).run P w = .ok v w := by
  obtain ⟨⟨d, h1, h2⟩, h3⟩ := t.h
  have : (isAgg T).run P w = .ok false w := by
    cases d <;> simp_all [isAgg, run_underlying h1, TypeDesc.isRow]
  simp [Instr.loadAt, Instr.sureAddr, loadVar, this, h]
theorem Loc.cell {i : Nat} {w : World} (h : Loc W R L O E w) (hi : L[i]? = some ⟨g, cells, T⟩) {v : Value} (hv : cells[o]? = some v) : w.cell? ⟨g, o, none⟩ = some v :=
  blk_cell (h.blk _ (List.mem_iff_getElem?.2 ⟨i, hi⟩)).2 hv
theorem Loc.old {w : World} (h : Loc W R L O E w) {p : Addr} {v : Value} (hv : W.cell? p = some v) (hr : ¬ R.p p.block) : w.cell? p = some v := by
  rw [h.mod.cell (World.block_lt_of_cell? W p hv) hr]; exact hv
/-- One cell, of a block of the call's own. -/
theorem qat {v : Value} (i : Nat) [TOne P T] (hx : evO f x = some (.pointer (some ⟨g, o, none⟩))) (hi : L[i]? = some ⟨g, cells, T'⟩) (hv : cells[o]? = some v) : OpW P n W R L O E f ⟨d, .load T x, ty, pos, af, gd⟩ (v) :=
  OpW.of (fun a w hf hl => by simp [execOp, hf.eval hx, run_load1 (hl.cell hi hv)])
/-- One cell of old memory. -/
theorem OpW.loadOld {v : Value} {p : Nat} [TOne P T] (hx : evO f x = some (.pointer (some ⟨p, o, none⟩))) (hv : W.cell? ⟨p, o, none⟩ = some v) (hr : ¬ R.p p) : OpW P n W R L O E f ⟨d, .load T x, ty, pos, af, gd⟩ (v) :=
  OpW.of (fun a w hf hl => by simp [execOp, hf.eval hx, run_load1 (hl.old hv hr)])
/-- A whole struct, of a block of the call's own. -/
theorem qaJ {m : Nat} (i : Nat) [t : TRow P T m] (hx : evO f x = some (.pointer (some ⟨g, o, none⟩))) (hi : L[i]? = some ⟨g, cells, T'⟩) (hm : Nat.ble (o + m) cells.length = true) {r : List Value} (hr : (cells.drop o).take m = r) : OpW P n W R L O E f ⟨d, .load T x, ty, pos, af, gd⟩ (.agg r.toArray) :=
  OpW.of (fun a w hf hl => by
    obtain ⟨⟨d, h1, h2⟩, h3⟩ := t.h
    have hb := (hl.blk _ (List.mem_iff_getElem?.2 ⟨i, hi⟩)).2
    have hm' : o + m ≤ cells.length := by simpa using hm
    have e := run_load_row h1 h2 h3 (w := w) (b := g) (o := o) (by simp [hasRow, hb, hm'])
    have e2 : rowOf w g o m = r.toArray := by
      rw [← hr]; unfold rowOf; rw [hb]; simp [List.extract_toArray, List.extract_eq_take_drop]
    simp [execOp, hf.eval hx, e, e2])
theorem qaq {m : Nat} (i : Nat) [t : TRow P T m] (hx : evO f x = some (.pointer (some ⟨g, 0, none⟩))) (hi : L[i]? = some ⟨g, cells, T'⟩) (hm : cells.length = m) : OpW P n W R L O E f ⟨d, .load T x, ty, pos, af, gd⟩ (.agg cells.toArray) :=
  qaJ i hx hi (by simp [hm]) (by rw [List.drop_zero, List.take_of_length_le (by omega)])
theorem OpW.loadRowOld {m p : Nat} [t : TRow P T m] {r : List Value} (hx : evO f x = some (.pointer (some ⟨p, o, none⟩))) (hc : ∀ j v, r[j]? = some v → W.cell? ⟨p, o + j, none⟩ = some v) (hm : r.length = m) (hp : 0 < m) (hr : ¬ R.p p) : OpW P n W R L O E f ⟨d, .load T x, ty, pos, af, gd⟩ (.agg r.toArray) :=
  OpW.of (fun a w hf hl => by
    obtain ⟨⟨d, h1, h2⟩, h3⟩ := t.h
    subst hm
    obtain ⟨e1, e2⟩ := rowOf_told (w := w) hp (fun j v hj => hl.old (hc j v hj) hr)
    have e := run_load_row h1 h2 h3 (w := w) (b := p) (o := o) e1
    rw [e2] at e
    simp [execOp, hf.eval hx, e])
theorem run_store1 [t : TOne P T] {w : World} {u v : Value} (h : w.cell? ⟨g, o, none⟩ = some u) (hz : w.frozen? ⟨g, o, none⟩ = false) (hv : v.oneCell' = true) : (Instr.storeAt T (.pointer (some ⟨g, o, none⟩)) v).run P w = .ok () (w.setCell ⟨g, o, none⟩ v) := by
  obtain ⟨_, h3⟩ := t.h
  obtain ⟨i, hi, hs⟩ := Option.map_eq_some_iff.1 h3
  have hc : v.cells = #[v] := by cases v <;> simp_all [Value.oneCell', Value.cells]
  have ea : (⟨g, o, none⟩ : Addr).add 0 = ⟨g, o, none⟩ := Addr.add_zero' _
  simp [Instr.storeAt, Instr.sureAddr, storeVar, sizeOf, typeInfo, hi, hs, hc, storeCells, run_store P w _ v _ hv, ea, h, hz]
theorem qah {v : Value} {L' : List Blk} (i : Nat) [TOne P T] (hw : wantO ops f ⟨none, .store T x y, ty, pos, af, gd⟩ = some true) (hx : evO f x = some (.pointer (some ⟨g, o, none⟩))) (hy : evO f y = some v) (hi : L[i]? = some ⟨g, cells, T'⟩) (ho : Nat.blt o cells.length = true) (hv : v.oneCell' = true) (hL : L.set i ⟨g, cells.set o v, T'⟩ = L') (h : SXl P n W R ops L' O E f rest Q) : SXl P n W R ops L O E f (⟨none, .store T x y, ty, pos, af, gd⟩ :: rest) Q :=
  SXl.steps hw rfl (fun a w hf hl => by
    have ho' : o < cells.length := by simpa using ho
    have hb := (hl.blk _ (List.mem_iff_getElem?.2 ⟨i, hi⟩)).2
    refine ⟨w.setCell ⟨g, o, none⟩ v, ?_, hL ▸ hl.set hi v⟩
    simp [execOp, hf.eval hx, hf.eval hy, run_store1 (hl.cell hi (List.getElem?_eq_getElem ho')) (blk_free hb o) hv]) h
/-- A list written over another from a place on. -/
def over : List Value → Nat → List Value → List Value
  | c, _, [] => c
  | c, o, v :: r => over (c.set o v) (o + 1) r
theorem spl_over : ∀ (r c : List Value) (o : Nat), spl c.toArray o r = (over c o r).toArray
  | [], _, _ => rfl
  | v :: r, c, o => by
    simp only [spl, over]
    rw [← spl_over r (c.set o v) (o + 1)]
    simp
theorem mod_setCells (g : Nat) : ∀ (r : List Value) (o : Nat) (w : World), Mod (fun k => k = g) w (w.setCells g o r)
  | [], _, w => Mod.refl _ w
  | v :: r, o, w => ((Mod.refl _ w).setAt o none v).trans (mod_setCells g r (o + 1) _)
theorem qac {m : Nat} {r : List Value} {L' : List Blk} (i : Nat) [t : TRow P T m] (hw : wantO ops f ⟨none, .store T x y, ty, pos, af, gd⟩ = some true) (hx : evO f x = some (.pointer (some ⟨g, o, none⟩))) (hy : evO f y = some (.agg r.toArray)) (hi : L[i]? = some ⟨g, cells, T'⟩) (ho : Nat.ble (o + m) cells.length = true) (hm : r.length = m) (hv : r.all (·.oneCell') = true) (hL : L.set i ⟨g, over cells o r, T'⟩ = L') (h : SXl P n W R ops L' O E f rest Q) : SXl P n W R ops L O E f (⟨none, .store T x y, ty, pos, af, gd⟩ :: rest) Q :=
  SXl.steps hw rfl (fun a w hf hl => by
    obtain ⟨_, h3⟩ := t.h
    have ho' : o + m ≤ cells.length := by simpa using ho
    have hb := (hl.blk _ (List.mem_iff_getElem?.2 ⟨i, hi⟩)).2
    have e := run_store_row (P := P) (ty := T) h3 (w := w) (b := g) (o := o) (S := r.toArray) (by simp [hasRow, hb, ho']) (by simp [openRow, hb]) (by simpa using hm) (by simpa using hv)
    refine ⟨w.setCells g o r, by simp [execOp, hf.eval hx, hf.eval hy, e], hL ▸ hl.turned hi (mod_setCells g r o w) ?_⟩
    rw [setCells_heap g r o w _ _ _ hb, spl_over]) h
theorem over_all : ∀ (r c : List Value) (p : List Value), r.length = c.length → over (p ++ c) p.length r = p ++ r
  | [], c, p, h => by cases c <;> simp_all [over]
  | v :: r, [], p, h => by simp at h
  | v :: r, u :: c, p, h => by
    have h' : r.length = c.length := by simpa using h
    have e : (p ++ u :: c).set p.length v = (p ++ [v]) ++ c := by simp
    have := over_all r c (p ++ [v]) h'
    rw [over, e]
    rw [List.length_append, List.length_singleton] at this
    rw [this]
    simp
theorem qad {m : Nat} {r : List Value} {L' : List Blk} (i : Nat) [t : TRow P T m] (hw : wantO ops f ⟨none, .store T x y, ty, pos, af, gd⟩ = some true) (hx : evO f x = some (.pointer (some ⟨g, 0, none⟩))) (hy : evO f y = some (.agg r.toArray)) (hi : L[i]? = some ⟨g, cells, T'⟩) (hc : cells.length = m) (hm : r.length = m) (hv : r.all (·.oneCell') = true) (hL : L.set i ⟨g, r, T'⟩ = L') (h : SXl P n W R ops L' O E f rest Q) : SXl P n W R ops L O E f (⟨none, .store T x y, ty, pos, af, gd⟩ :: rest) Q :=
  qac i hw hx hy hi (by simp [hc]) hm hv (by have := over_all r cells [] (by omega); simp only [List.nil_append, List.length_nil] at this; rw [this]; exact hL) h
theorem SXl.alloc {c : List Value} [t : TZero P T c] (hw : wantO ops f ⟨some dn, .alloc T, ty, pos, af, gd⟩ = some true) (hd : Nat.blt dn n = true) (h : ∀ g, SXl P n W R ops (⟨g, c, T⟩ :: L) O E ((dn, .pointer (some ⟨g, 0, none⟩)) :: f) rest Q) : SXl P n W R ops L O E f (⟨some dn, .alloc T, ty, pos, af, gd⟩ :: rest) Q :=
  SXl.stepn (V := fun g => .pointer (some ⟨g, 0, none⟩)) (O' := fun _ => O) hw rfl hd (fun a w hf hl => by
    obtain ⟨v, h1, h2⟩ := t.h
    obtain ⟨i, hi, hz⟩ := Option.map_eq_some_iff.1 h1
    refine ⟨w.heap.size, w.alloc (.cells c.toArray T), ?_, hl.alloc c T⟩
    simp [execOp, Instr.alloc, zeroValue, typeInfo, hi, hz, newVar, newRow, h2]) h
theorem qaV {v : Value} {c : List Value} (hw : wantO ops f ⟨some dn, .box T x, ty, pos, af, gd⟩ = some true) (hd : Nat.blt dn n = true) (hx : evO f x = some v) (hv : v.cells = c.toArray) (h : ∀ g, SXl P n W R ops (⟨g, c, T⟩ :: L) O E ((dn, .pointer (some ⟨g, 0, none⟩)) :: f) rest Q) : SXl P n W R ops L O E f (⟨some dn, .box T x, ty, pos, af, gd⟩ :: rest) Q :=
  SXl.stepn (V := fun g => .pointer (some ⟨g, 0, none⟩)) (O' := fun _ => O) hw rfl hd (fun a w hf hl => by
    refine ⟨w.heap.size, w.alloc (.cells c.toArray T), ?_, hl.alloc c T⟩
    simp [execOp, hf.eval hx, Instr.box, newVar, newRow, hv]) h
theorem run_call {fn : FuncId} [t : TFun P fn] {w : World} (args : Array Value) : (callFunc fn args).run P w = .ok (.enter fn args) w := by
  obtain ⟨x, h1, h2, h3⟩ := t.h
  have h2' : ¬ x.name = "runtime.NumGoroutine" := by simpa using h2
  have h3' : ¬ x.body = none := by intro e; rw [e] at h3; cases h3
  simp [callFunc, h1, h2', h3']
/-- What operands hold. -/
def evL (f : List (Nat × Value)) : List Operand → Option (List Value)
  | [] => some []
  | x :: l => match evO f x, evL f l with
    | some v, some vs => some (v :: vs)
    | _, _ => none
theorem evL_map {a : Act} (hf : Fr n f a) : ∀ (l : List Operand) (vs : List Value), evL f l = some vs → l.map a.eval = vs
  | [], vs, h => by simpa [evL] using h
  | x :: l, vs, h => by
    unfold evL at h
    cases hx : evO f x with
    | none => simp [hx] at h
    | some v =>
      cases hl : evL f l with
      | none => simp [hx, hl] at h
      | some us =>
        simp only [hx, hl, Option.some.injEq] at h
        subst h
        rw [List.map_cons, hf.eval hx, evL_map hf l us hl]
theorem run_callop {fn : FuncId} {ars : List Operand} {args : List Value} {aT : Array TypeId} [TFun P fn] {a : Act} (hf : Fr n f a) (ha : evL f ars = some args) (w : World) (dd : Option Tmp) (g : Option (Nat × Bool)) :
    (execOp a.eval ⟨dd, .call ⟨.value (.func fn), ars.toArray, aT⟩, ty, pos, af, g⟩).run P w = .ok (.enter fn args.toArray) w := by
  have e := evL_map hf ars args ha
  have e2 : Act.eval a (.func fn) = .func (.func fn) #[] #[] := rfl
  simp [execOp, resolve, e2, Deferred.ofValue, invoke, e, run_call]
/-- A call whose value is known. -/
theorem qal {v : Value} {fn : FuncId} {ars : List Operand} {args : List Value} {aT : Array TypeId} [TFun P fn] (ha : evL f ars = some args)
    (hc : ∀ w, Loc W R L O E w → Calls P fn args.toArray w fun e w' => e = .returned v ∧ Mod (fun _ => False) w w') : OpW P n W R L O E f ⟨d, .call ⟨.value (.func fn), ars.toArray, aT⟩, ty, pos, af, gd⟩ v :=
  OpW.enter (fun _ w hf _ => run_callop hf ha w _ _) hc
/-- A call that leaves the world as it is. -/
theorem OpW.calls {v : Value} {fn : FuncId} {ars : List Operand} {args : List Value} {aT : Array TypeId} [TFun P fn] (ha : evL f ars = some args)
    (hc : ∀ w, Loc W R L O E w → Calls P fn args.toArray w fun e w' => e = .returned v ∧ w = w') : OpW P n W R L O E f ⟨d, .call ⟨.value (.func fn), ars.toArray, aT⟩, ty, pos, af, gd⟩ v :=
  qal ha (fun w hl => (hc w hl).mono fun _ _ ⟨h1, h2⟩ => ⟨h1, h2 ▸ Mod.refl _ _⟩)
/-- A call that hands back new memory. -/
theorem SXl.calln {ξ : Type} {v : ξ → Value} {F1 : ξ → Res} {fn : FuncId} {ars : List Operand} {args : List Value} {aT : Array TypeId} [TFun P fn] (hw : wantO ops f ⟨some dn, .call ⟨.value (.func fn), ars.toArray, aT⟩, ty, pos, af, gd⟩ = some true) (hd : Nat.blt dn n = true) (ha : evL f ars = some args)
    (hc : ∀ w, Loc W R L O E w → Calls P fn args.toArray w (NewR ξ v F1 w))
    (h : ∀ x, SXl P n W R ops L O (F1 x :: E) ((dn, v x) :: f) rest Q) : SXl P n W R ops L O E f (⟨some dn, .call ⟨.value (.func fn), ars.toArray, aT⟩, ty, pos, af, gd⟩ :: rest) Q :=
  SXl.callx hw rfl hd (fun _ w hf _ => run_callop hf ha w _ _) hc h
/-! ### Slices -/
theorem run_index {e sz : Nat} [t : TSl P T e sz] {b o len cap i : Nat} (hi : i < len) (w : World) : (Instr.indexAt T (.slice (some ⟨b, o, none⟩) len cap) (.int .i64 (i : Int))).run P w = .ok (.pointer (some ⟨b, o + i * sz, none⟩)) w := by
  obtain ⟨h1, h2⟩ := t.h
  obtain ⟨ti, hti, hs⟩ := Option.map_eq_some_iff.1 h2
  have : (0 : Int) ≤ i ∧ (i : Int) < len := by omega
  simp [Instr.indexAt, run_underlying h1, asIntOf, sizeOf, typeInfo, hti, hs, go_sem]
  intro; omega
theorem OpW.indexAddr {e sz b len cap i : Nat} [TSl P T e sz] (hi : i < len) (hx : evO f x = some (.slice (some ⟨b, o, none⟩) len cap)) (hy : evO f y = some (.int .i64 (i : Int))) : OpW P n W R L O E f ⟨d, .indexAddr T x y, ty, pos, af, gd⟩ (.pointer (some ⟨b, o + i * sz, none⟩)) :=
  OpW.of (fun a w hf _ => by simp [execOp, hf.eval hx, hf.eval hy, run_index hi])
theorem qaM {e b len cap i : Nat} [TSl P T e 1] (hi : i < len) (hx : evO f x = some (.slice (some ⟨b, o, none⟩) len cap)) (hy : evO f y = some (.int .i64 (i : Int))) : OpW P n W R L O E f ⟨d, .indexAddr T x y, ty, pos, af, gd⟩ (.pointer (some ⟨b, o + i, none⟩)) := by
  have := OpW.indexAddr (P := P) (n := n) (W := W) (R := R) (L := L) (O := O) (E := E) (d := d) (T := T) (ty := ty) (pos := pos) (af := af) (gd := gd) hi hx hy
  rwa [Nat.mul_one] at this
theorem OpW.len {e sz l c : Nat} {b : Option Addr} [t : TSl P T e sz] (hx : evO f x = some (.slice b l c)) : OpW P n W R L O E f ⟨d, .call ⟨.builtin .len, #[x], #[T]⟩, ty, pos, af, gd⟩ (.int .i64 (l : Int)) :=
  OpW.of (fun a w hf _ => by simp [execOp, resolve, invoke, builtin, hf.eval hx, Builtin.len_, run_underlying t.h.1, goInt])
theorem OpW.extract {vs : List Value} {j : Nat} {v : Value} (hx : evO f x = some (.tuple vs.toArray)) (hv : vs[j]? = some v) : OpW P n W R L O E f ⟨d, .extract x j, ty, pos, af, gd⟩ (v) :=
  OpW.of (fun a w hf _ => by simp [execOp, hf.eval hx, Instr.extract, hv])
/-! ### Old memory that the call turns -/
/-- A call that turns such memory. -/
theorem SXl.callJ {ξ : Type} {v : ξ → Value} {fn : FuncId} {ars : List Operand} {args : List Value} {aT : Array TypeId} [TFun P fn] (hq : ∀ k, ¬ R.q k) (hw : wantO ops f ⟨some dn, .call ⟨.value (.func fn), ars.toArray, aT⟩, ty, pos, af, gd⟩ = some true) (hd : Nat.blt dn n = true) (ha : evL f ars = some args) (K : ξ → Prop)
    (hc : ∀ w, Loc W R L O [] w → Calls P fn args.toArray w fun e w' => ∃ x, e = .returned (v x) ∧ K x ∧ Mod R.p w w' ∧ R.J w')
    (h : ∀ x, K x → SXl P n W R ops L O [] ((dn, v x) :: f) rest Q) : SXl P n W R ops L O [] f (⟨some dn, .call ⟨.value (.func fn), ars.toArray, aT⟩, ty, pos, af, gd⟩ :: rest) Q := ⟨fun a w hf hl => by
  unfold wpList
  rw [if_pos (wanted_of hf hw)]
  refine .inl ?_
  unfold Oper.wp
  rw [run_callop hf ha w _ _, Oper.upon_enter]
  refine (hc w hl).mono ?_
  rintro e w' ⟨x, rfl, hk, hm, hj⟩
  refine (h x hk).run _ _ (hf.put hd _) ?_
  exact {
    mod := hl.mod.then hm fun _ _ h => h
    inv := hj
    blk := fun b hb => ⟨(hl.blk b hb).1, hm.blk (hl.blk b hb).2 fun e => by
      have h1 := R.low _ e
      rcases (hl.blk b hb).1 with h2 | h2
      · exact hq _ h2
      · omega⟩
    apart := hl.apart
    own := fun q hq' => ⟨ownsRow_keep (hl.own q hq').1 hm fun k hk e => by have := (ownBlock_lt (hl.own q hq').1 hk).1; have := R.low _ e; omega, (hl.own q hq').2⟩
    ownApart := hl.ownApart
    res := fun F hF => by cases hF
    resNew := fun F hF => by cases hF
    resApart := .nil }⟩
/-- A call that turns the memory that a fact speaks of. -/
theorem SXl.callM {ξ : Type} {v : ξ → Value} {F : Res} {F' : ξ → Res} {fn : FuncId} {ars : List Operand} {args : List Value} {aT : Array TypeId} [TFun P fn] (i : Nat) (hw : wantO ops f ⟨some dn, .call ⟨.value (.func fn), ars.toArray, aT⟩, ty, pos, af, gd⟩ = some true) (hd : Nat.blt dn n = true) (ha : evL f ars = some args) (hi : E[i]? = some F) (hsub : ∀ x k, (F' x).foot k → F.foot k) (K : ξ → Prop)
    (hc : ∀ w, Loc W R L O E w → Calls P fn args.toArray w fun e w' => ∃ x, e = .returned (v x) ∧ K x ∧ (F' x).says w' ∧ Mod F.foot w w')
    (h : ∀ x, K x → SXl P n W R ops L O (E.set i (F' x)) ((dn, v x) :: f) rest Q) : SXl P n W R ops L O E f (⟨some dn, .call ⟨.value (.func fn), ars.toArray, aT⟩, ty, pos, af, gd⟩ :: rest) Q :=
  SXl.callm i hw rfl hd (fun _ w hf _ => run_callop hf ha w _ _) hi hsub hc h
end
end Go.Proofs.YtkkjjhooamlljaaGreatDoor
namespace Go.Proofs.YtkkjjhooamlljaaGreatDoor
open Go.RowKit

end Go.Proofs.YtkkjjhooamlljaaGreatDoor
namespace Go.Proofs.YtkkjjhooamlljaaGreatDoor
open Go.RowKit

section
variable {P : Program} {t e sz by_ : Nat} {i0 : TypeInfo} {z : Value} {α : Type} {cells : α → List Value}

/-- What a copy of xs hands back. -/
def CopyAt (cells : α → List Value) (sz : Nat) (W : World) (l : List α) (w : World) (v : Value) : Prop := ∃ a c, v = .slice a l.length c ∧ SliceAt (Flat cells) sz (fun k => W.heap.size ≤ k) w a l
/-- The kit's word on a type's size. -/
structure Sized (P : Program) (t e sz bytes : Nat) (i0 : TypeInfo) (z : Value) : Prop where
  und : P.underlying t = some (.slice e)
  inf : P.info? e = some i0
  zero : i0.zero = some z
  size : i0.size = sz
  bytes : i0.bytes = bytes
  pos : 0 < sz

theorem run_copy (H : Sized P t e sz by_ i0 z) (hc : ∀ x, (cells x).length = sz) (ty : TypeId) {w : World} {d : Option Addr} (hd : d = none ∨ ∃ g, d = some ⟨g, 0, none⟩) {b : Option Addr} {c : Nat} {l : List α} {R : Nat → Prop} (hl : SliceAt (Flat cells) sz R w b l) (hn : l.length ≤ maxLen) (hb : l.length * by_ ≤ 140737488355328) :
    ∃ v w', (Builtin.append_ #[t, t] ty #[.slice d 0 0, .slice b l.length c]).run P w = .ok v w' ∧ CopyAt cells sz w l w' v ∧ Kept w w' := by
  unfold maxLen at hn
  by_cases h0 : l = []
  · subst h0
    refine ⟨.slice d 0 0, w, ?_, ⟨d, 0, rfl, SliceAt.nil⟩, Mod.refl _ _⟩
    rcases hd with rfl | ⟨g, rfl⟩ <;> cases b <;>
      simp [Builtin.append_, run_underlying H.und, sizeOf, typeInfo, zeroValue, H.inf, H.zero, Builtin.lenOf, Builtin.firstCells, loadCells, loadCellsFrom, storeCells]
  · have hpos : 0 < l.length := List.length_pos_iff.2 h0
    obtain ⟨rows, h1, h2, h3⟩ := hl
    obtain ⟨b', o, rfl, _, _, hrow⟩ : ∃ b' o, b = some ⟨b', o, none⟩ ∧ R b' ∧ b' < w.heap.size ∧ ∀ (i : Nat) (r : List Value), rows[i]? = some r → r.length = sz ∧ ∀ (j : Nat) (v : Value), r[j]? = some v → w.cell? ⟨b', o + i * sz + j, none⟩ = some v := by
      rcases h1 with h1 | h1
      · subst h1; simp at h2; omega
      · exact h1
    have hrows : rows = l.map cells := by
      apply List.ext_getElem?
      intro j
      by_cases hj : j < l.length
      · have e1 := List.getElem?_eq_getElem (l := rows) (i := j) (by omega)
        have e2 := List.getElem?_eq_getElem (l := l) (i := j) hj
        have h4 : rows[j] = cells l[j] := h3 j _ _ e1 e2
        rw [e1, List.getElem?_map, e2, h4]; rfl
      · rw [List.getElem?_eq_none (by omega), List.getElem?_eq_none (by simp; omega)]
    subst hrows
    have hfl := flat_length hc l
    have hlen : ((l.map cells).flatten).length = l.length * i0.size := by rw [H.size]; exact hfl
    have hnews : ∀ j v, ((l.map cells).flatten)[j]? = some v → w.cell? ((⟨b', o, none⟩ : Addr).add j) = some v := by
      intro j v hj
      have hjl : j < l.length * sz := by rw [← hfl]; exact (List.getElem?_eq_some_iff.1 hj).1
      have hjd : j / sz < l.length := by rw [Nat.div_lt_iff_lt_mul H.pos]; exact hjl
      have ej : j / sz * sz + j % sz = j := by rw [Nat.mul_comm]; exact Nat.div_add_mod j sz
      have hk : (l.map cells)[j / sz]? = some (cells l[j / sz]) := by rw [List.getElem?_map, List.getElem?_eq_getElem hjd]; rfl
      have hm : j % sz < (cells l[j / sz]).length := by rw [hc]; exact Nat.mod_lt _ H.pos
      have h5 := flatten_at (sz := sz) (by intro r hr; obtain ⟨x, _, rfl⟩ := List.mem_map.1 hr; exact hc x) hk (List.getElem?_eq_getElem hm)
      rw [ej, hj] at h5
      simp only [Option.some.injEq] at h5
      have h6 := (hrow _ _ hk).2 _ _ (List.getElem?_eq_getElem hm)
      have ea : (⟨b', o, none⟩ : Addr).add j = ⟨b', o + j / sz * sz + j % sz, none⟩ := by
        have q : (⟨b', o, none⟩ : Addr).add j = ⟨b', o + j, none⟩ := by unfold Addr.add; split <;> simp_all
        rw [q, Nat.add_assoc, ej]
      rw [ea, h5]
      exact h6
    have key : ∀ (v : Value) (cap : Nat), v = .slice (some ⟨w.heap.size, 0, none⟩) l.length cap → ∀ cs : Array Value, cs.toList.take (l.length * sz) = (l.map cells).flatten → CopyAt cells sz w l (w.drew.alloc (.cells cs e)) v := by
      intro v cap hv cs hcs
      refine ⟨_, _, hv, ⟨l.map cells, .inr ⟨w.heap.size, 0, rfl, Nat.le_refl _, by simp, fun j r hr => ⟨?_, fun q u hu => ?_⟩⟩, by simp, fun j r x hr hx => ?_⟩⟩
      · obtain ⟨x, _, rfl⟩ := List.mem_map.1 (List.mem_of_getElem? hr)
        exact hc x
      · have h5 := flatten_at (sz := sz) (by intro r hr; obtain ⟨x, _, rfl⟩ := List.mem_map.1 hr; exact hc x) hr hu
        rw [← hcs, List.getElem?_take] at h5
        split at h5
        · rw [Nat.zero_add]
          have hn := heap_alloc_new w.drew (.cells cs e)
          have hs : w.drew.heap.size = w.heap.size := rfl
          rw [hs] at hn
          simp only [World.cell?, hn]
          simpa using h5
        · cases h5
      · rw [List.getElem?_map, hx] at hr
        simpa [Flat] using hr.symm
    have hK : ∀ cs : Array Value, Kept w (w.drew.alloc (.cells cs e)) := fun cs => (Mod.refl _ w).drew.alloc _
    rcases hd with rfl | ⟨g, rfl⟩
    · refine ⟨_, _, run_append_nil w t ty e i0 z H.und H.inf H.zero ⟨b', o, none⟩ l.length c _ hlen hnews hpos (by omega) (by rw [H.bytes]; omega), key _ _ rfl _ ?_, hK _⟩
      rw [← hfl]; simp
    · have hg := run_append_grow (P := P) w t ty e i0 z H.und H.inf H.zero ⟨g, 0, none⟩ 0 0 [] (by simp) (by simp) ⟨b', o, none⟩ l.length c _ hlen hnews (by omega) (by omega) (by rw [Nat.zero_add, nextslicecap_zero hpos, H.bytes]; omega)
      simp only [Nat.zero_add] at hg
      refine ⟨_, _, hg, key _ _ rfl _ ?_, hK _⟩
      rw [← hfl]; simp

def slA : Value → Option Addr
  | .slice a _ _ => a
  | _ => none
def slC : Value → Nat
  | .slice _ _ c => c
  | _ => 0
@[go_sem] theorem slA_slice (a : Option Addr) (n c : Nat) : slA (.slice a n c) = a := rfl
@[go_sem] theorem slC_slice (a : Option Addr) (n c : Nat) : slC (.slice a n c) = c := rfl

/-- A copy in a drawn region. -/
theorem RM.copy {W : World} {ops : Array Oper} {Q : Exit → Act → World → Prop} {k : Nat} {o : Oper} {rest : List Oper} {F : (Nat → Value) → Act} {U : List (Nat × ((Nat → Value) → World → Value → Prop))}
    (us : List Nat) (s y : Operand) (H : Sized P t e sz by_ i0 z) (hc : ∀ x, (cells x).length = sz) (ho : o.op = .call { callee := .builtin .append, args := #[s, y], argTypes := #[t, t] })
    {b : Option Addr} {c : Nat} {l : List α} {R : Nat → Prop} (hl : SliceAt (Flat cells) sz R W b l) (hn : l.length ≤ maxLen) (hb : l.length * by_ ≤ 140737488355328)
    (hus : (us.all fun i => (reach ops ops.size k).contains i) = true) (hw : ∀ x, Region.wanted o (yielded ops (F x).tmps) = true)
    (hs : ∀ x w, Kept W w → (∀ u ∈ U, u.1 ∈ us → u.2 x w (x u.1)) → ∃ d, (F x).eval s = .slice d 0 0 ∧ (d = none ∨ ∃ g, d = some ⟨g, 0, none⟩)) (hy : ∀ x, (F x).eval y = .slice b l.length c)
    (h : RS P ops Kept (Kept W) Q (k + 1) rest (fun x => (F x).put o.dst (.slice (slA (x k)) l.length (slC (x k)))) ((k, fun _ => CopyAt cells sz W l) :: U)) : RS P ops Kept (Kept W) Q k (o :: rest) F U :=
  RS.new us (CopyAt cells sz W l) (fun v => .slice (slA v) l.length (slC v)) (fun _ _ ⟨_, _, hv, _⟩ => by rw [hv]; rfl) hus (fun _ _ _ ⟨a', c', h1, h2⟩ hm => ⟨a', c', h1, h2.flatKeep hm⟩) hw
    (fun x w hS hK => by
      obtain ⟨d, hs1, hd⟩ := hs x w hS hK
      obtain ⟨v, w', hr, ⟨a', c', rfl, h2⟩, h3⟩ := run_copy (P := P) H hc o.type hd (hl.flatKeep hS) hn hb (c := c)
      unfold Oper.wp execOp
      simp only [ho, resolve, invoke, builtin, Sem.run_bind, Sem.run_pure, Result.andThen_ok, List.map_toArray, List.map_cons, List.map_nil, hs1, hy x, hr]
      refine ⟨_, rfl, ⟨a', c', rfl, ?_⟩, hS.thenNone h3, h3⟩
      obtain ⟨rows, p1, p2⟩ := h2
      exact ⟨rows, p1.weaken fun j _ (hj : w.heap.size ≤ j) => Nat.le_trans hS.size hj, p2⟩) h

end

end Go.Proofs.YtkkjjhooamlljaaGreatDoor
namespace Go.Proofs.YtkkjjhooamlljaaGreatDoor
open Go.RowKit

section
variable {P : Program} {t e sz by_ : Nat} {i0 : TypeInfo} {z : Value} {α : Type} {cells : α → List Value}

theorem news_of_slice {R : Nat → Prop} {w : World} {b : Option Addr} {l : List α} (hl : SliceAt (Flat cells) sz R w b l) (hc : ∀ x, (cells x).length = sz) (hp : 0 < sz) (h0 : l ≠ []) :
    ∃ ad, b = some ad ∧ ∀ j u, ((l.map cells).flatten)[j]? = some u → w.cell? (ad.add j) = some u := by
  obtain ⟨rows, h1, h2, h3⟩ := hl
  have hpos : 0 < l.length := List.length_pos_iff.2 h0
  obtain ⟨b', o, rfl, _, _, hrow⟩ : ∃ b' o, b = some ⟨b', o, none⟩ ∧ R b' ∧ b' < w.heap.size ∧ ∀ (i : Nat) (r : List Value), rows[i]? = some r → r.length = sz ∧ ∀ (j : Nat) (v : Value), r[j]? = some v → w.cell? ⟨b', o + i * sz + j, none⟩ = some v := by
    rcases h1 with h1 | h1
    · subst h1; simp at h2; omega
    · exact h1
  have hrows : rows = l.map cells := by
    apply List.ext_getElem?
    intro j
    by_cases hj : j < l.length
    · have e1 := List.getElem?_eq_getElem (l := rows) (i := j) (by omega)
      have e2 := List.getElem?_eq_getElem (l := l) (i := j) hj
      have h4 : rows[j] = cells l[j] := h3 j _ _ e1 e2
      rw [e1, List.getElem?_map, e2, h4]; rfl
    · rw [List.getElem?_eq_none (by omega), List.getElem?_eq_none (by simp; omega)]
  subst hrows
  have hfl := flat_length hc l
  refine ⟨_, rfl, fun j v hj => ?_⟩
  have hjl : j < l.length * sz := by rw [← hfl]; exact (List.getElem?_eq_some_iff.1 hj).1
  have hjd : j / sz < l.length := by rw [Nat.div_lt_iff_lt_mul hp]; exact hjl
  have ej : j / sz * sz + j % sz = j := by rw [Nat.mul_comm]; exact Nat.div_add_mod j sz
  have hk : (l.map cells)[j / sz]? = some (cells l[j / sz]) := by rw [List.getElem?_map, List.getElem?_eq_getElem hjd]; rfl
  have hm : j % sz < (cells l[j / sz]).length := by rw [hc]; exact Nat.mod_lt _ hp
  have h5 := flatten_at (sz := sz) (by intro r hr; obtain ⟨x, _, rfl⟩ := List.mem_map.1 hr; exact hc x) hk (List.getElem?_eq_getElem hm)
  rw [ej, hj] at h5
  simp only [Option.some.injEq] at h5
  have h6 := (hrow _ _ hk).2 _ _ (List.getElem?_eq_getElem hm)
  have ea : (⟨b', o, none⟩ : Addr).add j = ⟨b', o + j / sz * sz + j % sz, none⟩ := by
    have q : (⟨b', o, none⟩ : Addr).add j = ⟨b', o + j, none⟩ := by unfold Addr.add; split <;> simp_all
    rw [q, Nat.add_assoc, ej]
  rw [ea, h5]
  exact h6

end

end Go.Proofs.YtkkjjhooamlljaaGreatDoor
namespace Go.Proofs.YtkkjjhooamlljaaGreatDoor
open Go.RowKit

theorem SliceAt.left {α : Type} {cells : α → List Value} {sz : Nat} {R : Nat → Prop} {w : World} {a : Option Addr} {l m : List α} (h : SliceAt (Flat cells) sz R w a (l ++ m)) : SliceAt (Flat cells) sz R w a l := by
  obtain ⟨rows, h1, h2, h3⟩ := h
  rw [List.length_append] at h2
  refine ⟨rows.take l.length, ?_, by rw [List.length_take]; omega, fun i r x hr hx => ?_⟩
  · rcases h1 with h1 | ⟨b, o, rfl, hR, hb, h⟩
    · subst h1; exact .inl (by simp)
    · refine .inr ⟨b, o, rfl, hR, hb, fun i r hr => h i r ?_⟩
      rw [List.getElem?_take] at hr
      split at hr
      · exact hr
      · cases hr
  · have hi := (List.getElem?_eq_some_iff.1 hx).1
    rw [List.getElem?_take_of_lt hi] at hr
    exact h3 i r x hr (by rw [List.getElem?_append_left hi]; exact hx)
theorem SliceAt.right {α : Type} {cells : α → List Value} {sz b o : Nat} {R : Nat → Prop} {w : World} {l m : List α} (h : SliceAt (Flat cells) sz R w (some ⟨b, o, none⟩) (l ++ m)) : SliceAt (Flat cells) sz R w (some ⟨b, o + l.length * sz, none⟩) m := by
  obtain ⟨rows, h1, h2, h3⟩ := h
  rw [List.length_append] at h2
  refine ⟨rows.drop l.length, ?_, by rw [List.length_drop]; omega, fun i r x hr hx => ?_⟩
  · rcases h1 with h1 | ⟨b', o', e, hR, hb, h⟩
    · subst h1; exact .inl (by simp)
    · simp only [Option.some.injEq, Addr.mk.injEq, and_true] at e
      obtain ⟨rfl, rfl⟩ := e
      refine .inr ⟨_, _, rfl, hR, hb, fun i r hr => ?_⟩
      rw [List.getElem?_drop] at hr
      obtain ⟨h4, h5⟩ := h _ r hr
      refine ⟨h4, fun j v hv => ?_⟩
      rw [← h5 j v hv, Nat.add_mul, ← Nat.add_assoc]
  · rw [List.getElem?_drop] at hr
    exact h3 _ r x hr (by rw [List.getElem?_append_right (by omega), Nat.add_sub_cancel_left]; exact hx)
theorem grownBy_refl (w : World) (r : Option Nat) : w.grownBy w r := ⟨rfl, rfl, rfl, Nat.le_refl _, fun _ _ _ => rfl⟩

section
variable {P : Program} {t e sz by_ : Nat} {i0 : TypeInfo} {z : Value} {α : Type} {cells : α → List Value}

theorem run_append_slice {B : Nat} (H : Sized P t e sz by_ i0 z) (hzs : z.cells.size = sz) (hc : ∀ x, (cells x).length = sz) (hone : ∀ x, ∀ u ∈ cells x, u.oneCell' = true) (ty : TypeId) {w : World} {d : Option Addr} {n c0 : Nat} {xs : List Value}
    (own : w.ownsRow B e sz (.slice d n c0) n xs) (hB : B ≤ w.heap.size) {b : Option Addr} {c : Nat} {l : List α} {R : Nat → Prop} (hl : SliceAt (Flat cells) sz R w b l) (hn : n + l.length ≤ maxLen) (hb : (n + l.length) * by_ ≤ 140737488355328) :
    ∃ a' c' w', (Builtin.append_ #[t, t] ty #[.slice d n c0, .slice b l.length c]).run P w = .ok (.slice a' (n + l.length) c') w' ∧ w.grownBy w' (Value.slice d n c0).ownBlock ∧ w'.ownsRow B e sz (.slice a' (n + l.length) c') (n + l.length) (xs ++ (l.map cells).flatten) := by
  by_cases h0 : l = []
  · subst h0
    refine ⟨d, c0, w, ?_, grownBy_refl _ _, by simpa using own⟩
    rcases own.2 with ⟨hv, hn0⟩ | ⟨g, cap, cur, hv, _, _, hnc, _⟩
    · injection hv with e1 e2 e3
      subst e1 e2 e3
      cases b <;>
        simp [Builtin.append_, run_underlying H.und, sizeOf, typeInfo, zeroValue, H.inf, H.zero, Builtin.lenOf, Builtin.firstCells, loadCells, loadCellsFrom, storeCells]
    · injection hv with e1 e2 e3
      subst e1 e3
      cases b <;>
        simp [Builtin.append_, run_underlying H.und, sizeOf, typeInfo, zeroValue, H.inf, H.zero, Builtin.lenOf, Builtin.firstCells, loadCells, loadCellsFrom, storeCells, hnc]
  · obtain ⟨ad, rfl, hnews⟩ := news_of_slice hl hc H.pos h0
    obtain ⟨v2, w2, hr2, hown, hg, _⟩ := run_append_own (P := P) w B t ty e i0 z sz by_ H.und H.inf H.zero H.size H.bytes hzs H.pos (.slice d n c0) n xs own ad l.length c _ (flat_length hc l) hnews
      (fun u hu => by
        obtain ⟨r, hr, hu⟩ := List.mem_flatten.1 hu
        obtain ⟨x, _, rfl⟩ := List.mem_map.1 hr
        exact hone x u hu) hn hb hB
    obtain ⟨a', c', rfl⟩ := own_form hown
    exact ⟨a', c', w2, hr2, hg, hown⟩

theorem wpList_append_slice {B : Nat} {ops : Array Oper} {rest : List Oper} {o : Oper} {a : Act} {w : World} {Q : Exit → Act → World → Prop} (hgd : o.guard = none) (s x : Operand) (H : Sized P t e sz by_ i0 z) (hzs : z.cells.size = sz) (hc : ∀ x, (cells x).length = sz) (hone : ∀ x, ∀ u ∈ cells x, u.oneCell' = true)
    (ho : o.op = .call { callee := .builtin .append, args := #[s, x], argTypes := #[t, t] }) {d : Option Addr} {n c0 : Nat} {xs : List Value} (hs : a.eval s = .slice d n c0) (own : w.ownsRow B e sz (.slice d n c0) n xs) (hB : B ≤ w.heap.size)
    {b : Option Addr} {c m : Nat} {l : List α} {R : Nat → Prop} (hm : m = l.length) (hx : a.eval x = .slice b m c) (hl : SliceAt (Flat cells) sz R w b l) (hn : n + l.length ≤ maxLen) (hb : (n + l.length) * by_ ≤ 140737488355328)
    (h : ∀ a' c' w', w'.ownsRow B e sz (.slice a' (n + l.length) c') (n + l.length) (xs ++ (l.map cells).flatten) → w.grownBy w' (Value.slice d n c0).ownBlock → wpList P ops Q rest (a.put o.dst (.slice a' (n + l.length) c')) w') : wpList P ops Q (o :: rest) a w := by
  subst hm
  refine wpList_plain hgd fun K hK => ?_
  obtain ⟨a', c', w', hr, h3, h2⟩ := run_append_slice (P := P) H hzs hc hone o.type own hB hl hn hb (c := c)
  unfold Oper.wp execOp
  simp only [ho, resolve, invoke, builtin, Sem.run_bind, Sem.run_pure, Result.andThen_ok, List.map_toArray, List.map_cons, List.map_nil, hs, hx, hr]
  exact hK _ _ (h a' c' w' h2 h3)
end

end Go.Proofs.YtkkjjhooamlljaaGreatDoor
namespace Go.Proofs.YtkkjjhooamlljaaGreatDoor
open Go.RowKit

/-- An element's type: its row of the table. -/
class TEl (P : Program) (e : TypeId) (sz by_ : outParam Nat) (z : outParam Value) : Prop where
  p : (P.info? e).map (fun i => (i.zero, i.size, i.bytes)) = some (some z, sz, by_)
  q : z.cells.size = sz ∧ 0 < sz
theorem TEl.h {P : Program} {e sz by_ : Nat} {z : Value} (t : TEl P e sz by_ z) : ∃ i, P.info? e = some i ∧ i.zero = some z ∧ i.size = sz ∧ i.bytes = by_ ∧ z.cells.size = sz ∧ 0 < sz := by
  obtain ⟨i, h1, h2⟩ := Option.map_eq_some_iff.1 t.p
  simp only [Prod.mk.injEq] at h2
  exact ⟨i, h1, h2.1, h2.2.1, h2.2.2, t.q⟩

section
variable {P : Program} {n : Nat} {W : World} {R : Rg W} {L : List Blk} {O : List Own} {E : List Res} {f : List (Nat × Value)} {Q : Exit → Act → World → Prop} {ops : Array Oper} {rest : List Oper}
variable {d : Option Nat} {dn : Nat} {x y : Operand} {ty T T' : TypeId} {pos : String} {af : Array Edge} {gd : Option (Nat × Bool)}

theorem Loc.ownNil {w : World} (h : Loc W R L O E w) (e sz : Nat) : Loc W R L (⟨.slice none 0 0, e, sz, 0, []⟩ :: O) E w where
  mod := h.mod
  inv := h.inv
  blk := h.blk
  apart := h.apart
  own := fun o ho => by
    rcases List.mem_cons.1 ho with rfl | ho
    · exact ⟨World.ownsRow_nil w _ _ _, fun b _ e => by cases e⟩
    · exact h.own o ho
  ownApart := List.pairwise_cons.2 ⟨fun o _ k hk => (nomatch hk), h.ownApart⟩
  res := fun F hF => ⟨(h.res F hF).1, (h.res F hF).2.1, (h.res F hF).2.2.1, fun o ho k hk => by
    rcases List.mem_cons.1 ho with rfl | ho
    · cases hk
    · exact (h.res F hF).2.2.2 o ho k hk⟩
  resNew := h.resNew
  resApart := h.resApart
theorem SX.ownNil {c : Code} (e sz : Nat) (h : SX P n W R L (⟨.slice none 0 0, e, sz, 0, []⟩ :: O) E f c Q) : SX P n W R L O E f c Q := ⟨fun a w hf hl => h.run a w hf (hl.ownNil e sz)⟩
theorem SXl.ownNil (e sz : Nat) (h : SXl P n W R ops L (⟨.slice none 0 0, e, sz, 0, []⟩ :: O) E f rest Q) : SXl P n W R ops L O E f rest Q := ⟨fun a w hf hl => h.run a w hf (hl.ownNil e sz)⟩
/-- The block that was made last, told as a slice of the call's own. -/
theorem Loc.toOwn {w : World} {g e sz m : Nat} {cells : List Value} (h : Loc W R (⟨g, cells, e⟩ :: L) O E w) (hR : ¬ R.q g) (hm : cells.length = m * sz) (hmax : m ≤ maxLen) : Loc W R L (⟨.slice (some ⟨g, 0, none⟩) m m, e, sz, m, cells⟩ :: O) E w where
  mod := h.mod
  inv := h.inv
  blk := fun b hb => h.blk b (List.mem_cons_of_mem _ hb)
  apart := (List.pairwise_cons.1 h.apart).2
  own := fun o ho => by
    rcases List.mem_cons.1 ho with rfl | ho
    · have hb := h.blk _ List.mem_cons_self
      refine ⟨⟨hm, .inr ⟨g, m, cells.toArray, rfl, hb.1.resolve_left hR, hb.2, Nat.le_refl _, hmax, by simpa using hm, by simp [← hm]⟩⟩, fun b hb e => ?_⟩
      simp only [Value.ownBlock, Option.some.injEq] at e
      exact (List.pairwise_cons.1 h.apart).1 b hb e
    · exact ⟨(h.own o ho).1, fun b hb => (h.own o ho).2 b (List.mem_cons_of_mem _ hb)⟩
  ownApart := List.pairwise_cons.2 ⟨fun o ho k hk e => by
    simp only [Value.ownBlock, Option.some.injEq] at hk
    subst hk
    exact (h.own o ho).2 _ List.mem_cons_self e, h.ownApart⟩
  res := fun F hF => ⟨(h.res F hF).1, (h.res F hF).2.1, fun b hb => (h.res F hF).2.2.1 b (List.mem_cons_of_mem _ hb), fun o ho k hk => by
    rcases List.mem_cons.1 ho with rfl | ho
    · simp only [Value.ownBlock, Option.some.injEq] at hk
      subst hk
      exact (h.res F hF).2.2.1 _ List.mem_cons_self
    · exact (h.res F hF).2.2.2 o ho k hk⟩
  resNew := h.resNew
  resApart := h.resApart
/-- A slice of the call's own, turned; it lies where it lay, or in a new block. -/
theorem Loc.ownTurned {w w' : World} {i : Nat} {o o' : Own} (h : Loc W R L O E w) (hi : O[i]? = some o) (hm : Mod (fun k => o.v.ownBlock = some k) w w') (hown : w'.ownsRow W.heap.size o'.e o'.sz o'.v o'.n o'.xs)
    (hat : o'.v.ownBlock = o.v.ownBlock ∨ ∃ g, o'.v.ownBlock = some g ∧ w.heap.size ≤ g) : Loc W R L (O.set i o') E w' := by
  have hmem : o ∈ O := List.mem_iff_getElem?.2 ⟨i, hi⟩
  have far : ∀ j p, j ≠ i → O[j]? = some p → ∀ k, p.v.ownBlock = some k → o.v.ownBlock ≠ some k := fun j p hj hp k hk e =>
    pairwise_ne_of (r := fun a b : Own => ∀ k, a.v.ownBlock = some k → b.v.ownBlock ≠ some k) (fun a b hab k hb ha => hab k ha hb) h.ownApart hp hi hj k hk e
  exact {
    mod := h.mod.then hm fun k hk e => by have := (ownBlock_lt (h.own o hmem).1 e).1; omega
    inv := R.keep _ w w' h.inv hm fun k hk e => by have := (ownBlock_lt (h.own o hmem).1 e).1; omega
    blk := fun b hb => ⟨(h.blk b hb).1, hm.blk (h.blk b hb).2 fun e => (h.own o hmem).2 b hb e⟩
    apart := h.apart
    own := fun p hp => by
      rcases mem_set_cases hp with rfl | ⟨j, hj, hp⟩
      · refine ⟨hown, fun b hb e => ?_⟩
        rcases hat with hat | ⟨g, hat, hg⟩
        · exact (h.own o hmem).2 b hb (hat ▸ e)
        · rw [hat] at e
          simp only [Option.some.injEq] at e
          have := h.blk_lt hb
          omega
      · have hpm : p ∈ O := List.mem_iff_getElem?.2 ⟨j, hp⟩
        exact ⟨ownsRow_keep (h.own p hpm).1 hm fun k hk e => far j p hj hp k hk e, (h.own p hpm).2⟩
    ownApart := by
      have key : ∀ (j : Nat) (p : Own), j ≠ i → O[j]? = some p → ∀ k, p.v.ownBlock = some k → o'.v.ownBlock ≠ some k := fun j p hj hp k hk e => by
        rcases hat with hat | ⟨g, hat, hg⟩
        · exact far j p hj hp k hk (hat ▸ e)
        · rw [hat] at e
          simp only [Option.some.injEq] at e
          subst e
          have := (ownBlock_lt (h.own p (List.mem_iff_getElem?.2 ⟨j, hp⟩)).1 hk).2
          omega
      rw [List.pairwise_iff_getElem]
      intro a b ha hb hab k hk
      have ea : (O.set i o')[a]? = some (O.set i o')[a] := List.getElem?_eq_getElem ha
      have eb : (O.set i o')[b]? = some (O.set i o')[b] := List.getElem?_eq_getElem hb
      rw [List.getElem?_set] at ea eb
      rw [List.length_set] at ha hb
      by_cases h1 : i = a
      · by_cases h2 : i = b
        · omega
        · rw [if_pos h1, if_pos (show i < O.length by omega)] at ea
          rw [if_neg h2] at eb
          intro e
          rw [← Option.some.inj ea] at hk
          exact key b _ (fun e => h2 e.symm) eb k e hk
      · rw [if_neg h1] at ea
        by_cases h2 : i = b
        · rw [if_pos h2, if_pos (show i < O.length by omega)] at eb
          rw [← Option.some.inj eb]
          exact key a _ (fun e => h1 e.symm) ea k hk
        · rw [if_neg h2] at eb
          intro e
          exact pairwise_ne_of (r := fun a b : Own => ∀ k, a.v.ownBlock = some k → b.v.ownBlock ≠ some k) (fun a b hab k hb ha => hab k ha hb) h.ownApart ea eb (by omega) k hk e
    res := fun F hF => ⟨F.stable _ w w' (h.res F hF).1 hm fun k hk e => (h.res F hF).2.2.2 o hmem k e hk, fun k hk => Nat.lt_of_lt_of_le ((h.res F hF).2.1 k hk) hm.size, (h.res F hF).2.2.1, fun p hp k hk f => by
      rcases mem_set_cases hp with rfl | ⟨j, hj, hp⟩
      · rcases hat with hat | ⟨g, hat, hg⟩
        · exact (h.res F hF).2.2.2 o hmem k (hat ▸ hk) f
        · rw [hat] at hk
          simp only [Option.some.injEq] at hk
          subst hk
          have := (h.res F hF).2.1 _ f
          omega
      · exact (h.res F hF).2.2.2 p (List.mem_iff_getElem?.2 ⟨j, hp⟩) k hk f⟩
    resNew := h.resNew
    resApart := h.resApart }
theorem mod_grownBy {w w' : World} {row : Option Nat} (h : w.grownBy w' row) : Mod (fun k => row = some k) w w' := ⟨h.os, h.tape, h.output, h.size, fun k hk hn => h.block k hk fun e => hn e.symm⟩

/-- append(own, cells of a block of the call's own). -/
theorem SXl.append {e sz by_ m c n0 g : Nat} {z v0 : Value} {xs cells : List Value} (i j : Nat) [t : TSl P T e sz] [te : TEl P e sz by_ z] (hw : wantO ops f ⟨some dn, .call ⟨.builtin .append, #[x, y], #[T, T]⟩, ty, pos, af, gd⟩ = some true) (hd : Nat.blt dn n = true)
    (hx : evO f x = some v0) (hO : O[i]? = some ⟨v0, e, sz, n0, xs⟩) (hy : evO f y = some (.slice (some ⟨g, 0, none⟩) m c)) (hL : L[j]? = some ⟨g, cells, T'⟩) (hm : cells.length = m * sz) (h1 : cells.all (·.oneCell') = true)
    (h63 : n0 + m ≤ 9223372036854775807) (hby : (n0 + m) * by_ ≤ 140737488355328)
    (h : ∀ a c, SXl P n W R ops L (O.set i ⟨.slice a (n0 + m) c, e, sz, n0 + m, xs ++ cells⟩) E ((dn, .slice a (n0 + m) c) :: f) rest Q) : SXl P n W R ops L O E f (⟨some dn, .call ⟨.builtin .append, #[x, y], #[T, T]⟩, ty, pos, af, gd⟩ :: rest) Q := ⟨fun a w hf hl => by
  obtain ⟨i0, q1, q2, q3, q4, q5, q6⟩ := te.h
  have hmem : (⟨v0, e, sz, n0, xs⟩ : Own) ∈ O := List.mem_iff_getElem?.2 ⟨i, hO⟩
  have hb := (hl.blk _ (List.mem_iff_getElem?.2 ⟨j, hL⟩)).2
  have hnews : ∀ j u, cells[j]? = some u → w.cell? ((⟨g, 0, none⟩ : Addr).add j) = some u := fun j u hu => by
    rw [Addr.add_lit, Nat.zero_add]; exact blk_cell hb hu
  obtain ⟨v', w', hr, h2, h3, _, h5⟩ := run_append_own_at (P := P) w W.heap.size T ty e i0 z sz by_ t.h.1 q1 q2 q3 q4 q5 q6 v0 n0 xs (hl.own _ hmem).1 ⟨g, 0, none⟩ m c cells hm hnews (List.all_eq_true.1 h1) (by unfold maxLen; exact h63) hby hl.mod.size
  obtain ⟨a', c', rfl⟩ := own_form h2
  unfold wpList
  rw [if_pos (wanted_of hf hw)]
  refine .inl ?_
  unfold Oper.wp
  have hrun : (execOp a.eval ⟨some dn, .call ⟨.builtin .append, #[x, y], #[T, T]⟩, ty, pos, af, gd⟩).run P w = .ok (.value (.slice a' (n0 + m) c')) w' := by
    simp only [execOp, resolve, invoke, builtin, Sem.run_bind, Sem.run_pure, Result.andThen_ok, List.map_toArray, List.map_cons, List.map_nil, hf.eval hx, hf.eval hy, hr]
  rw [hrun, Oper.upon_value]
  exact (h a' c').run _ _ (hf.put hd _) (hl.ownTurned (o' := ⟨.slice a' (n0 + m) c', e, sz, n0 + m, xs ++ cells⟩) hO (mod_grownBy h3) h2 (h5.imp id fun h => ⟨_, h, Nat.le_refl _⟩))⟩
/-- What a slice literal's parts hold. -/
def evP (f : List (Nat × Value)) : List (Nat × Operand) → Option (List (Nat × Value))
  | [] => some []
  | (i, x) :: l => match evO f x, evP f l with
    | some v, some vs => some ((i, v) :: vs)
    | _, _ => none
theorem evP_map {a : Act} (hf : Fr n f a) : ∀ (l : List (Nat × Operand)) (vs : List (Nat × Value)), evP f l = some vs → l.map (fun p => (p.1, a.eval p.2)) = vs
  | [], vs, h => by simpa [evP] using h
  | (i, x) :: l, vs, h => by
    unfold evP at h
    cases hx : evO f x with
    | none => simp [hx] at h
    | some v =>
      cases hl : evP f l with
      | none => simp [hx, hl] at h
      | some us =>
        simp only [hx, hl, Option.some.injEq] at h
        subst h
        rw [List.map_cons, hf.eval hx, evP_map hf l us hl]
/-- A slice literal of scalars. -/
theorem SXl.lit {e m by_ : Nat} {z : Value} {parts : List (Nat × Operand)} {vals : List (Nat × Value)} {cells : List Value} [t : TSl P T e 1] [te : TEl P e 1 by_ z] (hw : wantO ops f ⟨some dn, .buildSlice T m parts.toArray, ty, pos, af, gd⟩ = some true) (hd : Nat.blt dn n = true)
    (hp : evP f parts = some vals) (hm : m ≤ 16777216) (hc : Instr.fill (fun i => some (i * 1, 1)) (Array.replicate (m * 1) z) vals = some cells.toArray) (hz : z.cells = #[z])
    (h : ∀ g, SXl P n W R ops (⟨g, cells, e⟩ :: L) O E ((dn, .slice (some ⟨g, 0, none⟩) m m) :: f) rest Q) : SXl P n W R ops L O E f (⟨some dn, .buildSlice T m parts.toArray, ty, pos, af, gd⟩ :: rest) Q :=
  SXl.stepn (V := fun g => .slice (some ⟨g, 0, none⟩) m m) (O' := fun _ => O) hw rfl hd (fun a w hf hl => by
    obtain ⟨i0, q1, q2, q3, q4, q5, q6⟩ := te.h
    refine ⟨w.heap.size, w.alloc (.cells cells.toArray e), ?_, hl.alloc cells e⟩
    have e1 := evP_map hf parts vals hp
    have e2 : (parts.toArray.map fun p => (p.1, a.eval p.2)).toList = vals := by simpa using e1
    have hm2 : ¬ 2 ^ 24 < m := by omega
    have e3 : (Array.range m).map (fun _ => z) = Array.replicate m z := by
      apply Array.ext_getElem?
      intro i
      simp [Array.getElem?_map, Array.getElem?_range, Array.getElem?_replicate]
    simp only [Nat.mul_one] at hc
    simp only [execOp, Instr.buildSlice, Sem.run_bind, run_underlying t.h.1, Result.andThen_ok, sizeOf, typeInfo, run_program, q1, Sem.run_pure, q3, Nat.mul_one]
    by_cases h0 : m = 0
    · subst h0
      have hc' : Instr.fill (fun i => some (i, 1)) #[] vals = some cells.toArray := by simpa using hc
      have e4 : Array.map (fun _ : Nat => (default : Value)) (Array.range 0) = #[] := by simp
      simp [newRow, q1, q2, q3, e1, e4, hc']
    · simp [newRow, zeroValue, typeInfo, q1, q2, hz, h0, hm2, Nat.mod_one, e1, e3, hc]) h
/-- A slice literal of one scalar; of none. -/
theorem SXl.lit1 {e by_ : Nat} {z v : Value} [t : TSl P T e 1] [te : TEl P e 1 by_ z] (hw : wantO ops f ⟨some dn, .buildSlice T 1 #[(0, x)], ty, pos, af, gd⟩ = some true) (hd : Nat.blt dn n = true)
    (hx : evO f x = some v) (hv : v.cells = #[v]) (hz : z.cells = #[z])
    (h : ∀ g, SXl P n W R ops (⟨g, [v], e⟩ :: L) O E ((dn, .slice (some ⟨g, 0, none⟩) 1 1) :: f) rest Q) : SXl P n W R ops L O E f (⟨some dn, .buildSlice T 1 #[(0, x)], ty, pos, af, gd⟩ :: rest) Q :=
  SXl.lit (parts := [(0, x)]) (vals := [(0, v)]) (cells := [v]) (z := z) hw hd (by simp [evP, hx]) (by decide) (by
    unfold Instr.fill
    simp [hv, Instr.fill, List.zipIdx]
    rw [hv]
    rfl) hz h
theorem SXl.lit0 {e by_ : Nat} {z : Value} [t : TSl P T e 1] [te : TEl P e 1 by_ z] (hw : wantO ops f ⟨some dn, .buildSlice T 0 #[], ty, pos, af, gd⟩ = some true) (hd : Nat.blt dn n = true) (hR : ∀ k, ¬ R.q k) (hz : z.cells = #[z])
    (h : ∀ g, SXl P n W R ops L (⟨.slice (some ⟨g, 0, none⟩) 0 0, e, 1, 0, []⟩ :: O) E ((dn, .slice (some ⟨g, 0, none⟩) 0 0) :: f) rest Q) : SXl P n W R ops L O E f (⟨some dn, .buildSlice T 0 #[], ty, pos, af, gd⟩ :: rest) Q :=
  SXl.lit (parts := []) (vals := []) (cells := []) (z := z) hw hd rfl (by decide) rfl hz fun g => ⟨fun a w hf hl => (h g).run a w hf (hl.toOwn (m := 0) (hR g) rfl (by unfold maxLen; omega))⟩
/-- A call that hands back new memory, told by one fact. -/
theorem SXl.calln1 {ξ : Type} {v : ξ → Value} {F1 : ξ → Res} {fn : FuncId} {ars : List Operand} {args : List Value} {aT : Array TypeId} [TFun P fn] (hw : wantO ops f ⟨some dn, .call ⟨.value (.func fn), ars.toArray, aT⟩, ty, pos, af, gd⟩ = some true) (hd : Nat.blt dn n = true) (ha : evL f ars = some args)
    (hc : ∀ w, Loc W R L O E w → Calls P fn args.toArray w (NewR ξ v F1 w))
    (h : ∀ x, SXl P n W R ops L O (F1 x :: E) ((dn, v x) :: f) rest Q) : SXl P n W R ops L O E f (⟨some dn, .call ⟨.value (.func fn), ars.toArray, aT⟩, ty, pos, af, gd⟩ :: rest) Q :=
  SXl.calln hw hd ha hc h
end
end Go.Proofs.YtkkjjhooamlljaaGreatDoor
namespace Go.Proofs.YtkkjjhooamlljaaGreatDoor
open Go.RowKit

def sameV : Value → Value → Bool
  | .int _ a, .int _ b => decide (a = b)
  | .bool a, .bool b => a == b
  | .string a, .string b => a == b
  | _, _ => false
def sameVs : List Value → List Value → Bool
  | [], [] => true
  | x :: xs, y :: ys => sameV x y && sameVs xs ys
  | _, _ => false
def kindV : Value → Nat
  | .int .i64 _ => 0
  | .bool _ => 1
  | .string _ => 2
  | _ => 3
theorem sameVs_append : ∀ {a b c d : List Value}, a.length = b.length → sameVs (a ++ c) (b ++ d) = (sameVs a b && sameVs c d)
  | [], [], _, _, _ => by simp [sameVs]
  | x :: a, y :: b, c, d, h => by
    have h' : a.length = b.length := by simpa using h
    simp [sameVs, sameVs_append h', Bool.and_assoc]
  | [], _ :: _, _, _, h => by simp at h
  | _ :: _, [], _, _, h => by simp at h
def flatFs (P : Program) (rec : TypeId → Option (List Nat)) : List Field → Nat → Option (List Nat)
  | [], _ => some []
  | f :: fs, off => if f.name = "_" ∨ f.offset ≠ off then none else match rec f.type with
    | some ks => if P.cellsOf f.type = ks.length then (flatFs P rec fs (off + ks.length)).map (ks ++ ·) else none
    | none => none
def flatT (P : Program) : Nat → TypeId → Option (List Nat)
  | 0, _ => none
  | d + 1, T => match P.underlying T with
    | some (.int .i64) => some [0]
    | some .bool => some [1]
    | some .string => some [2]
    | some (.struct fs) => if P.stoodInHeld T then none else flatFs P (flatT P d) fs.toList 0
    | _ => none
/-- A value of a type with these cells. -/
def asV (P : Program) (T : TypeId) (xs : List Value) : Value := match P.underlying T with
  | some (.struct _) => .agg xs.toArray
  | _ => xs.headD undef
theorem kinds_take {ks : List Nat} {xs : List Value} {off : Nat} {k2 : List Nat} (h : (xs.drop off).map kindV = ks ++ k2) : ((xs.drop off).take ks.length).map kindV = ks ∧ (xs.drop (off + ks.length)).map kindV = k2 := by
  constructor
  · rw [List.map_take, h, List.take_left]
  · rw [← List.drop_drop, List.map_drop, h, List.drop_left]
section
variable {P : Program}
theorem run_part_flat {d : Nat} {T : TypeId} {ks : List Nat} (h : flatT P d T = some ks) (hc : P.cellsOf T = ks.length) {xs : List Value} {off : Nat} (hk : ((xs.drop off).take ks.length).map kindV = ks) (w : World) :
    (part T xs.toArray off).run P w = .ok (asV P T ((xs.drop off).take ks.length)) w := by
  cases d with
  | zero => simp [flatT] at h
  | succ d =>
    unfold flatT at h
    cases hu : P.underlying T with
    | none => simp [hu] at h
    | some t =>
      have one : ∀ k, ks = [k] → (t matches .struct _) = false → (isAgg T).run P w = .ok false w → (part T xs.toArray off).run P w = .ok (asV P T ((xs.drop off).take ks.length)) w := by
        intro k e hm ha
        subst e
        cases hx : xs[off]? with
        | none =>
          have : xs.drop off = [] := List.drop_eq_nil_of_le (by simpa using hx)
          rw [this] at hk
          simp at hk
        | some v =>
          have e1 : (xs.drop off).take [k].length = [v] := by
            have := List.getElem?_eq_some_iff.1 hx
            obtain ⟨hl, rfl⟩ := this
            rw [List.drop_eq_getElem_cons hl]
            rfl
          rw [e1]
          cases t <;> simp_all [part, asV]
      cases t
      case int k =>
        cases k <;> simp [hu] at h
        exact one 0 h.symm rfl (by simp [isAgg, run_underlying hu])
      case bool =>
        simp [hu] at h
        exact one 1 h.symm rfl (by simp [isAgg, run_underlying hu])
      case string =>
        simp [hu] at h
        exact one 2 h.symm rfl (by simp [isAgg, run_underlying hu])
      case struct fs =>
        obtain ⟨i, hi⟩ := info_of_underlying hu
        simp only [part, isAgg, Sem.run_bind, run_underlying hu, Result.andThen_ok, Sem.run_pure, run_sizeOf w hi, if_true, hc, asV, hu]
        congr 2
        simp [List.extract_toArray, List.extract_eq_take_drop]
      all_goals (simp [hu] at h; done)
theorem eq_flat : ∀ (d : Nat),
    (∀ (T : TypeId) (ks : List Nat), flatT P d T = some ks → ∀ (xs ys : List Value), xs.map kindV = ks → ys.map kindV = ks → ∀ w : World, (Op.equalIn d T (asV P T xs) (asV P T ys)).run P w = .ok (sameVs xs ys) w) := by
  intro d
  induction d with
  | zero => intro T ks h; simp [flatT] at h
  | succ d ih =>
    have fields : ∀ (fs : List Field) (off : Nat) (ks : List Nat), flatFs P (flatT P d) fs off = some ks → ∀ (xs ys : List Value), (xs.drop off).map kindV = ks → (ys.drop off).map kindV = ks → ∀ w : World, (Op.eqFields d xs.toArray ys.toArray fs).run P w = .ok (sameVs (xs.drop off) (ys.drop off)) w := by
      intro fs
      induction fs with
      | nil =>
        intro off ks h xs ys hx hy w
        simp only [flatFs, Option.some.injEq] at h
        subst h
        rw [List.map_eq_nil_iff.1 hx, List.map_eq_nil_iff.1 hy]
        simp [Op.eqFields, sameVs]
      | cons f fs ihf =>
        intro off ks h xs ys hx hy w
        unfold flatFs at h
        by_cases hn : f.name = "_" ∨ f.offset ≠ off
        · rw [if_pos hn] at h; cases h
        · rw [if_neg hn] at h
          have hn1 : f.name ≠ "_" := fun e => hn (.inl e)
          have hn2 : f.offset = off := Decidable.not_not.1 fun e => hn (.inr e)
          cases hf : flatT P d f.type with
          | none => simp [hf] at h
          | some k1 =>
            simp only [hf] at h
            by_cases hc : P.cellsOf f.type = k1.length
            · rw [if_pos hc] at h
              cases hr : flatFs P (flatT P d) fs (off + k1.length) with
              | none => simp [hr] at h
              | some k2 =>
                simp only [hr, Option.map_some, Option.some.injEq] at h
                subst h
                obtain ⟨x1, x2⟩ := kinds_take hx
                obtain ⟨y1, y2⟩ := kinds_take hy
                have ex : xs.drop off = (xs.drop off).take k1.length ++ xs.drop (off + k1.length) := by rw [← List.drop_drop, List.take_append_drop]
                have ey : ys.drop off = (ys.drop off).take k1.length ++ ys.drop (off + k1.length) := by rw [← List.drop_drop, List.take_append_drop]
                have hl : ((xs.drop off).take k1.length).length = ((ys.drop off).take k1.length).length := by
                  rw [← List.length_map (f := kindV), x1, ← @List.length_map _ _ ((ys.drop off).take k1.length) kindV, y1]
                rw [ex, ey, sameVs_append hl]
                simp only [Op.eqFields, hn1, ne_eq, not_false_eq_true, if_true, Sem.run_bind, hn2, run_part_flat hf hc x1 w, run_part_flat hf hc y1 w, Result.andThen_ok, ih f.type k1 hf _ _ x1 y1 w]
                cases sameVs ((xs.drop off).take k1.length) ((ys.drop off).take k1.length)
                · simp
                · simpa using ihf (off + k1.length) k2 hr xs ys x2 y2 w
            · rw [if_neg hc] at h; cases h
    intro T ks h xs ys hx hy w
    unfold flatT at h
    cases hu : P.underlying T with
    | none => simp [hu] at h
    | some t =>
      cases t
      case int k =>
        cases k <;> simp [hu] at h
        subst h
        match xs, ys, hx, hy with
        | [.int .i64 a], [.int .i64 b], _, _ => simp [asV, hu, Op.equalIn, run_underlying hu, sameVs, sameV]; rfl
      case bool =>
        simp [hu] at h
        subst h
        match xs, ys, hx, hy with
        | [.bool a], [.bool b], _, _ => simp [asV, hu, Op.equalIn, run_underlying hu, sameVs, sameV]
      case string =>
        simp [hu] at h
        subst h
        match xs, ys, hx, hy with
        | [.string a], [.string b], _, _ => simp [asV, hu, Op.equalIn, run_underlying hu, sameVs, sameV]
      case struct fs =>
        simp only [hu] at h
        by_cases hs : P.stoodInHeld T = true
        · rw [if_pos hs] at h; cases h
        · rw [if_neg hs] at h
          have hfs : P.fieldsOf T = fs := by simp [Program.fieldsOf, hu]
          simp only [asV, hu]
          rw [run_equalIn_struct w d T _ _ (by rw [hfs]; exact hu) (by simpa using hs), hfs]
          exact fields fs.toList 0 ks h xs ys (by simpa using hx) (by simpa using hy) w
      all_goals (simp [hu] at h; done)
end
/-- A flat struct's type, with its cells' kinds. -/
class TEq (P : Program) (T : TypeId) (ks : outParam (List Nat)) : Prop where
  h : flatT P 10000 T = some ks
  g : P.eqGuardType P.depth T = false
  s : ∃ fs, P.underlying T = some (.struct fs)
section
variable {P : Program} {n : Nat} {W : World} {R : Rg W} {L : List Blk} {O : List Own} {E : List Res} {f : List (Nat × Value)}
variable {d : Option Nat} {x y : Operand} {ty T T' : TypeId} {pos : String} {af : Array Edge} {gd : Option (Nat × Bool)}
theorem run_binS {ks : List Nat} [t : TEq P T ks] {xs ys : List Value} (hx : xs.map kindV = ks) (hy : ys.map kindV = ks) (w : World) : (Op.equalIn 10000 T (.agg xs.toArray) (.agg ys.toArray)).run P w = .ok (sameVs xs ys) w := by
  obtain ⟨fs, hs⟩ := t.s
  have e : ∀ l : List Value, asV P T l = .agg l.toArray := fun l => by unfold asV; rw [hs]
  have := eq_flat (P := P) 10000 T ks t.h xs ys hx hy w
  rw [e, e] at this
  exact this
theorem run_binop {op : BinOp} {u v : Value} {a : Act} (hf : Fr n f a) (hx : evO f x = some u) (hy : evO f y = some v) (w : World) : (execOp a.eval ⟨d, .binOp op T x y T', ty, pos, af, gd⟩).run P w = (((eqGuard op T x y u v).run P w).andThen fun _ w' => (binOp op T u v).run P w').andThen fun z w' => .ok (.value z) w' := by
  simp only [execOp, hf.eval hx, hf.eval hy, Sem.run_bind, Sem.run_pure]
theorem OpW.eqlS {ks : List Nat} [t : TEq P T ks] {xs ys : List Value} (hx : evO f x = some (.agg xs.toArray)) (hy : evO f y = some (.agg ys.toArray)) (kx : xs.map kindV = ks) (ky : ys.map kindV = ks) : OpW P n W R L O E f ⟨d, .binOp .eql T x y T', ty, pos, af, gd⟩ (.bool (sameVs xs ys)) :=
  OpW.of (fun a w hf _ => by rw [run_binop hf hx hy w, run_eqGuard_agg w _ T x y _ _ t.g, Result.andThen_ok, run_eql_struct, run_binS kx ky]; rfl)
theorem OpW.neqS {ks : List Nat} [t : TEq P T ks] {xs ys : List Value} (hx : evO f x = some (.agg xs.toArray)) (hy : evO f y = some (.agg ys.toArray)) (kx : xs.map kindV = ks) (ky : ys.map kindV = ks) : OpW P n W R L O E f ⟨d, .binOp .neq T x y T', ty, pos, af, gd⟩ (.bool (!sameVs xs ys)) :=
  OpW.of (fun a w hf _ => by rw [run_binop hf hx hy w, run_eqGuard_agg w _ T x y _ _ t.g, Result.andThen_ok, run_neq_struct, run_binS kx ky]; rfl)
end
section
variable {P : Program} {n : Nat} {W : World} {R : Rg W} {L : List Blk} {O : List Own} {E : List Res} {f : List (Nat × Value)} {Q : Exit → Act → World → Prop} {ops : Array Oper} {rest : List Oper} {k : Nat}
variable {d : Option Nat} {c x y : Operand} {ty T T' : TypeId} {j fn : Nat} {ars : Array Operand} {aT : Array TypeId} {parts : Array (Nat × Operand)} {pos : String} {af : Array Edge} {gd : Option (Nat × Bool)}
/-! Which operation stands next. -/
theorem qaF (h : SXl P n W R ops L O E f (⟨d, .load T x, ty, pos, af, gd⟩ :: rest) Q) : SXl P n W R ops L O E f (⟨d, .load T x, ty, pos, af, gd⟩ :: rest) Q := h
theorem r_load (h : SXr P n W R ops L O E k f (⟨d, .load T x, ty, pos, af, gd⟩ :: rest) Q) : SXr P n W R ops L O E k f (⟨d, .load T x, ty, pos, af, gd⟩ :: rest) Q := h
theorem qaD (h : SXl P n W R ops L O E f (⟨d, .store T x y, ty, pos, af, gd⟩ :: rest) Q) : SXl P n W R ops L O E f (⟨d, .store T x y, ty, pos, af, gd⟩ :: rest) Q := h
theorem qam (h : SXl P n W R ops L O E f (⟨d, .fieldAddr T x j, ty, pos, af, gd⟩ :: rest) Q) : SXl P n W R ops L O E f (⟨d, .fieldAddr T x j, ty, pos, af, gd⟩ :: rest) Q := h
theorem r_fieldAddr (h : SXr P n W R ops L O E k f (⟨d, .fieldAddr T x j, ty, pos, af, gd⟩ :: rest) Q) : SXr P n W R ops L O E k f (⟨d, .fieldAddr T x j, ty, pos, af, gd⟩ :: rest) Q := h
theorem qau (h : SXl P n W R ops L O E f (⟨d, .move x, ty, pos, af, gd⟩ :: rest) Q) : SXl P n W R ops L O E f (⟨d, .move x, ty, pos, af, gd⟩ :: rest) Q := h
theorem r_move (h : SXr P n W R ops L O E k f (⟨d, .move x, ty, pos, af, gd⟩ :: rest) Q) : SXr P n W R ops L O E k f (⟨d, .move x, ty, pos, af, gd⟩ :: rest) Q := h
theorem qai (h : SXl P n W R ops L O E f (⟨d, .assign x, ty, pos, af, gd⟩ :: rest) Q) : SXl P n W R ops L O E f (⟨d, .assign x, ty, pos, af, gd⟩ :: rest) Q := h
theorem r_assign (h : SXr P n W R ops L O E k f (⟨d, .assign x, ty, pos, af, gd⟩ :: rest) Q) : SXr P n W R ops L O E k f (⟨d, .assign x, ty, pos, af, gd⟩ :: rest) Q := h
theorem qaR (h : SXl P n W R ops L O E f (⟨d, .pick c x y, ty, pos, af, gd⟩ :: rest) Q) : SXl P n W R ops L O E f (⟨d, .pick c x y, ty, pos, af, gd⟩ :: rest) Q := h
theorem r_pick (h : SXr P n W R ops L O E k f (⟨d, .pick c x y, ty, pos, af, gd⟩ :: rest) Q) : SXr P n W R ops L O E k f (⟨d, .pick c x y, ty, pos, af, gd⟩ :: rest) Q := h
theorem qaP (h : SXl P n W R ops L O E f (⟨d, .extract x j, ty, pos, af, gd⟩ :: rest) Q) : SXl P n W R ops L O E f (⟨d, .extract x j, ty, pos, af, gd⟩ :: rest) Q := h
theorem l_indexAddr (h : SXl P n W R ops L O E f (⟨d, .indexAddr T x y, ty, pos, af, gd⟩ :: rest) Q) : SXl P n W R ops L O E f (⟨d, .indexAddr T x y, ty, pos, af, gd⟩ :: rest) Q := h
theorem r_indexAddr (h : SXr P n W R ops L O E k f (⟨d, .indexAddr T x y, ty, pos, af, gd⟩ :: rest) Q) : SXr P n W R ops L O E k f (⟨d, .indexAddr T x y, ty, pos, af, gd⟩ :: rest) Q := h
theorem qaT (h : SXl P n W R ops L O E f (⟨d, .alloc T, ty, pos, af, gd⟩ :: rest) Q) : SXl P n W R ops L O E f (⟨d, .alloc T, ty, pos, af, gd⟩ :: rest) Q := h
theorem l_box (h : SXl P n W R ops L O E f (⟨d, .box T x, ty, pos, af, gd⟩ :: rest) Q) : SXl P n W R ops L O E f (⟨d, .box T x, ty, pos, af, gd⟩ :: rest) Q := h
theorem qaG (h : SXl P n W R ops L O E f (⟨d, .buildSlice T j parts, ty, pos, af, gd⟩ :: rest) Q) : SXl P n W R ops L O E f (⟨d, .buildSlice T j parts, ty, pos, af, gd⟩ :: rest) Q := h
theorem qaA (h : SXl P n W R ops L O E f (⟨d, .call ⟨.value (.func fn), ars, aT⟩, ty, pos, af, gd⟩ :: rest) Q) : SXl P n W R ops L O E f (⟨d, .call ⟨.value (.func fn), ars, aT⟩, ty, pos, af, gd⟩ :: rest) Q := h
theorem r_call (h : SXr P n W R ops L O E k f (⟨d, .call ⟨.value (.func fn), ars, aT⟩, ty, pos, af, gd⟩ :: rest) Q) : SXr P n W R ops L O E k f (⟨d, .call ⟨.value (.func fn), ars, aT⟩, ty, pos, af, gd⟩ :: rest) Q := h
theorem l_len (h : SXl P n W R ops L O E f (⟨d, .call ⟨.builtin .len, ars, aT⟩, ty, pos, af, gd⟩ :: rest) Q) : SXl P n W R ops L O E f (⟨d, .call ⟨.builtin .len, ars, aT⟩, ty, pos, af, gd⟩ :: rest) Q := h
theorem l_append (h : SXl P n W R ops L O E f (⟨d, .call ⟨.builtin .append, ars, aT⟩, ty, pos, af, gd⟩ :: rest) Q) : SXl P n W R ops L O E f (⟨d, .call ⟨.builtin .append, ars, aT⟩, ty, pos, af, gd⟩ :: rest) Q := h
theorem l_not (h : SXl P n W R ops L O E f (⟨d, .unOp .not T x, ty, pos, af, gd⟩ :: rest) Q) : SXl P n W R ops L O E f (⟨d, .unOp .not T x, ty, pos, af, gd⟩ :: rest) Q := h
theorem r_not (h : SXr P n W R ops L O E k f (⟨d, .unOp .not T x, ty, pos, af, gd⟩ :: rest) Q) : SXr P n W R ops L O E k f (⟨d, .unOp .not T x, ty, pos, af, gd⟩ :: rest) Q := h
theorem l_neg (h : SXl P n W R ops L O E f (⟨d, .unOp .neg T x, ty, pos, af, gd⟩ :: rest) Q) : SXl P n W R ops L O E f (⟨d, .unOp .neg T x, ty, pos, af, gd⟩ :: rest) Q := h
theorem l_add (h : SXl P n W R ops L O E f (⟨d, .binOp .add T x y T', ty, pos, af, gd⟩ :: rest) Q) : SXl P n W R ops L O E f (⟨d, .binOp .add T x y T', ty, pos, af, gd⟩ :: rest) Q := h
theorem r_add (h : SXr P n W R ops L O E k f (⟨d, .binOp .add T x y T', ty, pos, af, gd⟩ :: rest) Q) : SXr P n W R ops L O E k f (⟨d, .binOp .add T x y T', ty, pos, af, gd⟩ :: rest) Q := h
theorem l_sub (h : SXl P n W R ops L O E f (⟨d, .binOp .sub T x y T', ty, pos, af, gd⟩ :: rest) Q) : SXl P n W R ops L O E f (⟨d, .binOp .sub T x y T', ty, pos, af, gd⟩ :: rest) Q := h
theorem l_mul (h : SXl P n W R ops L O E f (⟨d, .binOp .mul T x y T', ty, pos, af, gd⟩ :: rest) Q) : SXl P n W R ops L O E f (⟨d, .binOp .mul T x y T', ty, pos, af, gd⟩ :: rest) Q := h
theorem l_lss (h : SXl P n W R ops L O E f (⟨d, .binOp .lss T x y T', ty, pos, af, gd⟩ :: rest) Q) : SXl P n W R ops L O E f (⟨d, .binOp .lss T x y T', ty, pos, af, gd⟩ :: rest) Q := h
theorem l_leq (h : SXl P n W R ops L O E f (⟨d, .binOp .leq T x y T', ty, pos, af, gd⟩ :: rest) Q) : SXl P n W R ops L O E f (⟨d, .binOp .leq T x y T', ty, pos, af, gd⟩ :: rest) Q := h
theorem l_gtr (h : SXl P n W R ops L O E f (⟨d, .binOp .gtr T x y T', ty, pos, af, gd⟩ :: rest) Q) : SXl P n W R ops L O E f (⟨d, .binOp .gtr T x y T', ty, pos, af, gd⟩ :: rest) Q := h
theorem l_geq (h : SXl P n W R ops L O E f (⟨d, .binOp .geq T x y T', ty, pos, af, gd⟩ :: rest) Q) : SXl P n W R ops L O E f (⟨d, .binOp .geq T x y T', ty, pos, af, gd⟩ :: rest) Q := h
theorem qaK (h : SXl P n W R ops L O E f (⟨d, .binOp .eql T x y T', ty, pos, af, gd⟩ :: rest) Q) : SXl P n W R ops L O E f (⟨d, .binOp .eql T x y T', ty, pos, af, gd⟩ :: rest) Q := h
theorem r_eql (h : SXr P n W R ops L O E k f (⟨d, .binOp .eql T x y T', ty, pos, af, gd⟩ :: rest) Q) : SXr P n W R ops L O E k f (⟨d, .binOp .eql T x y T', ty, pos, af, gd⟩ :: rest) Q := h
theorem l_neq (h : SXl P n W R ops L O E f (⟨d, .binOp .neq T x y T', ty, pos, af, gd⟩ :: rest) Q) : SXl P n W R ops L O E f (⟨d, .binOp .neq T x y T', ty, pos, af, gd⟩ :: rest) Q := h
theorem r_neq (h : SXr P n W R ops L O E k f (⟨d, .binOp .neq T x y T', ty, pos, af, gd⟩ :: rest) Q) : SXr P n W R ops L O E k f (⟨d, .binOp .neq T x y T', ty, pos, af, gd⟩ :: rest) Q := h
end

/-! ### Drawn regions with calls that make memory -/
/-- As SXr; x: what such calls gave, by their number; U: what is told of it. -/
structure SXu (P : Program) (n : Nat) (W : World) (R : Rg W) (ops : Array Oper) (L : List Blk) (O : List Own) (E : List Res) (k : Nat) (U : List (Nat × ((Nat → Value) → World → Value → Prop))) (f : (Nat → Value) → List (Nat × Value)) (l : List Oper) (Q : Exit → Act → World → Prop) : Prop where
  run : ∀ F : (Nat → Value) → Act, (∀ x, Fr n (f x) (F x)) → RS P ops (Mod fun _ => False) (Loc W R L O E) Q k l F U
section
variable {P : Program} {n : Nat} {W : World} {R : Rg W} {L : List Blk} {O : List Own} {E : List Res} {U : List (Nat × ((Nat → Value) → World → Value → Prop))} {f : (Nat → Value) → List (Nat × Value)} {f0 : List (Nat × Value)} {Q : Exit → Act → World → Prop} {ops : Array Oper} {rest : List Oper} {k : Nat}
theorem SX.drawnU {id : Nat} {l : List Oper} (hm : P.follows .mixedOrders = true) (hc : regOk l.toArray = true) (h : SXu P n W R l.toArray L O E 0 [] (fun _ => f0) l Q) : SX P n W R L O E f0 (.region id l.toArray true) Q := ⟨fun a w hf hl =>
  wp_region_rs (Loc W R L O E) (Mod fun _ => False) hm hc (hl.keep ((Mod.refl _ w).drew)) (h.run _ fun _ => hf)⟩
theorem SXu.nil (h : ∀ x, SQ n W R L O E (f x) .normal Q) : SXu P n W R ops L O E k U f [] Q := ⟨fun F hF => RS.done fun x w hS _ => (h x).run (F x) w (hF x) hS⟩
theorem SXu.v {o : Oper} {v : Value} {d : Nat} (hr : ∀ x, OpW P n W R L O E (f x) o v) (hdst : o.dst = some d) (hw : ∀ x, wantO ops (f x) o = some true) (hd : Nat.blt d n = true) (h : SXu P n W R ops L O E (k + 1) U (fun x => (d, v) :: f x) rest Q) : SXu P n W R ops L O E k U f (o :: rest) Q := ⟨fun F hF =>
  RS.val [] (fun _ => v) rfl (fun _ _ _ => rfl) (fun x => wanted_of (hF x) (hw x)) (fun x w hS _ => wp_never ((hr x).run _ w (hF x) hS) fun _ _ ⟨h1, h2⟩ => ⟨h1, hS.keep h2, h2⟩) (by rw [hdst]; exact h.run _ fun x => (hF x).put hd v)⟩
theorem SXu.no {o : Oper} {d : Nat} (hw : ∀ x, wantO ops (f x) o = some false) (hdst : o.dst = some d) (hd : Nat.blt d n = true) (h : SXu P n W R ops L O E (k + 1) U (fun x => (d, undef) :: f x) rest Q) : SXu P n W R ops L O E k U f (o :: rest) Q := ⟨fun F hF =>
  RS.skip (fun x => wanted_of (hF x) (hw x)) (by rw [hdst]; exact h.run _ fun x => (hF x).put hd undef)⟩
variable {d : Nat} {fn : FuncId} {ars : List Operand} {aT : Array TypeId} {ty : TypeId} {pos : String} {af : Array Edge} {gd : Option (Nat × Bool)}
/-- A call that makes memory. -/
theorem SXu.new {args : List Value} [TFun P fn] (V : World → Value → Prop) (hV : ∀ w w' v, V w v → Mod (fun _ => False) w w' → V w' v) (hw : ∀ x, wantO ops (f x) ⟨some d, .call ⟨.value (.func fn), ars.toArray, aT⟩, ty, pos, af, gd⟩ = some true) (hd : Nat.blt d n = true) (ha : ∀ x, evL (f x) ars = some args)
    (hc : ∀ w, Loc W R L O E w → Calls P fn args.toArray w fun e w' => ∃ v, e = .returned v ∧ V w' v ∧ Mod (fun _ => False) w w')
    (h : SXu P n W R ops L O E (k + 1) ((k, fun _ => V) :: U) (fun x => (d, x k) :: f x) rest Q) : SXu P n W R ops L O E k U f (⟨some d, .call ⟨.value (.func fn), ars.toArray, aT⟩, ty, pos, af, gd⟩ :: rest) Q := ⟨fun F hF =>
  RS.new [] V id (fun _ _ _ => rfl) rfl hV (fun x => wanted_of (hF x) (hw x)) (fun x w hS _ => by
    unfold Oper.wp
    rw [run_callop (hF x) (ha x) w _ _, Oper.upon_enter]
    refine (hc w hS).mono ?_
    rintro e w' ⟨v, rfl, h1, h2⟩
    exact ⟨v, rfl, h1, hS.keep h2, h2⟩) (h.run _ fun x => (hF x).put hd _)⟩
/-- A call that is handed such memory. -/
theorem SXu.use {v : Value} {args : (Nat → Value) → List Value} [TFun P fn] (us : List Nat) (hus : (us.all fun i => (reach ops ops.size k).contains i) = true) (hw : ∀ x, wantO ops (f x) ⟨some d, .call ⟨.value (.func fn), ars.toArray, aT⟩, ty, pos, af, gd⟩ = some true) (hd : Nat.blt d n = true) (ha : ∀ x, evL (f x) ars = some (args x))
    (hc : ∀ x w, Loc W R L O E w → (∀ u ∈ U, u.1 ∈ us → u.2 x w (x u.1)) → Calls P fn (args x).toArray w fun e w' => e = .returned v ∧ Mod (fun _ => False) w w')
    (h : SXu P n W R ops L O E (k + 1) U (fun x => (d, v) :: f x) rest Q) : SXu P n W R ops L O E k U f (⟨some d, .call ⟨.value (.func fn), ars.toArray, aT⟩, ty, pos, af, gd⟩ :: rest) Q := ⟨fun F hF =>
  RS.val us (fun _ => v) hus (fun _ _ _ => rfl) (fun x => wanted_of (hF x) (hw x)) (fun x w hS hK => by
    unfold Oper.wp
    rw [run_callop (hF x) (ha x) w _ _, Oper.upon_enter]
    refine (hc x w hS hK).mono ?_
    rintro e w' ⟨rfl, h2⟩
    exact ⟨rfl, hS.keep h2, h2⟩) (h.run _ fun x => (hF x).put hd _)⟩
end
end Go.Proofs.YtkkjjhooamlljaaGreatDoor
namespace Go.Proofs.YtkkjjhooamlljaaGreatDoor
open Go.RowKit
theorem qaN {P : Program} {n : Nat} {W : World} {R : Rg W} {L : List Blk} {O : List Own} {E : List Res} {f : List (Nat × Value)} {fn : Func} {R' : Ending → World → Prop} {t : Tmp} {T T' : TypeId} {m g : Nat} {cells : List Value} [tr : TRow P T m] (i : Nat) (hr : fn.results = #[.cell t T]) (ht : look f t = some (.pointer (some ⟨g, 0, none⟩))) (hi : L[i]? = some ⟨g, cells, T'⟩) (hm : cells.length = m) (h : ∀ w, Loc W R L O E w → R' (.returned (.agg cells.toArray)) w) : SQ n W R L O E f .ret (bodyPost P fn R') :=
  ⟨fun a w hf hl => ⟨hf.defers, .agg cells.toArray, by
    obtain ⟨⟨d, h1, h2⟩, h3⟩ := tr.h
    have hb := (hl.blk _ (List.mem_iff_getElem?.2 ⟨i, hi⟩)).2
    obtain ⟨q1, q2⟩ := rowOf_range (w := w) (b := g) (o := 0) (n := m) (by simp [hasRow, hb, hm])
    have e2 : rowOf w g 0 m = cells.toArray := by
      unfold rowOf; rw [hb]; simp [← hm]
    rw [e2] at q1
    have e := run_loadVar_mid (P := P) w g 0 T _ d q1 h1 h2 (by rw [h3]; simp [hm])
    have hx : a.tmps[t]? = some (.pointer (some ⟨g, 0, none⟩)) := hf.at_ t _ ht
    simp [results, hr, hx, asAddr, e], h w hl⟩⟩
/-- A field of one cell, of a struct that is no variable. -/
class TFv (P : Program) (T j : Nat) (off : outParam Nat) : Prop where
  h : ∃ fs f d, P.underlying T = some (.struct fs) ∧ fs[j]? = some f ∧ f.offset = off ∧ P.underlying f.type = some d ∧ d.isRow = false
theorem OpW.field {P : Program} {n : Nat} {W : World} {R : Rg W} {L : List Blk} {O : List Own} {E : List Res} {f : List (Nat × Value)} {d : Option Tmp} {T j : Nat} {x : Operand} {ty : TypeId} {pos : String} {af : Array Edge} {gd : Option (Nat × Bool)} {off : Nat} {cs : Array Value} {v : Value} [t : TFv P T j off] (hx : evO f x = some (.agg cs)) (hv : cs[off]? = some v) : OpW P n W R L O E f ⟨d, .field T x j, ty, pos, af, gd⟩ v :=
  OpW.of (fun a w hf _ => by
    obtain ⟨fs, fl, d, h1, h2, h3, h4, h5⟩ := t.h
    have h6 : (isAgg fl.type).run P w = .ok false w := by
      cases d <;> simp_all [isAgg, run_underlying h4, TypeDesc.isRow]
    subst h3
    simp [execOp, hf.eval hx, Instr.field, run_underlying h1, h2, part, asAgg, h6, hv])

section
variable {P : Program} {n : Nat} {W : World} {R : Rg W} {L : List Blk} {O : List Own} {E : List Res} {f : List (Nat × Value)} {Q : Exit → Act → World → Prop} {ops : Array Oper} {rest : List Oper} {k : Nat}
variable {d : Option Nat} {c x y : Operand} {ty T T' : TypeId} {j fn : Nat} {ars : Array Operand} {aT : Array TypeId} {parts : Array (Nat × Operand)} {pos : String} {af : Array Edge} {gd : Option (Nat × Bool)}
/-! Which operation stands next. -/
end

section
variable {P : Program} {n : Nat} {W : World} {R : Rg W} {L : List Blk} {O : List Own} {E : List Res} {f : List (Nat × Value)} {Q : Exit → Act → World → Prop} {ops : Array Oper} {rest : List Oper}
variable {d : Option Nat} {dn : Nat} {x y : Operand} {ty T T' : TypeId} {pos : String} {af : Array Edge} {gd : Option (Nat × Bool)}
/-- A slice literal of structs. -/
theorem SXl.litRow {e m sz by_ : Nat} {z : Value} {parts : List (Nat × Operand)} {vals : List (Nat × Value)} {cells : List Value} [t : TSl P T e sz] [te : TEl P e sz by_ z] (hw : wantO ops f ⟨some dn, .buildSlice T m parts.toArray, ty, pos, af, gd⟩ = some true) (hd : Nat.blt dn n = true)
    (hp : evP f parts = some vals) (hm : m * sz ≤ 16777216) (hms : m * sz ≠ 0) (hc : Instr.fill (fun i => some (i * sz, sz)) ((Array.range (m * sz)).map (fun i => z.cells[i % z.cells.size]!)) vals = some cells.toArray)
    (h : ∀ g, SXl P n W R ops (⟨g, cells, e⟩ :: L) O E ((dn, .slice (some ⟨g, 0, none⟩) m m) :: f) rest Q) : SXl P n W R ops L O E f (⟨some dn, .buildSlice T m parts.toArray, ty, pos, af, gd⟩ :: rest) Q :=
  SXl.stepn (V := fun g => .slice (some ⟨g, 0, none⟩) m m) (O' := fun _ => O) hw rfl hd (fun a w hf hl => by
    obtain ⟨i0, q1, q2, q3, q4, q5, q6⟩ := te.h
    refine ⟨w.heap.size, w.alloc (.cells cells.toArray e), ?_, hl.alloc cells e⟩
    have e1 := evP_map hf parts vals hp
    have e2 : (parts.toArray.map fun p => (p.1, a.eval p.2)).toList = vals := by simpa using e1
    have hm2 : ¬ 2 ^ 24 < m * sz := by omega
    simp only [execOp, Instr.buildSlice, Sem.run_bind, run_underlying t.h.1, Result.andThen_ok, sizeOf, typeInfo, run_program, q1, Sem.run_pure, q3]
    simp [newRow, zeroValue, typeInfo, q1, q2, hms, hm2, e1, hc]
    done) h
end

end Go.Proofs.YtkkjjhooamlljaaGreatDoor
namespace Go.Proofs.YtkkjjhooamlljaaGreatDoor
open Go.RowKit

class TStr (P : Program) (T : TypeId) : Prop where
  h : P.underlying T = some .string
class TPtr (P : Program) (T : TypeId) : Prop where
  h : ∃ e, P.underlying T = some (.pointer e)
theorem bytes_dec (a b : List UInt8) : (a == b) = decide (a = b) := by
  by_cases h : a = b
  · simp [h]
  · simp [h]
section
variable {P : Program} {n : Nat} {W : World} {R : Rg W} {L : List Blk} {O : List Own} {E : List Res} {f : List (Nat × Value)} {Q : Exit → Act → World → Prop} {ops : Array Oper} {rest : List Oper} {k : Nat}
variable {d : Option Nat} {c x y z : Operand} {ty T T' : TypeId} {j fn : Nat} {ars : Array Operand} {aT : Array TypeId} {pos : String} {af : Array Edge} {gd : Option (Nat × Bool)}
variable {a b : List UInt8}

theorem OpW.eqlStr (hx : evO f x = some (.string ⟨a.toArray⟩)) (hy : evO f y = some (.string ⟨b.toArray⟩)) : OpW P n W R L O E f ⟨d, .binOp .eql T x y T', ty, pos, af, gd⟩ (.bool (decide (a = b))) :=
  OpW.bin hx hy (eqGuard_at_string ..) (fun w => by rw [binOp_string_eql, ByteArray.toList_mk, ByteArray.toList_mk, bytes_dec]; rfl)
theorem OpW.neqStr (hx : evO f x = some (.string ⟨a.toArray⟩)) (hy : evO f y = some (.string ⟨b.toArray⟩)) : OpW P n W R L O E f ⟨d, .binOp .neq T x y T', ty, pos, af, gd⟩ (.bool (!decide (a = b))) :=
  OpW.bin hx hy (eqGuard_at_string ..) (fun w => by rw [binOp_string_neq, ByteArray.toList_mk, ByteArray.toList_mk, bytes_dec]; rfl)
theorem qaB (hx : evO f x = some (.string ⟨a.toArray⟩)) (hy : evO f y = some (.string ⟨b.toArray⟩)) (h : a = b) : OpW P n W R L O E f ⟨d, .binOp .eql T x y T', ty, pos, af, gd⟩ (.bool true) := by
  have := OpW.eqlStr (P := P) (n := n) (W := W) (R := R) (L := L) (O := O) (E := E) (d := d) (T := T) (T' := T') (ty := ty) (pos := pos) (af := af) (gd := gd) hx hy
  rwa [decide_eq_true h] at this
theorem qay (hx : evO f x = some (.string ⟨a.toArray⟩)) (hy : evO f y = some (.string ⟨b.toArray⟩)) (h : ¬ a = b) : OpW P n W R L O E f ⟨d, .binOp .eql T x y T', ty, pos, af, gd⟩ (.bool false) := by
  have := OpW.eqlStr (P := P) (n := n) (W := W) (R := R) (L := L) (O := O) (E := E) (d := d) (T := T) (T' := T') (ty := ty) (pos := pos) (af := af) (gd := gd) hx hy
  rwa [decide_eq_false h] at this
theorem OpW.neqStrT (hx : evO f x = some (.string ⟨a.toArray⟩)) (hy : evO f y = some (.string ⟨b.toArray⟩)) (h : ¬ a = b) : OpW P n W R L O E f ⟨d, .binOp .neq T x y T', ty, pos, af, gd⟩ (.bool true) := by
  have := OpW.neqStr (P := P) (n := n) (W := W) (R := R) (L := L) (O := O) (E := E) (d := d) (T := T) (T' := T') (ty := ty) (pos := pos) (af := af) (gd := gd) hx hy
  rwa [decide_eq_false h] at this
theorem OpW.neqStrF (hx : evO f x = some (.string ⟨a.toArray⟩)) (hy : evO f y = some (.string ⟨b.toArray⟩)) (h : a = b) : OpW P n W R L O E f ⟨d, .binOp .neq T x y T', ty, pos, af, gd⟩ (.bool false) := by
  have := OpW.neqStr (P := P) (n := n) (W := W) (R := R) (L := L) (O := O) (E := E) (d := d) (T := T) (T' := T') (ty := ty) (pos := pos) (af := af) (gd := gd) hx hy
  rwa [decide_eq_true h] at this
theorem OpW.cat (hx : evO f x = some (.string ⟨a.toArray⟩)) (hy : evO f y = some (.string ⟨b.toArray⟩)) (hn : a.length + b.length ≤ 9223372036854775807) : OpW P n W R L O E f ⟨d, .binOp .add T x y T', ty, pos, af, gd⟩ (.string ⟨(a ++ b).toArray⟩) :=
  OpW.bin hx hy rfl (fun w => by
    have h1 : ¬ (((⟨a.toArray⟩ : ByteArray).size + (⟨b.toArray⟩ : ByteArray).size : Nat) : Int) > IntKind.i64.max := by
      have e1 : (⟨a.toArray⟩ : ByteArray).size = a.length := List.size_toArray
      have e2 : (⟨b.toArray⟩ : ByteArray).size = b.length := List.size_toArray
      rw [e1, e2]
      simp [IntKind.max, IntKind.bits, IntKind.signed]
      omega
    have h2 : (⟨a.toArray⟩ : ByteArray) ++ ⟨b.toArray⟩ = ⟨(a ++ b).toArray⟩ := by
      apply ByteArray.ext; simp [ByteArray.data_append]
    rw [binOp_string_add]
    unfold Op.stringOp
    simp only [if_neg h1, h2]
    rfl)
theorem qaS [t : TStr P T] (hx : evO f x = some (.string ⟨a.toArray⟩)) : OpW P n W R L O E f ⟨d, .call ⟨.builtin .len, #[x], #[T]⟩, ty, pos, af, gd⟩ (.int .i64 (a.length : Int)) :=
  OpW.of (fun q w hf _ => by
    have e : (⟨a.toArray⟩ : ByteArray).size = a.length := List.size_toArray
    simp [execOp, resolve, invoke, builtin, hf.eval hx, run_len_string _ _ _ _ t.h, goInt, e])
theorem OpW.indexStr [t : TStr P T] {i : Nat} {u : UInt8} (hx : evO f x = some (.string ⟨a.toArray⟩)) (hy : evO f y = some (.int .i64 (i : Int))) (hu : a[i]? = some u) : OpW P n W R L O E f ⟨d, .index T x y, ty, pos, af, gd⟩ (.int .u8 (u.toNat : Int)) :=
  OpW.of (fun q w hf _ => by
    have e : (⟨a.toArray⟩ : ByteArray).size = a.length := List.size_toArray
    obtain ⟨hlt, hu'⟩ := List.getElem?_eq_some_iff.1 hu
    have hc : (0 : Int) ≤ (i : Int) ∧ (i : Int) < ((⟨a.toArray⟩ : ByteArray).size : Int) := by rw [e]; omega
    have := run_index_string (P := P) w T ⟨a.toArray⟩ .i64 (i : Int) t.h
    rw [dif_pos hc] at this
    have e2 : ((⟨a.toArray⟩ : ByteArray)[(i : Int).toNat]'(by rw [e]; omega)) = u := by
      rw [← hu']
      simp [ByteArray.getElem_eq_getElem_data]
    rw [e2] at this
    simp [execOp, hf.eval hx, hf.eval hy, this])
theorem OpW.sliceFrom [t : TStr P T] {i : Nat} (hx : evO f x = some (.string ⟨a.toArray⟩)) (hy : evO f y = some (.int .i64 (i : Int))) (hi : i ≤ a.length) : OpW P n W R L O E f ⟨d, .slice T x (some y) none none, ty, pos, af, gd⟩ (.string ⟨(a.drop i).toArray⟩) :=
  OpW.of (fun q w hf _ => by
    have e : (⟨a.toArray⟩ : ByteArray).size = a.length := List.size_toArray
    have := run_slice_string_l (P := P) w T ⟨a.toArray⟩ t.h .i64 (i : Int) (by omega) (by rw [e]; omega)
    rw [e, ByteArray.extract_mk, Int.toNat_natCast, List.take_of_length_le (by simp)] at this
    simp [execOp, hf.eval hx, hf.eval hy, run_sliceAt_string w _ _ _ _ _ t.h, this])
theorem OpW.sliceTo [t : TStr P T] {i : Nat} (hx : evO f x = some (.string ⟨a.toArray⟩)) (hy : evO f y = some (.int .i64 (i : Int))) (hi : i ≤ a.length) : OpW P n W R L O E f ⟨d, .slice T x none (some y) none, ty, pos, af, gd⟩ (.string ⟨(a.take i).toArray⟩) :=
  OpW.of (fun q w hf _ => by
    have e : (⟨a.toArray⟩ : ByteArray).size = a.length := List.size_toArray
    have := run_slice_string_h (P := P) w T ⟨a.toArray⟩ t.h .i64 (i : Int) (by omega) (by rw [e]; omega)
    rw [ByteArray.extract_mk, Int.toNat_natCast, List.drop_zero, Nat.sub_zero] at this
    simp [execOp, hf.eval hx, hf.eval hy, run_sliceAt_string w _ _ _ _ _ t.h, this])
theorem OpW.sliceOf [t : TStr P T] {i m : Nat} (hx : evO f x = some (.string ⟨a.toArray⟩)) (hy : evO f y = some (.int .i64 (i : Int))) (hz : evO f z = some (.int .i64 (m : Int))) (him : i ≤ m) (hi : m ≤ a.length) : OpW P n W R L O E f ⟨d, .slice T x (some y) (some z) none, ty, pos, af, gd⟩ (.string ⟨((a.drop i).take (m - i)).toArray⟩) :=
  OpW.of (fun q w hf _ => by
    have e : (⟨a.toArray⟩ : ByteArray).size = a.length := List.size_toArray
    have := run_slice_string (P := P) w T ⟨a.toArray⟩ .i64 .i64 (i : Int) (m : Int) t.h (by omega) (by omega) (by rw [e]; omega)
    rw [ByteArray.extract_mk, Int.toNat_natCast, Int.toNat_natCast] at this
    simp [execOp, hf.eval hx, hf.eval hy, hf.eval hz, run_sliceAt_string w _ _ _ _ _ t.h, this])
/-- A struct made of its fields. -/
theorem qaz {parts : List (Nat × Operand)} {vals : List (Nat × Value)} {cells : List Value} (hp : evP f parts = some vals) (hb : P.built T vals = some cells.toArray) : OpW P n W R L O E f ⟨d, .build T parts.toArray, ty, pos, af, gd⟩ (.agg cells.toArray) :=
  OpW.of (fun q w hf _ => by
    have e1 := evP_map hf parts vals hp
    have e2 : (parts.toArray.map fun p => (p.1, q.eval p.2)).toList = vals := by simpa using e1
    have := run_build (P := P) w T (parts.toArray.map fun p => (p.1, q.eval p.2)) cells.toArray (by rw [e2]; exact hb)
    simp at this
    simp [execOp, this])
theorem qaO {parts : Array (Nat × Operand)} (h : SXl P n W R ops L O E f (⟨d, .build T parts, ty, pos, af, gd⟩ :: rest) Q) : SXl P n W R ops L O E f (⟨d, .build T parts, ty, pos, af, gd⟩ :: rest) Q := h
theorem qaQ {q : Addr} (hx : evO f x = some (.pointer (some q))) : OpW P n W R L O E f ⟨d, .nilCheck x, ty, pos, af, gd⟩ (.pointer (some q)) :=
  OpW.of (fun a w hf _ => by simp [execOp, hf.eval hx])
theorem OpW.negi {p : Int} (hx : evO f x = some (.int .i64 p)) (h0 : -9223372036854775808 ≤ -p) (h1 : -p ≤ 9223372036854775807) : OpW P n W R L O E f ⟨d, .unOp .neg T x, ty, pos, af, gd⟩ (.int .i64 (-p)) := by
  have := OpW.neg (P := P) (n := n) (W := W) (R := R) (L := L) (O := O) (E := E) (d := d) (T := T) (ty := ty) (pos := pos) (af := af) (gd := gd) hx
  rwa [wrap_in h0 h1] at this
theorem qaW (h : SXl P n W R ops L O E f (⟨d, .nilCheck x, ty, pos, af, gd⟩ :: rest) Q) : SXl P n W R ops L O E f (⟨d, .nilCheck x, ty, pos, af, gd⟩ :: rest) Q := h
theorem qaL {fn : Func} {R' : Ending → World → Prop} {t u : Tmp} {T T' : TypeId} {m g : Nat} {cells : List Value} {z : Value} [tr : TRow P T m] (i : Nat) (hr : fn.results = #[.cell t T, .tmp u]) (ht : look f t = some (.pointer (some ⟨g, 0, none⟩))) (hu : look f u = some z) (hi : L[i]? = some ⟨g, cells, T'⟩) (hm : cells.length = m) (h : ∀ w, Loc W R L O E w → R' (.returned (.tuple #[.agg cells.toArray, z])) w) : SQ n W R L O E f .ret (bodyPost P fn R') :=
  ⟨fun a w hf hl => ⟨hf.defers, .tuple #[.agg cells.toArray, z], by
    obtain ⟨⟨d, h1, h2⟩, h3⟩ := tr.h
    have hb := (hl.blk _ (List.mem_iff_getElem?.2 ⟨i, hi⟩)).2
    obtain ⟨q1, q2⟩ := rowOf_range (w := w) (b := g) (o := 0) (n := m) (by simp [hasRow, hb, hm])
    have e2 : rowOf w g 0 m = cells.toArray := by
      unfold rowOf; rw [hb]; simp [← hm]
    rw [e2] at q1
    have e := run_loadVar_mid (P := P) w g 0 T _ d q1 h1 h2 (by rw [h3]; simp [hm])
    have hx : a.tmps[t]? = some (.pointer (some ⟨g, 0, none⟩)) := hf.at_ t _ ht
    have hy : a.tmps[u]? = some z := hf.at_ u _ hu
    simp [results, hr, hx, hy, asAddr, e], h w hl⟩⟩
theorem SQ.tail (h : SXl P n W R ops L O E f rest Q) : SQ n W R L O E f .normal (fun _ a w => wpList P ops Q rest a w) := ⟨fun a w hf hl => h.run a w hf hl⟩
theorem Loc.blk0 {g : Nat} {cells : List Value} {w : World} (h : Loc W (Rg.none W) (⟨g, cells, T⟩ :: L) O E w) : W.heap.size ≤ g ∧ w.heap[g]? = some (.cells cells.toArray T (0, 0)) := by
  have hb := h.blk _ List.mem_cons_self
  exact ⟨hb.1.resolve_left (fun f => f), hb.2⟩
/-- A call that hands back a new block, of which the cells are told. -/
def NewB (ξ : Type) (v : ξ → Nat → Value) (cells : ξ → List Value) (T1 : TypeId) (w : World) (e : Ending) (w' : World) : Prop :=
  ∃ (x : ξ) (g : Nat), e = .returned (v x g) ∧ w.heap.size ≤ g ∧ w'.heap[g]? = some (.cells (cells x).toArray T1 (0, 0)) ∧ Mod (fun _ => False) w w'
theorem SXl.callB {ξ : Type} {v : ξ → Nat → Value} {cells : ξ → List Value} {T1 : TypeId} {fn : FuncId} {ars : List Operand} {args : List Value} {aT : Array TypeId} {dn : Nat} [TFun P fn] (hw : wantO ops f ⟨some dn, .call ⟨.value (.func fn), ars.toArray, aT⟩, ty, pos, af, gd⟩ = some true) (hd : Nat.blt dn n = true) (ha : evL f ars = some args)
    (hc : ∀ w, Loc W R L O E w → Calls P fn args.toArray w (NewB ξ v cells T1 w))
    (h : ∀ x g, SXl P n W R ops (⟨g, cells x, T1⟩ :: L) O E ((dn, v x g) :: f) rest Q) : SXl P n W R ops L O E f (⟨some dn, .call ⟨.value (.func fn), ars.toArray, aT⟩, ty, pos, af, gd⟩ :: rest) Q := ⟨fun a w hf hl => by
  unfold wpList
  rw [if_pos (wanted_of hf hw)]
  refine .inl ?_
  unfold Oper.wp
  rw [run_callop hf ha w _ _, Oper.upon_enter]
  refine (hc w hl).mono ?_
  rintro e w' ⟨x, g, rfl, hg, hb, hm⟩
  exact (h x g).run _ _ (hf.put hd _) (hl.made hm hg hb)⟩
theorem l_index (h : SXl P n W R ops L O E f (⟨d, .index T x y, ty, pos, af, gd⟩ :: rest) Q) : SXl P n W R ops L O E f (⟨d, .index T x y, ty, pos, af, gd⟩ :: rest) Q := h
theorem l_slice {lo hi mx : Option Operand} (h : SXl P n W R ops L O E f (⟨d, .slice T x lo hi mx, ty, pos, af, gd⟩ :: rest) Q) : SXl P n W R ops L O E f (⟨d, .slice T x lo hi mx, ty, pos, af, gd⟩ :: rest) Q := h
end
end Go.Proofs.YtkkjjhooamlljaaGreatDoor
