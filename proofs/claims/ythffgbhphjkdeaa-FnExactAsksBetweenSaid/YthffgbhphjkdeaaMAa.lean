/-
  PROVED: contracts of functions and words on memory, several texts put together: what each says stands at its theorems. Conditions: as told there.
-/
import Derived.WalkKit
import Derived.Below
import Derived.Lib.Hide
import Derived.Deep.Quiet
import Derived.Test.YthffgbhphjkdeaaChecked
import Derived.Deep.RegionHeld3
import Derived.Deep.QuietTactic
import Derived.BigQuiet
import Derived.Outline
import Derived.StillTailTactics
import Derived.WalkLawsBesides
import Derived.Deep.MidRow
import Derived.ProofKit
import Derived.OrdersHeld
import Derived.StillTail
set_option linter.unusedVariables false
set_option linter.unusedSimpArgs false
namespace Go.Proofs.Ythffgbhphjkdeaa
open Go.RowKit

abbrev I64 (n : Int) : Prop := -9223372036854775808 ≤ n ∧ n ≤ 9223372036854775807
/-- Only the blocks in R, and new blocks, have turned. -/
structure Mod (R : Nat → Prop) (w w' : World) : Prop where
  os : w'.os = w.os
  tape : w'.tape = w.tape
  output : w'.output = w.output
  size : w.heap.size ≤ w'.heap.size
  block : ∀ k, k < w.heap.size → ¬ R k → w'.heap[k]? = w.heap[k]?

theorem Mod.refl (R : Nat → Prop) (w : World) : Mod R w w := ⟨rfl, rfl, rfl, Nat.le_refl _, fun _ _ _ => rfl⟩
theorem Mod.trans {R : Nat → Prop} {a b c : World} (h : Mod R a b) (k : Mod R b c) : Mod R a c :=
  ⟨k.os.trans h.os, k.tape.trans h.tape, k.output.trans h.output, Nat.le_trans h.size k.size, fun i hi hr => (k.block i (Nat.lt_of_lt_of_le hi h.size) hr).trans (h.block i hi hr)⟩
theorem Mod.mono {R R' : Nat → Prop} {w w' : World} (h : Mod R w w') (hr : ∀ k, k < w.heap.size → R k → R' k) : Mod R' w w' :=
  ⟨h.os, h.tape, h.output, h.size, fun k hk hn => h.block k hk fun h' => hn (hr k hk h')⟩
theorem Mod.below {R : Nat → Prop} {w w' : World} (h : Mod R w w') {B : Nat} (hB : B ≤ w.heap.size) (hr : ∀ k, k < B → ¬ R k) : Below B w w' :=
  ⟨h.os, h.tape, h.output, h.size, fun k hk => h.block k (by omega) (hr k hk)⟩
theorem Mod.drew {R : Nat → Prop} {a w : World} (h : Mod R a w) : Mod R a w.drew := ⟨h.os, h.tape, h.output, h.size, h.block⟩
theorem Mod.drewN {R : Nat → Prop} {a w : World} (h : Mod R a w) (n : Nat) : Mod R a (w.drewN n) := ⟨h.os, h.tape, h.output, h.size, h.block⟩
theorem Mod.alloc {R : Nat → Prop} {a w : World} (h : Mod R a w) (o : Obj) : Mod R a (w.alloc o) :=
  h.trans ⟨rfl, rfl, rfl, by simp, fun k hk _ => Below.heap_alloc _ _ _ hk⟩
theorem Mod.setCell {R : Nat → Prop} {a w : World} (h : Mod R a w) {p : Addr} (hp : p.block < w.heap.size → R p.block ∨ a.heap.size ≤ p.block) (u : Value) : Mod R a (w.setCell p u) := by
  refine ⟨h.os, h.tape, h.output, by have := h.size; simpa [World.setCell] using this, fun k hk hr => ?_⟩
  by_cases e : k = p.block
  · subst e
    rcases hp (Nat.lt_of_lt_of_le hk h.size) with h' | h'
    · exact (hr h').elim
    · omega
  · rw [Below.heap_setCell _ _ _ _ e]; exact h.block k hk hr
theorem Mod.setAt {g : Nat} {a w : World} (h : Mod (fun k => k = g) a w) (j : Nat) (s : Option Nat) (u : Value) : Mod (fun k => k = g) a (w.setCell ⟨g, j, s⟩ u) :=
  Mod.setCell h (p := ⟨g, j, s⟩) (fun _ => .inl rfl) u
theorem Mod.setNew {R : Nat → Prop} {g : Nat} {a w : World} (h : Mod R a w) (hg : a.heap.size ≤ g) (j : Nat) (s : Option Nat) (u : Value) : Mod R a (w.setCell ⟨g, j, s⟩ u) :=
  Mod.setCell h (p := ⟨g, j, s⟩) (fun _ => .inr hg) u
theorem Mod.cell {R : Nat → Prop} {w w' : World} (h : Mod R w w') {a : Addr} (hb : a.block < w.heap.size) (hr : ¬ R a.block) : w'.cell? a = w.cell? a :=
  World.cell?_of_block (h.block a.block hb hr)

/-- The bytes of a slice that came in, as the walk reads them: all below block B. -/
def Bytes (B : Nat) (w : World) (a : Option Addr) (len : Nat) : Prop :=
  len = 0 ∨ ∃ b off, a = some ⟨b, off, none⟩ ∧ b < B ∧ ∀ i, i < len → ∃ n : Int, 0 ≤ n ∧ n ≤ 255 ∧ w.cell? ⟨b, off + i, none⟩ = some (.int .u8 n)

theorem Bytes.same {B : Nat} {w w' : World} {a : Option Addr} {len : Nat} (h : Bytes B w a len) (hs : ∀ k, k < B → w'.heap[k]? = w.heap[k]?) : Bytes B w' a len := by
  rcases h with h | ⟨b, off, rfl, hb, hc⟩
  · exact .inl h
  · refine .inr ⟨b, off, rfl, hb, fun i hi => ?_⟩
    obtain ⟨n, h0, h1, h2⟩ := hc i hi
    exact ⟨n, h0, h1, by rw [World.cell?_of_block (w := w) (hs b hb)]; exact h2⟩

/-- A cursor at block g: the drawn bytes, a place in them, a number. -/
def CurAt (B : Nat) (T : TypeId) (w : World) (g : Nat) (a : Option Addr) (len cap i : Nat) (h : Int) : Prop :=
  B ≤ g ∧ w.heap[g]? = some (.cells #[.slice a len cap, .int .i64 (i : Int), .int .i64 h] T (0, 0)) ∧ i ≤ len ∧ len ≤ 1048576 ∧ Bytes B w a len
def Cur (B : Nat) (T : TypeId) (w : World) (g : Nat) : Prop := ∃ a len cap i h, CurAt B T w g a len cap i h

theorem Cur.size {B T w g} (h : Cur B T w g) : g < w.heap.size := by
  obtain ⟨a, len, cap, i, h, _, hg, _⟩ := h
  exact (Array.getElem?_eq_some_iff.1 hg).1
theorem Cur.base {B T w g} (h : Cur B T w g) : B ≤ g := by
  obtain ⟨a, len, cap, i, h, hb, _⟩ := h
  exact hb
/-- A cursor outlives what turns neither it nor the bytes. -/
theorem Cur.same {B T w w' g} (h : Cur B T w g) (hg : w'.heap[g]? = w.heap[g]?) (hs : ∀ k, k < B → w'.heap[k]? = w.heap[k]?) : Cur B T w' g := by
  obtain ⟨a, len, cap, i, h, hb, hc, hi, hl, hy⟩ := h
  exact ⟨a, len, cap, i, h, hb, hg.trans hc, hi, hl, hy.same hs⟩

theorem hid {p : Prop} (h : p) : Hid p := h

/-- What a draw leaves: a number with a property; the cursor stands; nothing else has turned. -/
def Drew (B : Nat) (T : TypeId) (g : Nat) (w : World) (p : Int → Prop) (e : Ending) (w' : World) : Prop :=
  ∃ x : Int, p x ∧ e = .returned (.int .i64 x) ∧ Cur B T w' g ∧ Mod (fun k => k = g) w w'

/-- A row of ints at block b from place o on. -/
def Ints (w : World) (b o : Nat) (l : List Int) : Prop := ∀ i, i < l.length → w.cell? ⟨b, o + i, none⟩ = some (.int .i64 (l.getD i 0))

theorem Ints.mod {R : Nat → Prop} {w w' : World} {b o : Nat} {l : List Int} (h : Ints w b o l) (hm : Mod R w w') (hr : ¬ R b) : Ints w' b o l := by
  intro i hi
  rw [hm.cell (a := ⟨b, o + i, none⟩) (World.block_lt_of_cell? w _ (h i hi)) hr]
  exact h i hi

/-- A slice of ints reads as the list l. -/
def IntsAt (w : World) (a : Option Addr) (l : List Int) : Prop := l = [] ∨ ∃ b o, a = some ⟨b, o, none⟩ ∧ Ints w b o l
/-- .. and its memory lies in blocks of R. -/
def InR (R : Nat → Prop) (a : Option Addr) : Prop := ∀ x, a = some x → R x.block
theorem IntsAt.mod {R : Nat → Prop} {w w' : World} {a : Option Addr} {l : List Int} (h : IntsAt w a l) (hm : Mod R w w') (hr : InR (fun k => ¬ R k) a) : IntsAt w' a l := by
  rcases h with h | ⟨b, o, rfl, h⟩
  · exact .inl h
  · exact .inr ⟨b, o, rfl, h.mod hm (hr _ rfl)⟩

theorem Ints.get {w : World} {b o : Nat} {l : List Int} (h : Ints w b o l) {k : Nat} (hk : k < l.length) : ∃ x, Hid (l[k]? = some x) ∧ w.cell? ⟨b, o + k, none⟩ = some (.int .i64 x) :=
  ⟨l[k], List.getElem?_eq_getElem hk, by have := h k hk; simpa [List.getD, hk] using this⟩
theorem IntsAt.get {w : World} {a : Option Addr} {l : List Int} (h : IntsAt w a l) {k : Nat} (hk : k < l.length) : ∃ b o x, a = some ⟨b, o, none⟩ ∧ Hid (l[k]? = some x) ∧ w.cell? ⟨b, o + k, none⟩ = some (.int .i64 x) := by
  rcases h with rfl | ⟨b, o, rfl, h⟩
  · simp at hk
  · obtain ⟨x, h1, h2⟩ := h.get hk
    exact ⟨b, o, x, rfl, h1, h2⟩
/-- The first k elements are the same. -/
def SameTo {α : Type} (l m : List α) (k : Nat) : Prop := l.take k = m.take k
theorem SameTo.succ {α : Type} {l m : List α} {k : Nat} {x : α} (h : SameTo l m k) (hl : Hid (l[k]? = some x)) (hm : Hid (m[k]? = some x)) : SameTo l m (k + 1) := by
  unfold SameTo at *
  rw [List.take_add_one, List.take_add_one, h, hl.out, hm.out]
theorem SameTo.all {α : Type} {l m : List α} {k : Nat} (h : SameTo l m k) (hl : l.length ≤ k) (hm : m.length ≤ k) : l = m := by
  unfold SameTo at h
  rwa [List.take_of_length_le hl, List.take_of_length_le hm] at h
theorem ne_at {α : Type} {l m : List α} {k : Nat} {x y : α} (hl : Hid (l[k]? = some x)) (hm : Hid (m[k]? = some y)) (h : x ≠ y) : l ≠ m := by
  rintro rfl
  have := hl.out.symm.trans hm.out
  simp at this
  exact h this

theorem ret_bool {a b : Bool} (h : a = b) : Ending.returned (.bool a) = .returned (.bool b) := by rw [h]
theorem ret_int {k : IntKind} {a b : Int} (h : a = b) : Ending.returned (.int k a) = .returned (.int k b) := by rw [h]

theorem Mod.then {R S : Nat → Prop} {a b c : World} (h : Mod R a b) (k : Mod S b c) (hs : ∀ i, i < a.heap.size → S i → R i) : Mod R a c :=
  ⟨k.os.trans h.os, k.tape.trans h.tape, k.output.trans h.output, Nat.le_trans h.size k.size, fun i hi hr => (k.block i (Nat.lt_of_lt_of_le hi h.size) fun h' => hr (hs i hi h')).trans (h.block i hi hr)⟩
theorem Mod.thenNone {R : Nat → Prop} {a b c : World} (h : Mod R a b) (k : Mod (fun _ => False) b c) : Mod R a c :=
  h.then k fun _ _ f => f.elim
theorem Cur.mod {B T w w' g} {R : Nat → Prop} (hc : Cur B T w g) (hm : Mod R w w') (hg : ¬ R g) (hb : ∀ k, k < B → ¬ R k) : Cur B T w' g := by
  have h1 := hc.size
  have h2 := hc.base
  exact hc.same (hm.block g h1 hg) fun k hk => hm.block k (by omega) (hb k hk)
theorem Cur.none {B T w w' g} (hc : Cur B T w g) (hm : Mod (fun _ => False) w w') : Cur B T w' g := hc.mod hm (fun h => h) fun _ _ h => h
theorem Cur.other {B T w w' g k} (hc : Cur B T w g) (hm : Mod (fun i => i = k) w w') (hk : k ≠ g) (hb : B ≤ k) : Cur B T w' g :=
  hc.mod hm (fun (e : g = k) => hk e.symm) fun i hi (e : i = k) => by omega
theorem Cur.alloc {B T w g} (hc : Cur B T w g) (o : Obj) : Cur B T (w.alloc o) g := hc.none ((Mod.refl _ w).alloc o)
/-- A block known whole. -/
theorem blk_cell {w : World} {b : Nat} {l : List Value} {T : TypeId} {fr : Nat × Nat} (h : w.heap[b]? = some (.cells l.toArray T fr)) {j : Nat} {v : Value} (hv : l[j]? = some v) : w.cell? ⟨b, j, none⟩ = some v := by
  simp [World.cell?, h, hv]
theorem blk_free {w : World} {b : Nat} {c : Array Value} {T : TypeId} (h : w.heap[b]? = some (.cells c T (0, 0))) (j : Nat) : w.frozen? ⟨b, j, none⟩ = false := by
  simp [World.frozen?, h]
theorem Mod.blk {R : Nat → Prop} {w w' : World} (h : Mod R w w') {b : Nat} {o : Obj} (hb : w.heap[b]? = some o) (hr : ¬ R b) : w'.heap[b]? = some o := by
  rw [h.block b (Array.getElem?_eq_some_iff.1 hb).1 hr]; exact hb

theorem Mod.keep {w w' : World} (h : Mod (fun _ => False) w w') (a : Addr) (v : Value) (hc : w.cell? a = some v) : w'.cell? a = some v := by
  rw [h.cell (World.block_lt_of_cell? w a hc) (fun f => f)]; exact hc

end Go.Proofs.Ythffgbhphjkdeaa
namespace Go.Proofs.Ythffgbhphjkdeaa
open Go.RowKit

/-- The rows of a slice: element i lies at place o + i * sz of block b. -/
def RowsAt (sz : Nat) (R : Nat → Prop) (w : World) (a : Option Addr) (rows : List (List Value)) : Prop :=
  rows = [] ∨ ∃ b o, a = some ⟨b, o, none⟩ ∧ R b ∧ b < w.heap.size ∧ ∀ (i : Nat) (r : List Value), rows[i]? = some r → r.length = sz ∧ ∀ (j : Nat) (v : Value), r[j]? = some v → w.cell? ⟨b, o + i * sz + j, none⟩ = some v

theorem RowsAt.nil {sz R w a} : RowsAt sz R w a [] := .inl rfl
theorem RowsAt.mod {sz : Nat} {R S : Nat → Prop} {w w' : World} {a : Option Addr} {rows : List (List Value)} (h : RowsAt sz R w a rows) (hm : Mod S w w') (hs : ∀ k, R k → ¬ S k) : RowsAt sz R w' a rows := by
  rcases h with h | ⟨b, o, rfl, hR, hb, h⟩
  · exact .inl h
  · refine .inr ⟨b, o, rfl, hR, Nat.lt_of_lt_of_le hb hm.size, fun i r hr => ⟨(h i r hr).1, fun j v hv => ?_⟩⟩
    rw [hm.cell (a := ⟨b, o + i * sz + j, none⟩) hb (hs b hR)]
    exact (h i r hr).2 j v hv
theorem RowsAt.keep {sz : Nat} {R : Nat → Prop} {w w' : World} {a : Option Addr} {rows : List (List Value)} (h : RowsAt sz R w a rows) (hm : Mod (fun _ => False) w w') : RowsAt sz R w' a rows := h.mod hm fun _ _ f => f
theorem RowsAt.drewN {sz R w a rows} (h : RowsAt sz R w a rows) (n : Nat) : RowsAt sz R (w.drewN n) a rows := h.keep ((Mod.refl _ w).drewN n)
theorem RowsAt.weaken {sz : Nat} {R S : Nat → Prop} {w : World} {a : Option Addr} {rows : List (List Value)} (h : RowsAt sz R w a rows) (hs : ∀ k, k < w.heap.size → R k → S k) : RowsAt sz S w a rows := by
  rcases h with h | ⟨b, o, rfl, hR, hb, h⟩
  · exact .inl h
  · exact .inr ⟨b, o, rfl, hs b hb hR, hb, h⟩
theorem RowsAt.get {sz : Nat} {R : Nat → Prop} {w : World} {a : Option Addr} {rows : List (List Value)} (h : RowsAt sz R w a rows) {k : Nat} {r : List Value} (hk : rows[k]? = some r) :
    ∃ b o, a = some ⟨b, o, none⟩ ∧ R b ∧ b < w.heap.size ∧ r.length = sz ∧ ∀ j v, r[j]? = some v → w.cell? ⟨b, o + k * sz + j, none⟩ = some v := by
  rcases h with rfl | ⟨b, o, rfl, hR, hb, h⟩
  · simp at hk
  · exact ⟨b, o, rfl, hR, hb, h k r hk⟩

/-- A slice reads as the list l: each row stands for its element. -/
def SliceAt {α : Type} (rep : World → List Value → α → Prop) (sz : Nat) (R : Nat → Prop) (w : World) (a : Option Addr) (l : List α) : Prop :=
  ∃ rows : List (List Value), RowsAt sz R w a rows ∧ rows.length = l.length ∧ ∀ (i : Nat) (r : List Value) (x : α), rows[i]? = some r → l[i]? = some x → rep w r x

theorem SliceAt.nil {α : Type} {rep : World → List Value → α → Prop} {sz R w a} : SliceAt rep sz R w a ([] : List α) := ⟨[], .inl rfl, rfl, fun _ _ _ h => by simp at h⟩
theorem SliceAt.mod {α : Type} {rep : World → List Value → α → Prop} {sz : Nat} {R S : Nat → Prop} {w w' : World} {a : Option Addr} {l : List α} (h : SliceAt rep sz R w a l) (hm : Mod S w w') (hs : ∀ k, R k → ¬ S k)
    (hr : ∀ r x, rep w r x → rep w' r x) : SliceAt rep sz R w' a l := by
  obtain ⟨rows, h1, h2, h3⟩ := h
  exact ⟨rows, h1.mod hm hs, h2, fun i r x a b => hr _ _ (h3 i r x a b)⟩
theorem SliceAt.get {α : Type} {rep : World → List Value → α → Prop} {sz : Nat} {R : Nat → Prop} {w : World} {a : Option Addr} {l : List α} (h : SliceAt rep sz R w a l) {k : Nat} (hk : k < l.length) :
    ∃ b o x r, a = some ⟨b, o, none⟩ ∧ R b ∧ b < w.heap.size ∧ Hid (l[k]? = some x) ∧ rep w r x ∧ r.length = sz ∧ ∀ j v, r[j]? = some v → w.cell? ⟨b, o + k * sz + j, none⟩ = some v := by
  obtain ⟨rows, h1, h2, h3⟩ := h
  have e1 := List.getElem?_eq_getElem hk
  have e2 := List.getElem?_eq_getElem (l := rows) (i := k) (by omega)
  obtain ⟨b, o, rfl, hR, hb, hl, hc⟩ := h1.get e2
  exact ⟨b, o, _, _, rfl, hR, hb, e1, h3 _ _ _ e2 e1, hl, hc⟩

/-- Flat structs: the row is told by the element. -/
def Flat {α : Type} (cells : α → List Value) (_w : World) (r : List Value) (x : α) : Prop := r = cells x

theorem flatten_at {rows : List (List Value)} {sz : Nat} (h : ∀ r ∈ rows, r.length = sz) {i : Nat} {r : List Value} (hi : rows[i]? = some r) {j : Nat} {v : Value} (hj : r[j]? = some v) :
    rows.flatten[i * sz + j]? = some v := by
  induction rows generalizing i with
  | nil => simp at hi
  | cons r0 rest ih =>
    have h0 : r0.length = sz := h r0 (by simp)
    cases i with
    | zero =>
      simp at hi
      subst hi
      have : j < r0.length := (List.getElem?_eq_some_iff.1 hj).1
      simp [List.getElem?_append_left this, hj]
    | succ i =>
      simp at hi
      have e : (i + 1) * sz + j = r0.length + (i * sz + j) := by rw [h0, Nat.add_mul]; omega
      rw [List.flatten_cons, e, List.getElem?_append_right (by omega), Nat.add_sub_cancel_left]
      exact ih (fun r hr => h r (by simp [hr])) hi
theorem flatten_length {rows : List (List Value)} {sz : Nat} (h : ∀ r ∈ rows, r.length = sz) : rows.flatten.length = rows.length * sz := by
  induction rows with
  | nil => simp
  | cons r rest ih => rw [List.flatten_cons, List.length_append, h r (by simp), ih (fun r hr => h r (by simp [hr])), List.length_cons, Nat.add_mul]; omega

/-- What a call owns (the kit's word) reads as rows. -/
theorem rowsAt_of_own {w : World} {base e sz n c : Nat} {a : Option Addr} {rows : List (List Value)} (h : w.ownsRow base e sz (.slice a n c) n rows.flatten) (hr : ∀ r ∈ rows, r.length = sz) (hsz : sz ≠ 0) :
    RowsAt sz (fun k => base ≤ k) w a rows := by
  rcases h.2 with ⟨hv, hn⟩ | ⟨g, cap, cur, hv, hb, hh, hnc, _, hcs, ht⟩
  · have h1 := h.1
    have hl := flatten_length hr
    by_cases hz : rows = []
    · exact .inl hz
    · have : rows.length * sz = 0 := by rw [← hl, h1, hn, Nat.zero_mul]
      have : rows.length = 0 := by
        rcases Nat.mul_eq_zero.1 this with h | h
        · exact h
        · exact (hsz h).elim
      exact (hz (List.eq_nil_of_length_eq_zero this)).elim
  · injection hv with ha _ _
    subst ha
    refine .inr ⟨g, 0, rfl, hb, (Array.getElem?_eq_some_iff.1 hh).1, fun i r hi => ⟨hr r (List.mem_of_getElem? hi), fun j v hj => ?_⟩⟩
    have e1 := flatten_at hr hi hj
    rw [← ht, List.getElem?_take] at e1
    split at e1
    · rw [Nat.zero_add, cell_of_row w g _ cur e (0, 0) hh]
      simpa using e1
    · cases e1

/-- Behind a callee that made memory: the old cells and marks, as rules of the walk. -/
theorem mcell {w w1 : World} (h : Mod (fun _ => False) w w1) : (∀ b o, b < w.heap.size → w1.cell? ⟨b, o, none⟩ = w.cell? ⟨b, o, none⟩) ∧ (∀ b o, b < w.heap.size → w1.frozen? ⟨b, o, none⟩ = w.frozen? ⟨b, o, none⟩) :=
  ⟨fun b o hb => h.cell (a := ⟨b, o, none⟩) hb (fun f => f), fun b _ hb => World.frozen?_of_block (h.block b hb (fun f => f))⟩

/-- A block of n cells of the call's own, filled up to xs. -/
def Filled (g : Nat) (e : TypeId) (n : Nat) (w : World) (xs : List Value) : Prop :=
  ∃ cur, w.heap[g]? = some (.cells cur e (0, 0)) ∧ cur.size = n ∧ cur.toList.take xs.length = xs
theorem Filled.size {g e n w xs} (h : Filled g e n w xs) : g < w.heap.size := by
  obtain ⟨cur, h1, _⟩ := h
  exact (Array.getElem?_eq_some_iff.1 h1).1
theorem Filled.made (w : World) (e n : Nat) (cur : Array Value) (h : cur.size = n) : Filled w.heap.size e n (w.alloc (.cells cur e)) [] := ⟨cur, heap_alloc_new w _, h, by simp⟩
theorem Filled.mod {g e n : Nat} {w w' : World} {xs : List Value} {R : Nat → Prop} (h : Filled g e n w xs) (hm : Mod R w w') (hr : ¬ R g) : Filled g e n w' xs := by
  obtain ⟨cur, h1, h2⟩ := h
  exact ⟨cur, hm.blk h1 hr, h2⟩
theorem Filled.push {g e n : Nat} {w : World} {xs : List Value} (h : Filled g e n w xs) {off : Nat} (ho : off = xs.length) (hn : off < n) (v : Value) : Filled g e n (w.setCell ⟨g, off, none⟩ v) (xs ++ [v]) := by
  obtain ⟨cur, h1, h2, h3⟩ := h
  subst ho
  refine ⟨cur.setIfInBounds xs.length v, ?_, by simpa using h2, ?_⟩
  · simp [World.setCell, Array.getElem?_modify, h1]
  · have hl : xs.length < cur.toList.length := by simpa [h2] using hn
    rw [Array.toList_setIfInBounds, List.length_append, List.length_singleton, List.take_add_one, List.take_set_of_le (Nat.le_refl _), h3]
    rw [List.getElem?_set_self hl]
    rfl
theorem Filled.cell {g e n : Nat} {w : World} {xs : List Value} (h : Filled g e n w xs) {off : Nat} (hn : off < n) : ∃ v, w.cell? ⟨g, off, none⟩ = some v := by
  obtain ⟨cur, h1, h2, _⟩ := h
  rw [cell_of_row w g off cur e (0, 0) h1]
  exact ⟨_, Array.getElem?_eq_getElem (by omega)⟩
theorem Filled.read {g e n : Nat} {w : World} {xs : List Value} (h : Filled g e n w xs) {i : Nat} {v : Value} (hv : xs[i]? = some v) : w.cell? ⟨g, i, none⟩ = some v := by
  obtain ⟨cur, h1, h2, h3⟩ := h
  rw [cell_of_row w g i cur e (0, 0) h1]
  rw [← h3, List.getElem?_take] at hv
  split at hv
  · simpa using hv
  · cases hv
theorem Filled.free {g e n : Nat} {w : World} {xs : List Value} (h : Filled g e n w xs) (off : Nat) : w.frozen? ⟨g, off, none⟩ = false := by
  obtain ⟨cur, h1, _⟩ := h
  simp [World.frozen?, h1]
theorem Filled.full {g e n : Nat} {w : World} {xs : List Value} (h : Filled g e n w xs) (hl : xs.length = n) : w.heap[g]? = some (.cells xs.toArray e (0, 0)) := by
  obtain ⟨cur, h1, h2, h3⟩ := h
  rw [h1]
  have : cur.toList = xs := by rw [← h3, List.take_of_length_le (by simp; omega)]
  rw [← this]

/-- A new slice that owns its rows: what a copy hands back. -/
def NewRows (e : TypeId) (w : World) (n : Nat) (xs : List Value) (en : Ending) (w' : World) : Prop :=
  ∃ g, en = .returned (.slice (some ⟨g, 0, none⟩) n n) ∧ w.heap.size ≤ g ∧ w'.heap[g]? = some (.cells xs.toArray e (0, 0)) ∧ Mod (fun _ => False) w w'

/-- A block whose cells are the rows' reads as rows. -/
theorem rowsAt_of_blk {w : World} {g e sz : Nat} {rows : List (List Value)} {R : Nat → Prop} (h : w.heap[g]? = some (.cells rows.flatten.toArray e (0, 0))) (hr : ∀ r ∈ rows, r.length = sz) (hR : R g) : RowsAt sz R w (some ⟨g, 0, none⟩) rows :=
  .inr ⟨g, 0, rfl, hR, (Array.getElem?_eq_some_iff.1 h).1, fun i r hi => ⟨hr r (List.mem_of_getElem? hi), fun j v hj => by
    rw [Nat.zero_add]
    exact blk_cell h (flatten_at hr hi hj)⟩⟩

theorem flat_length {α : Type} {cells : α → List Value} {sz : Nat} (h : ∀ x, (cells x).length = sz) (l : List α) : (l.map cells).flatten.length = l.length * sz := by
  rw [flatten_length (sz := sz) (by intro r hr; obtain ⟨x, _, rfl⟩ := List.mem_map.1 hr; exact h x), List.length_map]
theorem flat_succ {α : Type} {cells : α → List Value} {l : List α} {k : Nat} {x : α} (h : Hid (l[k]? = some x)) : ((l.take (k + 1)).map cells).flatten = ((l.take k).map cells).flatten ++ cells x := by
  rw [List.take_add_one, h.out]
  simp
theorem take_length_of_lt {α : Type} {l : List α} {k : Nat} (h : k ≤ l.length) : (l.take k).length = k := by simp; omega

/-- A new slice of the call's own: what an append loop, or a copy, hands back. -/
def NewSlice (e sz : Nat) (w : World) (n : Nat) (xs : List Value) (en : Ending) (w' : World) : Prop :=
  ∃ a c, en = .returned (.slice a n c) ∧ w'.ownsRow w.heap.size e sz (.slice a n c) n xs ∧ Mod (fun _ => False) w w'
theorem NewRows.slice {e sz : Nat} {w w' : World} {n : Nat} {xs : List Value} {en : Ending} (h : NewRows e w n xs en w') (hl : xs.length = n * sz) (hn : n ≤ maxLen) : NewSlice e sz w n xs en w' := by
  obtain ⟨g, he, hg, hb, hm⟩ := h
  exact ⟨_, _, he, ⟨hl, .inr ⟨g, n, xs.toArray, rfl, hg, hb, Nat.le_refl _, hn, by simpa using hl, by simp [← hl]⟩⟩, hm⟩
/-- An owned row can be marked. -/
theorem own_filled {w : World} {base e sz n c : Nat} {a : Option Addr} {xs : List Value} (h : w.ownsRow base e sz (.slice a n c) n xs) : n = 0 ∨ ∃ g N, a = some ⟨g, 0, none⟩ ∧ base ≤ g ∧ n * sz ≤ N ∧ Filled g e N w [] := by
  rcases h.2 with ⟨_, hn⟩ | ⟨g, cap, cur, hv, hb, hh, hnc, _, hcs, _⟩
  · exact .inl hn
  · injection hv with ha _ _
    exact .inr ⟨g, cap * sz, ha, hb, Nat.mul_le_mul_right _ hnc, cur, hh, hcs, by simp⟩
theorem own_slice {α : Type} {cells : α → List Value} {w : World} {base e sz n c : Nat} {a : Option Addr} {l : List α} (h : w.ownsRow base e sz (.slice a n c) n (l.map cells).flatten) (hc : ∀ x, (cells x).length = sz) (hsz : sz ≠ 0) :
    SliceAt (Flat cells) sz (fun k => base ≤ k) w a l :=
  ⟨l.map cells, rowsAt_of_own h (by intro r hr; obtain ⟨x, _, rfl⟩ := List.mem_map.1 hr; exact hc x) hsz, by simp, by
    intro i r x h1 h2
    rw [List.getElem?_map, h2] at h1
    simpa [Flat] using h1.symm⟩
/-- Behind an append: what is below the base is as it was. -/
theorem Mod.grownBy {R : Nat → Prop} {w w' : World} {row : Option Nat} {W : World} (h : Mod R W w) (hg : w.grownBy w' row) (hr : ∀ k, row = some k → W.heap.size ≤ k) : Mod R W w' :=
  ⟨hg.os.trans h.os, hg.tape.trans h.tape, hg.output.trans h.output, Nat.le_trans h.size hg.size, fun k hk hn => (hg.block k (Nat.lt_of_lt_of_le hk h.size) (fun e => by have := hr k e.symm; omega)).trans (h.block k hk hn)⟩

/-- Behind an append: the value's form. -/
theorem own_form {w : World} {base e sz n : Nat} {v : Value} {xs : List Value} (h : w.ownsRow base e sz v n xs) : ∃ a c, v = .slice a n c := by
  rcases h.2 with ⟨hv, hn⟩ | ⟨g, cap, cur, hv, _⟩
  · exact ⟨_, _, by rw [hv, hn]⟩
  · exact ⟨_, _, hv⟩
/-- A slice's memory lies below the heap's end: so told, it outlives what is written later. -/
theorem SliceAt.low {α : Type} {rep : World → List Value → α → Prop} {sz : Nat} {R : Nat → Prop} {w : World} {a : Option Addr} {l : List α} (h : SliceAt rep sz R w a l) : SliceAt rep sz (fun k => k < w.heap.size) w a l := by
  obtain ⟨rows, h1, h2⟩ := h
  exact ⟨rows, h1.weaken fun _ hk _ => hk, h2⟩
theorem SliceAt.flatMod {α : Type} {cells : α → List Value} {sz : Nat} {R S : Nat → Prop} {w w' : World} {a : Option Addr} {l : List α} (h : SliceAt (Flat cells) sz R w a l) (hm : Mod S w w') (hs : ∀ k, R k → ¬ S k) : SliceAt (Flat cells) sz R w' a l :=
  h.mod hm hs fun _ _ h => h
theorem SliceAt.flatKeep {α : Type} {cells : α → List Value} {sz : Nat} {R : Nat → Prop} {w w' : World} {a : Option Addr} {l : List α} (h : SliceAt (Flat cells) sz R w a l) (hm : Mod (fun _ => False) w w') : SliceAt (Flat cells) sz R w' a l :=
  h.flatMod hm fun _ _ f => f
/-- What a copy hands back, told as a slice and as a block to be marked. -/
theorem NewRows.use {α : Type} {cells : α → List Value} {e sz : Nat} {w w' : World} {l : List α} {en : Ending} (h : NewRows e w l.length (l.map cells).flatten en w') (hc : ∀ x, (cells x).length = sz) :
    ∃ g, en = .returned (.slice (some ⟨g, 0, none⟩) l.length l.length) ∧ w.heap.size ≤ g ∧ g < w'.heap.size ∧ SliceAt (Flat cells) sz (fun k => k = g) w' (some ⟨g, 0, none⟩) l ∧ Filled g e (l.length * sz) w' [] ∧ Mod (fun _ => False) w w' := by
  obtain ⟨g, he, hg, hb, hm⟩ := h
  refine ⟨g, he, hg, (Array.getElem?_eq_some_iff.1 hb).1, ⟨l.map cells, rowsAt_of_blk hb (by intro r hr; obtain ⟨x, _, rfl⟩ := List.mem_map.1 hr; exact hc x) rfl, by simp, ?_⟩, ⟨_, hb, by simpa using flat_length hc l, by simp⟩, hm⟩
  intro i r x h1 h2
  rw [List.getElem?_map, h2] at h1
  simpa [Flat] using h1.symm
/-- What an append loop hands back, likewise. Where it is empty any later block serves as the one that is marked. -/
theorem NewSlice.use {α : Type} {cells : α → List Value} {e sz : Nat} {w w' : World} {l : List α} {en : Ending} (h : NewSlice e sz w l.length (l.map cells).flatten en w') (hc : ∀ x, (cells x).length = sz) (hsz : sz ≠ 0) :
    ∃ a c g N, en = .returned (.slice a l.length c) ∧ w.heap.size ≤ g ∧ SliceAt (Flat cells) sz (fun k => w.heap.size ≤ k) w' a l ∧ (l.length = 0 ∨ a = some ⟨g, 0, none⟩ ∧ l.length * sz ≤ N ∧ Filled g e N w' []) ∧ Mod (fun _ => False) w w' := by
  obtain ⟨a, c, he, ho, hm⟩ := h
  rcases own_filled ho with h0 | ⟨g, N, h1, h2, h3, h4⟩
  · exact ⟨a, c, w.heap.size, 0, he, Nat.le_refl _, own_slice ho hc hsz, .inl h0, hm⟩
  · exact ⟨a, c, g, N, he, h2, own_slice ho hc hsz, .inr ⟨h1, h3, h4⟩, hm⟩

theorem set_far {w : World} {b c : Nat} {v : Value} {ob : Obj} {j : Nat} (h : w.heap[b]? = some ob) (hb : b ≠ c) : (w.setCell ⟨c, j, none⟩ v).heap[b]? = some ob := by
  rw [Below.heap_setCell _ _ _ _ hb]; exact h
theorem blk_far {g b : Nat} (h : g ≠ b) (w : World) (j : Nat) (s : Option Nat) (v : Value) : (w.setCell ⟨b, j, s⟩ v).heap[g]? = w.heap[g]? := Below.heap_setCell _ _ _ _ h

theorem flat_of_blk {α : Type} {cells : α → List Value} {sz g e : Nat} {w : World} {l : List α} (hb : w.heap[g]? = some (.cells (l.map cells).flatten.toArray e (0, 0))) (hc : ∀ x, (cells x).length = sz) : SliceAt (Flat cells) sz (fun k => k = g) w (some ⟨g, 0, none⟩) l :=
  ⟨l.map cells, rowsAt_of_blk hb (by intro r hr; obtain ⟨y, _, rfl⟩ := List.mem_map.1 hr; exact hc y) rfl, by simp, by
    intro i r y h1 h2
    rw [List.getElem?_map, h2] at h1
    simpa [Flat] using h1.symm⟩

end Go.Proofs.Ythffgbhphjkdeaa
namespace Go.Proofs.Ythffgbhphjkdeaa

structure Space where
  mode : Int
  n : Int
  deriving DecidableEq, Inhabited
def Space.cells (s : Space) : List Value := [.int .i64 s.mode, .int .i64 s.n]

structure Asked where
  node : Int
  wide : Space
  high : Space
  rtl : Bool
  deriving DecidableEq, Inhabited
def Asked.cells (x : Asked) : List Value := [.int .i64 x.node, .int .i64 x.wide.mode, .int .i64 x.wide.n, .int .i64 x.high.mode, .int .i64 x.high.n, .bool x.rtl]

structure Rule where
  room : Int
  wide : Int
  high : Int
  deriving DecidableEq, Inhabited
def Rule.cells (x : Rule) : List Value := [.int .i64 x.room, .int .i64 x.wide, .int .i64 x.high]

structure Val where
  kind : Int
  n : Int
  deriving DecidableEq, Inhabited
def Val.cells (x : Val) : List Value := [.int .i64 x.kind, .int .i64 x.n]

structure ActD where
  kind : Int
  n : Int
  kid : Int
  pl : Int
  key : ByteArray
  value : Val
  table : List Rule
  wide : Int
  high : Int
  rtl : Bool
/-- An action's cells: the table is a slice. -/
def repAct (R : Nat → Prop) (w : World) (cs : List Value) (x : ActD) : Prop :=
  ∃ a c, cs = [.int .i64 x.kind, .int .i64 x.n, .int .i64 x.kid, .int .i64 x.pl, .string x.key, .int .i64 x.value.kind, .int .i64 x.value.n, .slice a x.table.length c, .int .i64 x.wide, .int .i64 x.high, .bool x.rtl] ∧ SliceAt (Flat Rule.cells) 3 R w a x.table
theorem repAct.mod {R S : Nat → Prop} {w w' : World} {cs : List Value} {x : ActD} (h : repAct R w cs x) (hm : Mod S w w') (hs : ∀ k, R k → ¬ S k) : repAct R w' cs x := by
  obtain ⟨a, c, h1, h2⟩ := h
  exact ⟨a, c, h1, h2.flatMod hm hs⟩

structure Frame where
  node : Int
  x : Int
  y : Int
  wide : Int
  high : Int
  deriving DecidableEq, Inhabited
def Frame.cells (f : Frame) : List Value := [.int .i64 f.node, .int .i64 f.x, .int .i64 f.y, .int .i64 f.wide, .int .i64 f.high]
structure Memo where
  node : Int
  wide : Space
  high : Space
  rtl : Bool
  bw : Int
  bh : Int
  bb : Int
  frames : List Frame
  deriving DecidableEq, Inhabited

end Go.Proofs.Ythffgbhphjkdeaa
namespace Go.Proofs.Ythffgbhphjkdeaa
open Go.RowKit

theorem toValue_any (x : Val) (w : World) : Calls Try.prog 172 #[.agg #[.int .i64 x.kind, .int .i64 x.n]] w fun e w' => e = .returned (.agg #[.int .i64 x.kind, .int .i64 x.n]) ∧ Mod (fun _ => False) w w' := by
  go_enter Try.func172, Try.ntmps172
  go_wp2
  refine bodyPost_ret (v := .agg #[.int .i64 x.kind, .int .i64 x.n]) (by simp [results, Try.results172, go_sem]) rfl ⟨rfl, by (repeat (first | with_reducible exact Mod.refl _ _ | with_reducible refine Mod.drewN ?_ _ | with_reducible refine Mod.drew ?_ | with_reducible refine Mod.alloc ?_ _ | ((with_reducible refine Mod.setNew ?_ ?_ _ _ _); (rotate_left; omega)) | with_reducible refine Mod.setAt ?_ _ _ _ ))⟩

set_option maxHeartbeats 1000000 in
theorem eqValue_any (x y : Val) (w : World) : Calls Try.prog 176 #[.agg #[.int .i64 x.kind, .int .i64 x.n], .agg #[.int .i64 y.kind, .int .i64 y.n]] w fun e w' => e = .returned (.bool (decide (x = y))) ∧ Mod (fun _ => False) w w' := by
  obtain ⟨x0, x1⟩ := x
  obtain ⟨y0, y1⟩ := y
  go_enter Try.func176, Try.ntmps176
  go_wp2
  all_goals
    go_ret
    refine ⟨ret_bool ?_, by (repeat (first | with_reducible exact Mod.refl _ _ | with_reducible refine Mod.drewN ?_ _ | with_reducible refine Mod.drew ?_ | with_reducible refine Mod.alloc ?_ _ | ((with_reducible refine Mod.setNew ?_ ?_ _ _ _); (rotate_left; omega)) | with_reducible refine Mod.setAt ?_ _ _ _ ))⟩
    simp_all

end Go.Proofs.Ythffgbhphjkdeaa
namespace Go.Proofs.Ythffgbhphjkdeaa
open Go.RowKit

theorem heap_alloc_keep {w : World} {b : Nat} {ob o : Obj} (h : w.heap[b]? = some ob) : (w.alloc o).heap[b]? = some ob := by
  rw [Below.heap_alloc _ _ _ (Array.getElem?_eq_some_iff.1 h).1]; exact h
end Go.Proofs.Ythffgbhphjkdeaa
namespace Go.Proofs.Ythffgbhphjkdeaa
open Go.RowKit

theorem al2a (w : World) (A B : Obj) : ((w.alloc A).alloc B).heap[w.heap.size]? = some A := heap_alloc_keep (heap_alloc_new w A)
theorem al2b (w : World) (A B : Obj) : ((w.alloc A).alloc B).heap[w.heap.size + 1]? = some B := by
  have h := heap_alloc_new (w.alloc A) B
  rwa [World.size_alloc] at h
theorem al3a (w : World) (A B C : Obj) : (((w.alloc A).alloc B).alloc C).heap[w.heap.size]? = some A := heap_alloc_keep (heap_alloc_keep (heap_alloc_new w A))
theorem al3b (w : World) (A B C : Obj) : (((w.alloc A).alloc B).alloc C).heap[w.heap.size + 1]? = some B := by
  have h := heap_alloc_new (w.alloc A) B
  rw [World.size_alloc] at h
  exact heap_alloc_keep h
theorem al3c (w : World) (A B C : Obj) : (((w.alloc A).alloc B).alloc C).heap[w.heap.size + 1 + 1]? = some C := by
  have h := heap_alloc_new ((w.alloc A).alloc B) C
  rwa [World.size_alloc, World.size_alloc] at h
theorem set_in {w : World} {b j : Nat} {l : List Value} {T : TypeId} {fr : Nat × Nat} {v : Value} (h : w.heap[b]? = some (.cells l.toArray T fr)) : (w.setCell ⟨b, j, none⟩ v).heap[b]? = some (.cells (l.set j v).toArray T fr) := by
  simp [World.setCell, Array.getElem?_modify, h]

structure Sides where
  left : Val
  top : Val
  right : Val
  bottom : Val
  start : Val
  stop : Val
  deriving DecidableEq, Inhabited
def Sides.cells (x : Sides) : List Value := [.int .i64 x.left.kind, .int .i64 x.left.n, .int .i64 x.top.kind, .int .i64 x.top.n, .int .i64 x.right.kind, .int .i64 x.right.n, .int .i64 x.bottom.kind, .int .i64 x.bottom.n, .int .i64 x.start.kind, .int .i64 x.start.n, .int .i64 x.stop.kind, .int .i64 x.stop.n]

set_option maxRecDepth 100000 in
set_option maxHeartbeats 8000000 in
theorem toSides_any (x : Sides) (w : World) : Calls Try.prog 173 #[.agg #[.int .i64 x.left.kind, .int .i64 x.left.n, .int .i64 x.top.kind, .int .i64 x.top.n, .int .i64 x.right.kind, .int .i64 x.right.n, .int .i64 x.bottom.kind, .int .i64 x.bottom.n, .int .i64 x.start.kind, .int .i64 x.start.n, .int .i64 x.stop.kind, .int .i64 x.stop.n]] w fun e w' => e = .returned (.agg #[.int .i64 x.left.kind, .int .i64 x.left.n, .int .i64 x.top.kind, .int .i64 x.top.n, .int .i64 x.right.kind, .int .i64 x.right.n, .int .i64 x.bottom.kind, .int .i64 x.bottom.n, .int .i64 x.start.kind, .int .i64 x.start.n, .int .i64 x.stop.kind, .int .i64 x.stop.n]) ∧ Mod (fun _ => False) w w' := by
  go_enter Try.func173, Try.ntmps173
  go_wp2_with fail
  refine (toValue_any x.left _).mono ?_
  rintro e w1 ⟨rfl, hm1⟩
  have hM1 : Mod (fun _ => False) w w1 := by (repeat (first | with_reducible exact Mod.refl _ _ | with_reducible refine Mod.drewN ?_ _ | with_reducible refine Mod.drew ?_ | with_reducible refine Mod.alloc ?_ _ | ((with_reducible refine Mod.setNew ?_ ?_ _ _ _); (rotate_left; omega)) | with_reducible refine Mod.setAt ?_ _ _ _ | with_reducible exact hm1 | with_reducible refine Mod.thenNone ?_ hm1 ))
  have hS1 := hm1.blk (al3a _ _ _ _) (fun f => f)
  have hR1 := hm1.blk (al3b _ _ _ _) (fun f => f)
  have hD1 := hm1.blk (al3c _ _ _ _) (fun f => f)
  have c1_2 := blk_cell hS1 (j := 2) rfl
  have c1_3 := blk_cell hS1 (j := 3) rfl
  have d1_0 := blk_cell hD1 (j := 0) rfl
  have d1_1 := blk_cell hD1 (j := 1) rfl
  have z1_0 := blk_free hD1 0
  have z1_1 := blk_free hD1 1
  have hr1_0 : w.heap.size < w1.heap.size := (Array.getElem?_eq_some_iff.1 hS1).1
  have hr1_1 : w.heap.size + 1 < w1.heap.size := (Array.getElem?_eq_some_iff.1 hR1).1
  have hr1_2 : w.heap.size + 1 + 1 < w1.heap.size := (Array.getElem?_eq_some_iff.1 hD1).1
  clear hm1
  go_wp2_with fail
  refine (toValue_any x.top _).mono ?_
  rintro e w2 ⟨rfl, hm2⟩
  have hM2 : Mod (fun _ => False) w w2 := by (repeat (first | with_reducible exact Mod.refl _ _ | with_reducible refine Mod.drewN ?_ _ | with_reducible refine Mod.drew ?_ | with_reducible refine Mod.alloc ?_ _ | ((with_reducible refine Mod.setNew ?_ ?_ _ _ _); (rotate_left; omega)) | with_reducible refine Mod.setAt ?_ _ _ _ | with_reducible exact hm2 | with_reducible refine Mod.thenNone ?_ hm2 | with_reducible exact hM1 | with_reducible refine Mod.thenNone ?_ hM1 ))
  have hS2 := hm2.blk (set_far (set_far hS1 (by omega)) (by omega)) (fun f => f)
  have hR2 := hm2.blk (set_far (set_far hR1 (by omega)) (by omega)) (fun f => f)
  have hD2 : w2.heap[w.heap.size + 1 + 1]? = some (.cells #[.int .i64 x.left.kind, .int .i64 x.left.n, .int .i64 0, .int .i64 0, .int .i64 0, .int .i64 0, .int .i64 0, .int .i64 0, .int .i64 0, .int .i64 0, .int .i64 0, .int .i64 0] 62 (0, 0)) := hm2.blk (set_in (set_in hD1)) (fun f => f)
  have c2_4 := blk_cell hS2 (j := 4) rfl
  have c2_5 := blk_cell hS2 (j := 5) rfl
  have d2_2 := blk_cell hD2 (j := 2) rfl
  have d2_3 := blk_cell hD2 (j := 3) rfl
  have z2_2 := blk_free hD2 2
  have z2_3 := blk_free hD2 3
  have hr2_0 : w.heap.size < w2.heap.size := (Array.getElem?_eq_some_iff.1 hS2).1
  have hr2_1 : w.heap.size + 1 < w2.heap.size := (Array.getElem?_eq_some_iff.1 hR2).1
  have hr2_2 : w.heap.size + 1 + 1 < w2.heap.size := (Array.getElem?_eq_some_iff.1 hD2).1
  clear hm2 hS1 hR1 hD1 hM1 hr1_0 hr1_1 hr1_2 c1_2 c1_3 d1_0 z1_0 d1_1 z1_1
  go_wp2_with fail
  refine (toValue_any x.right _).mono ?_
  rintro e w3 ⟨rfl, hm3⟩
  have hM3 : Mod (fun _ => False) w w3 := by (repeat (first | with_reducible exact Mod.refl _ _ | with_reducible refine Mod.drewN ?_ _ | with_reducible refine Mod.drew ?_ | with_reducible refine Mod.alloc ?_ _ | ((with_reducible refine Mod.setNew ?_ ?_ _ _ _); (rotate_left; omega)) | with_reducible refine Mod.setAt ?_ _ _ _ | with_reducible exact hm3 | with_reducible refine Mod.thenNone ?_ hm3 | with_reducible exact hM2 | with_reducible refine Mod.thenNone ?_ hM2 ))
  have hS3 := hm3.blk (set_far (set_far hS2 (by omega)) (by omega)) (fun f => f)
  have hR3 := hm3.blk (set_far (set_far hR2 (by omega)) (by omega)) (fun f => f)
  have hD3 : w3.heap[w.heap.size + 1 + 1]? = some (.cells #[.int .i64 x.left.kind, .int .i64 x.left.n, .int .i64 x.top.kind, .int .i64 x.top.n, .int .i64 0, .int .i64 0, .int .i64 0, .int .i64 0, .int .i64 0, .int .i64 0, .int .i64 0, .int .i64 0] 62 (0, 0)) := hm3.blk (set_in (set_in hD2)) (fun f => f)
  have c3_6 := blk_cell hS3 (j := 6) rfl
  have c3_7 := blk_cell hS3 (j := 7) rfl
  have d3_4 := blk_cell hD3 (j := 4) rfl
  have d3_5 := blk_cell hD3 (j := 5) rfl
  have z3_4 := blk_free hD3 4
  have z3_5 := blk_free hD3 5
  have hr3_0 : w.heap.size < w3.heap.size := (Array.getElem?_eq_some_iff.1 hS3).1
  have hr3_1 : w.heap.size + 1 < w3.heap.size := (Array.getElem?_eq_some_iff.1 hR3).1
  have hr3_2 : w.heap.size + 1 + 1 < w3.heap.size := (Array.getElem?_eq_some_iff.1 hD3).1
  clear hm3 hS2 hR2 hD2 hM2 hr2_0 hr2_1 hr2_2 c2_4 c2_5 d2_2 z2_2 d2_3 z2_3
  go_wp2_with fail
  refine (toValue_any x.bottom _).mono ?_
  rintro e w4 ⟨rfl, hm4⟩
  have hM4 : Mod (fun _ => False) w w4 := by (repeat (first | with_reducible exact Mod.refl _ _ | with_reducible refine Mod.drewN ?_ _ | with_reducible refine Mod.drew ?_ | with_reducible refine Mod.alloc ?_ _ | ((with_reducible refine Mod.setNew ?_ ?_ _ _ _); (rotate_left; omega)) | with_reducible refine Mod.setAt ?_ _ _ _ | with_reducible exact hm4 | with_reducible refine Mod.thenNone ?_ hm4 | with_reducible exact hM3 | with_reducible refine Mod.thenNone ?_ hM3 ))
  have hS4 := hm4.blk (set_far (set_far hS3 (by omega)) (by omega)) (fun f => f)
  have hR4 := hm4.blk (set_far (set_far hR3 (by omega)) (by omega)) (fun f => f)
  have hD4 : w4.heap[w.heap.size + 1 + 1]? = some (.cells #[.int .i64 x.left.kind, .int .i64 x.left.n, .int .i64 x.top.kind, .int .i64 x.top.n, .int .i64 x.right.kind, .int .i64 x.right.n, .int .i64 0, .int .i64 0, .int .i64 0, .int .i64 0, .int .i64 0, .int .i64 0] 62 (0, 0)) := hm4.blk (set_in (set_in hD3)) (fun f => f)
  have c4_8 := blk_cell hS4 (j := 8) rfl
  have c4_9 := blk_cell hS4 (j := 9) rfl
  have d4_6 := blk_cell hD4 (j := 6) rfl
  have d4_7 := blk_cell hD4 (j := 7) rfl
  have z4_6 := blk_free hD4 6
  have z4_7 := blk_free hD4 7
  have hr4_0 : w.heap.size < w4.heap.size := (Array.getElem?_eq_some_iff.1 hS4).1
  have hr4_1 : w.heap.size + 1 < w4.heap.size := (Array.getElem?_eq_some_iff.1 hR4).1
  have hr4_2 : w.heap.size + 1 + 1 < w4.heap.size := (Array.getElem?_eq_some_iff.1 hD4).1
  clear hm4 hS3 hR3 hD3 hM3 hr3_0 hr3_1 hr3_2 c3_6 c3_7 d3_4 z3_4 d3_5 z3_5
  go_wp2_with fail
  refine (toValue_any x.start _).mono ?_
  rintro e w5 ⟨rfl, hm5⟩
  have hM5 : Mod (fun _ => False) w w5 := by (repeat (first | with_reducible exact Mod.refl _ _ | with_reducible refine Mod.drewN ?_ _ | with_reducible refine Mod.drew ?_ | with_reducible refine Mod.alloc ?_ _ | ((with_reducible refine Mod.setNew ?_ ?_ _ _ _); (rotate_left; omega)) | with_reducible refine Mod.setAt ?_ _ _ _ | with_reducible exact hm5 | with_reducible refine Mod.thenNone ?_ hm5 | with_reducible exact hM4 | with_reducible refine Mod.thenNone ?_ hM4 ))
  have hS5 := hm5.blk (set_far (set_far hS4 (by omega)) (by omega)) (fun f => f)
  have hR5 := hm5.blk (set_far (set_far hR4 (by omega)) (by omega)) (fun f => f)
  have hD5 : w5.heap[w.heap.size + 1 + 1]? = some (.cells #[.int .i64 x.left.kind, .int .i64 x.left.n, .int .i64 x.top.kind, .int .i64 x.top.n, .int .i64 x.right.kind, .int .i64 x.right.n, .int .i64 x.bottom.kind, .int .i64 x.bottom.n, .int .i64 0, .int .i64 0, .int .i64 0, .int .i64 0] 62 (0, 0)) := hm5.blk (set_in (set_in hD4)) (fun f => f)
  have c5_10 := blk_cell hS5 (j := 10) rfl
  have c5_11 := blk_cell hS5 (j := 11) rfl
  have d5_8 := blk_cell hD5 (j := 8) rfl
  have d5_9 := blk_cell hD5 (j := 9) rfl
  have z5_8 := blk_free hD5 8
  have z5_9 := blk_free hD5 9
  have hr5_0 : w.heap.size < w5.heap.size := (Array.getElem?_eq_some_iff.1 hS5).1
  have hr5_1 : w.heap.size + 1 < w5.heap.size := (Array.getElem?_eq_some_iff.1 hR5).1
  have hr5_2 : w.heap.size + 1 + 1 < w5.heap.size := (Array.getElem?_eq_some_iff.1 hD5).1
  clear hm5 hS4 hR4 hD4 hM4 hr4_0 hr4_1 hr4_2 c4_8 c4_9 d4_6 z4_6 d4_7 z4_7
  go_wp2_with fail
  refine (toValue_any x.stop _).mono ?_
  rintro e w6 ⟨rfl, hm6⟩
  have hM6 : Mod (fun _ => False) w w6 := by (repeat (first | with_reducible exact Mod.refl _ _ | with_reducible refine Mod.drewN ?_ _ | with_reducible refine Mod.drew ?_ | with_reducible refine Mod.alloc ?_ _ | ((with_reducible refine Mod.setNew ?_ ?_ _ _ _); (rotate_left; omega)) | with_reducible refine Mod.setAt ?_ _ _ _ | with_reducible exact hm6 | with_reducible refine Mod.thenNone ?_ hm6 | with_reducible exact hM5 | with_reducible refine Mod.thenNone ?_ hM5 ))
  have hS6 := hm6.blk (set_far (set_far hS5 (by omega)) (by omega)) (fun f => f)
  have hR6 := hm6.blk (set_far (set_far hR5 (by omega)) (by omega)) (fun f => f)
  have hD6 : w6.heap[w.heap.size + 1 + 1]? = some (.cells #[.int .i64 x.left.kind, .int .i64 x.left.n, .int .i64 x.top.kind, .int .i64 x.top.n, .int .i64 x.right.kind, .int .i64 x.right.n, .int .i64 x.bottom.kind, .int .i64 x.bottom.n, .int .i64 x.start.kind, .int .i64 x.start.n, .int .i64 0, .int .i64 0] 62 (0, 0)) := hm6.blk (set_in (set_in hD5)) (fun f => f)
  have d6_0 := blk_cell hD6 (j := 0) rfl
  have d6_1 := blk_cell hD6 (j := 1) rfl
  have d6_2 := blk_cell hD6 (j := 2) rfl
  have d6_3 := blk_cell hD6 (j := 3) rfl
  have d6_4 := blk_cell hD6 (j := 4) rfl
  have d6_5 := blk_cell hD6 (j := 5) rfl
  have d6_6 := blk_cell hD6 (j := 6) rfl
  have d6_7 := blk_cell hD6 (j := 7) rfl
  have d6_8 := blk_cell hD6 (j := 8) rfl
  have d6_9 := blk_cell hD6 (j := 9) rfl
  have d6_10 := blk_cell hD6 (j := 10) rfl
  have d6_11 := blk_cell hD6 (j := 11) rfl
  have z6_10 := blk_free hD6 10
  have z6_11 := blk_free hD6 11
  have r6_0 := blk_cell hR6 (j := 0) rfl
  have y6_0 := blk_free hR6 0
  have r6_1 := blk_cell hR6 (j := 1) rfl
  have y6_1 := blk_free hR6 1
  have r6_2 := blk_cell hR6 (j := 2) rfl
  have y6_2 := blk_free hR6 2
  have r6_3 := blk_cell hR6 (j := 3) rfl
  have y6_3 := blk_free hR6 3
  have r6_4 := blk_cell hR6 (j := 4) rfl
  have y6_4 := blk_free hR6 4
  have r6_5 := blk_cell hR6 (j := 5) rfl
  have y6_5 := blk_free hR6 5
  have r6_6 := blk_cell hR6 (j := 6) rfl
  have y6_6 := blk_free hR6 6
  have r6_7 := blk_cell hR6 (j := 7) rfl
  have y6_7 := blk_free hR6 7
  have r6_8 := blk_cell hR6 (j := 8) rfl
  have y6_8 := blk_free hR6 8
  have r6_9 := blk_cell hR6 (j := 9) rfl
  have y6_9 := blk_free hR6 9
  have r6_10 := blk_cell hR6 (j := 10) rfl
  have y6_10 := blk_free hR6 10
  have r6_11 := blk_cell hR6 (j := 11) rfl
  have y6_11 := blk_free hR6 11
  have hr6_0 : w.heap.size < w6.heap.size := (Array.getElem?_eq_some_iff.1 hS6).1
  have hr6_1 : w.heap.size + 1 < w6.heap.size := (Array.getElem?_eq_some_iff.1 hR6).1
  have hr6_2 : w.heap.size + 1 + 1 < w6.heap.size := (Array.getElem?_eq_some_iff.1 hD6).1
  clear hm6 hS5 hR5 hD5 hM5 hr5_0 hr5_1 hr5_2 c5_10 c5_11 d5_8 z5_8 d5_9 z5_9
  clear hS6 hR6 hD6
  go_wp2
  refine bodyPost_ret (v := .agg #[.int .i64 x.left.kind, .int .i64 x.left.n, .int .i64 x.top.kind, .int .i64 x.top.n, .int .i64 x.right.kind, .int .i64 x.right.n, .int .i64 x.bottom.kind, .int .i64 x.bottom.n, .int .i64 x.start.kind, .int .i64 x.start.n, .int .i64 x.stop.kind, .int .i64 x.stop.n]) ?_ rfl ⟨rfl, ?_⟩
  · simp [results, Try.results173, go_sem, *]
  · (repeat (first | with_reducible exact Mod.refl _ _ | with_reducible refine Mod.drewN ?_ _ | with_reducible refine Mod.drew ?_ | with_reducible refine Mod.alloc ?_ _ | ((with_reducible refine Mod.setNew ?_ ?_ _ _ _); (rotate_left; omega)) | with_reducible refine Mod.setAt ?_ _ _ _ | with_reducible exact hM6 | with_reducible refine Mod.thenNone ?_ hM6 ))

set_option maxRecDepth 100000 in
set_option maxHeartbeats 8000000 in
theorem eqSides_same (x : Sides) (w : World) : Calls Try.prog 177 #[.agg #[.int .i64 x.left.kind, .int .i64 x.left.n, .int .i64 x.top.kind, .int .i64 x.top.n, .int .i64 x.right.kind, .int .i64 x.right.n, .int .i64 x.bottom.kind, .int .i64 x.bottom.n, .int .i64 x.start.kind, .int .i64 x.start.n, .int .i64 x.stop.kind, .int .i64 x.stop.n], .agg #[.int .i64 x.left.kind, .int .i64 x.left.n, .int .i64 x.top.kind, .int .i64 x.top.n, .int .i64 x.right.kind, .int .i64 x.right.n, .int .i64 x.bottom.kind, .int .i64 x.bottom.n, .int .i64 x.start.kind, .int .i64 x.start.n, .int .i64 x.stop.kind, .int .i64 x.stop.n]] w fun e w' => e = .returned (.bool true) ∧ Mod (fun _ => False) w w' := by
  go_enter Try.func177, Try.ntmps177
  go_wp2_with fail
  refine (eqValue_any x.left x.left _).mono ?_
  rintro e w1 ⟨rfl, hm1⟩
  rw [decide_eq_true rfl]
  have hM1 : Mod (fun _ => False) w w1 := by (repeat (first | with_reducible exact Mod.refl _ _ | with_reducible refine Mod.drewN ?_ _ | with_reducible refine Mod.drew ?_ | with_reducible refine Mod.alloc ?_ _ | ((with_reducible refine Mod.setNew ?_ ?_ _ _ _); (rotate_left; omega)) | with_reducible refine Mod.setAt ?_ _ _ _ | with_reducible exact hm1 | with_reducible refine Mod.thenNone ?_ hm1 ))
  have hA1 := hm1.blk (al2a _ _ _) (fun f => f)
  have hB1 := hm1.blk (al2b _ _ _) (fun f => f)
  have c1_2 := blk_cell hA1 (j := 2) rfl
  have d1_2 := blk_cell hB1 (j := 2) rfl
  have c1_3 := blk_cell hA1 (j := 3) rfl
  have d1_3 := blk_cell hB1 (j := 3) rfl
  have hr1_0 : w.heap.size < w1.heap.size := (Array.getElem?_eq_some_iff.1 hA1).1
  have hr1_1 : w.heap.size + 1 < w1.heap.size := (Array.getElem?_eq_some_iff.1 hB1).1
  clear hm1
  go_wp2_with fail
  refine (eqValue_any x.top x.top _).mono ?_
  rintro e w2 ⟨rfl, hm2⟩
  rw [decide_eq_true rfl]
  have hM2 : Mod (fun _ => False) w w2 := hM1.thenNone hm2
  have hA2 := hm2.blk hA1 (fun f => f)
  have hB2 := hm2.blk hB1 (fun f => f)
  have c2_4 := blk_cell hA2 (j := 4) rfl
  have d2_4 := blk_cell hB2 (j := 4) rfl
  have c2_5 := blk_cell hA2 (j := 5) rfl
  have d2_5 := blk_cell hB2 (j := 5) rfl
  have hr2_0 : w.heap.size < w2.heap.size := (Array.getElem?_eq_some_iff.1 hA2).1
  have hr2_1 : w.heap.size + 1 < w2.heap.size := (Array.getElem?_eq_some_iff.1 hB2).1
  clear hm2 hA1 hB1 hM1 hr1_0 hr1_1 c1_2 d1_2 c1_3 d1_3
  go_wp2_with fail
  refine (eqValue_any x.right x.right _).mono ?_
  rintro e w3 ⟨rfl, hm3⟩
  rw [decide_eq_true rfl]
  have hM3 : Mod (fun _ => False) w w3 := hM2.thenNone hm3
  have hA3 := hm3.blk hA2 (fun f => f)
  have hB3 := hm3.blk hB2 (fun f => f)
  have c3_6 := blk_cell hA3 (j := 6) rfl
  have d3_6 := blk_cell hB3 (j := 6) rfl
  have c3_7 := blk_cell hA3 (j := 7) rfl
  have d3_7 := blk_cell hB3 (j := 7) rfl
  have hr3_0 : w.heap.size < w3.heap.size := (Array.getElem?_eq_some_iff.1 hA3).1
  have hr3_1 : w.heap.size + 1 < w3.heap.size := (Array.getElem?_eq_some_iff.1 hB3).1
  clear hm3 hA2 hB2 hM2 hr2_0 hr2_1 c2_4 d2_4 c2_5 d2_5
  go_wp2_with fail
  refine (eqValue_any x.bottom x.bottom _).mono ?_
  rintro e w4 ⟨rfl, hm4⟩
  rw [decide_eq_true rfl]
  have hM4 : Mod (fun _ => False) w w4 := hM3.thenNone hm4
  have hA4 := hm4.blk hA3 (fun f => f)
  have hB4 := hm4.blk hB3 (fun f => f)
  have c4_8 := blk_cell hA4 (j := 8) rfl
  have d4_8 := blk_cell hB4 (j := 8) rfl
  have c4_9 := blk_cell hA4 (j := 9) rfl
  have d4_9 := blk_cell hB4 (j := 9) rfl
  have hr4_0 : w.heap.size < w4.heap.size := (Array.getElem?_eq_some_iff.1 hA4).1
  have hr4_1 : w.heap.size + 1 < w4.heap.size := (Array.getElem?_eq_some_iff.1 hB4).1
  clear hm4 hA3 hB3 hM3 hr3_0 hr3_1 c3_6 d3_6 c3_7 d3_7
  go_wp2_with fail
  refine (eqValue_any x.start x.start _).mono ?_
  rintro e w5 ⟨rfl, hm5⟩
  rw [decide_eq_true rfl]
  have hM5 : Mod (fun _ => False) w w5 := hM4.thenNone hm5
  have hA5 := hm5.blk hA4 (fun f => f)
  have hB5 := hm5.blk hB4 (fun f => f)
  have c5_10 := blk_cell hA5 (j := 10) rfl
  have d5_10 := blk_cell hB5 (j := 10) rfl
  have c5_11 := blk_cell hA5 (j := 11) rfl
  have d5_11 := blk_cell hB5 (j := 11) rfl
  have hr5_0 : w.heap.size < w5.heap.size := (Array.getElem?_eq_some_iff.1 hA5).1
  have hr5_1 : w.heap.size + 1 < w5.heap.size := (Array.getElem?_eq_some_iff.1 hB5).1
  clear hm5 hA4 hB4 hM4 hr4_0 hr4_1 c4_8 d4_8 c4_9 d4_9
  go_wp2_with fail
  refine (eqValue_any x.stop x.stop _).mono ?_
  rintro e w6 ⟨rfl, hm6⟩
  rw [decide_eq_true rfl]
  have hM6 : Mod (fun _ => False) w w6 := hM5.thenNone hm6
  have hA6 := hm6.blk hA5 (fun f => f)
  have hB6 := hm6.blk hB5 (fun f => f)
  have hr6_0 : w.heap.size < w6.heap.size := (Array.getElem?_eq_some_iff.1 hA6).1
  have hr6_1 : w.heap.size + 1 < w6.heap.size := (Array.getElem?_eq_some_iff.1 hB6).1
  clear hm6 hA5 hB5 hM5 hr5_0 hr5_1 c5_10 d5_10 c5_11 d5_11
  clear hA6 hB6
  go_wp2
  go_ret
  exact ⟨rfl, hM6⟩

structure Edges where
  left : Int
  top : Int
  right : Int
  bottom : Int
  deriving DecidableEq, Inhabited
def Edges.cells (x : Edges) : List Value := [.int .i64 x.left, .int .i64 x.top, .int .i64 x.right, .int .i64 x.bottom]

set_option maxRecDepth 100000 in
set_option maxHeartbeats 8000000 in
theorem toEdges_any (x : Edges) (w : World) : Calls Try.prog 174 #[.agg #[.int .i64 x.left, .int .i64 x.top, .int .i64 x.right, .int .i64 x.bottom]] w fun e w' => e = .returned (.agg #[.int .i64 x.left, .int .i64 x.top, .int .i64 x.right, .int .i64 x.bottom]) ∧ Mod (fun _ => False) w w' := by
  go_enter Try.func174, Try.ntmps174
  go_wp2
  refine bodyPost_ret (v := .agg #[.int .i64 x.left, .int .i64 x.top, .int .i64 x.right, .int .i64 x.bottom]) (by simp [results, Try.results174, go_sem]) rfl ⟨rfl, by (repeat (first | with_reducible exact Mod.refl _ _ | with_reducible refine Mod.drewN ?_ _ | with_reducible refine Mod.drew ?_ | with_reducible refine Mod.alloc ?_ _ | ((with_reducible refine Mod.setNew ?_ ?_ _ _ _); (rotate_left; omega)) | with_reducible refine Mod.setAt ?_ _ _ _ ))⟩

set_option maxRecDepth 100000 in
set_option maxHeartbeats 8000000 in
theorem eqEdges_same (x : Edges) (w : World) : Calls Try.prog 178 #[.agg #[.int .i64 x.left, .int .i64 x.top, .int .i64 x.right, .int .i64 x.bottom], .agg #[.int .i64 x.left, .int .i64 x.top, .int .i64 x.right, .int .i64 x.bottom]] w fun e w' => e = .returned (.bool true) ∧ Mod (fun _ => False) w w' := by
  go_enter Try.func178, Try.ntmps178
  go_wp2
  go_ret
  exact ⟨rfl, by (repeat (first | with_reducible exact Mod.refl _ _ | with_reducible refine Mod.drewN ?_ _ | with_reducible refine Mod.drew ?_ | with_reducible refine Mod.alloc ?_ _ | ((with_reducible refine Mod.setNew ?_ ?_ _ _ _); (rotate_left; omega)) | with_reducible refine Mod.setAt ?_ _ _ _ ))⟩

structure Style where
  dir : Int
  wrap : Int
  justify : Int
  items : Int
  self : Int
  content : Int
  apart : Bool
  hidden : Bool
  order : Int
  grow : Int
  shrink : Int
  basis : Val
  width : Val
  height : Val
  minWidth : Val
  minHeight : Val
  maxWidth : Val
  maxHeight : Val
  ratio : Int
  margin : Sides
  inset : Sides
  pad : Edges
  border : Edges
  rowGap : Int
  colGap : Int
  deriving DecidableEq, Inhabited
def Style.cells (x : Style) : List Value := [.int .i64 x.dir, .int .i64 x.wrap, .int .i64 x.justify, .int .i64 x.items, .int .i64 x.self, .int .i64 x.content, .bool x.apart, .bool x.hidden, .int .i64 x.order, .int .i64 x.grow, .int .i64 x.shrink, .int .i64 x.basis.kind, .int .i64 x.basis.n, .int .i64 x.width.kind, .int .i64 x.width.n, .int .i64 x.height.kind, .int .i64 x.height.n, .int .i64 x.minWidth.kind, .int .i64 x.minWidth.n, .int .i64 x.minHeight.kind, .int .i64 x.minHeight.n, .int .i64 x.maxWidth.kind, .int .i64 x.maxWidth.n, .int .i64 x.maxHeight.kind, .int .i64 x.maxHeight.n, .int .i64 x.ratio, .int .i64 x.margin.left.kind, .int .i64 x.margin.left.n, .int .i64 x.margin.top.kind, .int .i64 x.margin.top.n, .int .i64 x.margin.right.kind, .int .i64 x.margin.right.n, .int .i64 x.margin.bottom.kind, .int .i64 x.margin.bottom.n, .int .i64 x.margin.start.kind, .int .i64 x.margin.start.n, .int .i64 x.margin.stop.kind, .int .i64 x.margin.stop.n, .int .i64 x.inset.left.kind, .int .i64 x.inset.left.n, .int .i64 x.inset.top.kind, .int .i64 x.inset.top.n, .int .i64 x.inset.right.kind, .int .i64 x.inset.right.n, .int .i64 x.inset.bottom.kind, .int .i64 x.inset.bottom.n, .int .i64 x.inset.start.kind, .int .i64 x.inset.start.n, .int .i64 x.inset.stop.kind, .int .i64 x.inset.stop.n, .int .i64 x.pad.left, .int .i64 x.pad.top, .int .i64 x.pad.right, .int .i64 x.pad.bottom, .int .i64 x.border.left, .int .i64 x.border.top, .int .i64 x.border.right, .int .i64 x.border.bottom, .int .i64 x.rowGap, .int .i64 x.colGap]

end Go.Proofs.Ythffgbhphjkdeaa
namespace Go.Proofs.Ythffgbhphjkdeaa
open Go.RowKit

/-- The n cells from place o of block b on. -/
def rowOf (w : World) (b o n : Nat) : Array Value :=
  match w.heap[b]? with
  | some (.cells cs _ _) => cs.extract o (o + n)
  | _ => #[]
/-- They are there. -/
def hasRow (w : World) (b o n : Nat) : Bool :=
  match w.heap[b]? with
  | some (.cells cs _ _) => decide (o + n ≤ cs.size)
  | _ => false
/-- The block may be written. -/
def openRow (w : World) (b : Nat) : Bool :=
  match w.heap[b]? with
  | some (.cells _ _ fr) => fr == (0, 0)
  | _ => false

section
variable {w : World}
@[simp] theorem rowOf_drew (b o n : Nat) : rowOf w.drew b o n = rowOf w b o n := rfl
@[simp] theorem rowOf_drewN (k b o n : Nat) : rowOf (w.drewN k) b o n = rowOf w b o n := rfl
@[simp] theorem hasRow_drew (b o n : Nat) : hasRow w.drew b o n = hasRow w b o n := rfl
@[simp] theorem hasRow_drewN (k b o n : Nat) : hasRow (w.drewN k) b o n = hasRow w b o n := rfl
@[simp] theorem openRow_drew (b : Nat) : openRow w.drew b = openRow w b := rfl
@[simp] theorem openRow_drewN (k b : Nat) : openRow (w.drewN k) b = openRow w b := rfl

theorem rowOf_of {w w' : World} {b : Nat} (h : w'.heap[b]? = w.heap[b]?) (o n : Nat) : rowOf w' b o n = rowOf w b o n := by unfold rowOf; rw [h]
theorem hasRow_of {w w' : World} {b : Nat} (h : w'.heap[b]? = w.heap[b]?) (o n : Nat) : hasRow w' b o n = hasRow w b o n := by unfold hasRow; rw [h]
theorem openRow_of {w w' : World} {b : Nat} (h : w'.heap[b]? = w.heap[b]?) : openRow w' b = openRow w b := by unfold openRow; rw [h]

@[go_sem] theorem rowOf_alloc_at (c : Array Value) (t : TypeId) (b o n : Nat) (h : b = w.heap.size) : rowOf (w.alloc (.cells c t)) b o n = c.extract o (o + n) := by
  subst h; unfold rowOf; rw [heap_alloc_new]
@[go_sem] theorem hasRow_alloc_at (c : Array Value) (t : TypeId) (b o n : Nat) (h : b = w.heap.size) : hasRow (w.alloc (.cells c t)) b o n = decide (o + n ≤ c.size) := by
  subst h; unfold hasRow; rw [heap_alloc_new]
@[go_sem] theorem openRow_alloc_at (c : Array Value) (t : TypeId) (b : Nat) (h : b = w.heap.size) : openRow (w.alloc (.cells c t)) b = true := by
  subst h; unfold openRow; rw [heap_alloc_new]; rfl
@[go_sem] theorem rowOf_alloc_past (ob : Obj) (b o n : Nat) (h : b < w.heap.size) : rowOf (w.alloc ob) b o n = rowOf w b o n := rowOf_of (heap_alloc_old _ _ h) o n
@[go_sem] theorem hasRow_alloc_past (ob : Obj) (b o n : Nat) (h : b < w.heap.size) : hasRow (w.alloc ob) b o n = hasRow w b o n := hasRow_of (heap_alloc_old _ _ h) o n
@[go_sem] theorem openRow_alloc_past (ob : Obj) (b : Nat) (h : b < w.heap.size) : openRow (w.alloc ob) b = openRow w b := openRow_of (heap_alloc_old _ _ h)
@[go_sem] theorem rowOf_setCell (b o n b' j : Nat) (s : Option Nat) (v : Value) (h : b ≠ b') : rowOf (w.setCell ⟨b', j, s⟩ v) b o n = rowOf w b o n := rowOf_of (Below.heap_setCell _ _ _ _ h) o n
@[go_sem] theorem hasRow_setCell (b o n b' j : Nat) (s : Option Nat) (v : Value) : hasRow (w.setCell ⟨b', j, s⟩ v) b o n = hasRow w b o n := by
  by_cases h : b = b'
  · subst h
    unfold hasRow
    cases hb : w.heap[b]? with
    | none => simp [World.setCell, Array.getElem?_modify, hb]
    | some ob => cases ob <;> cases s <;> simp [World.setCell, Array.getElem?_modify, hb]
  · exact hasRow_of (Below.heap_setCell _ _ _ _ h) o n
@[go_sem] theorem openRow_setCell (b b' j : Nat) (s : Option Nat) (v : Value) : openRow (w.setCell ⟨b', j, s⟩ v) b = openRow w b := by
  by_cases h : b = b'
  · subst h
    unfold openRow
    cases hb : w.heap[b]? with
    | none => simp [World.setCell, Array.getElem?_modify, hb]
    | some ob => cases ob <;> simp [World.setCell, Array.getElem?_modify, hb]
  · exact openRow_of (Below.heap_setCell _ _ _ _ h)
/-- A cell of a row, written. -/
@[go_sem] theorem rowOf_setCell_in (b o n j : Nat) (v : Value) (h1 : o ≤ j) (h2 : j < o + n) : rowOf (w.setCell ⟨b, j, none⟩ v) b o n = (rowOf w b o n).setIfInBounds (j - o) v := by
  unfold rowOf
  cases hb : w.heap[b]? with
  | none => simp [World.setCell, Array.getElem?_modify, hb]
  | some ob =>
    cases ob with
    | cells cs t fr =>
      simp only [World.setCell, Array.getElem?_modify, hb]
      apply Array.ext_getElem?
      intro i
      simp only [if_true, Option.map_some, Option.isSome_none, Bool.false_eq_true, if_false, Array.getElem?_extract, Array.getElem?_setIfInBounds, Array.size_extract, Array.size_setIfInBounds]
      repeat' split
      all_goals first | rfl | omega | (exfalso; omega) | (rw [Array.getElem?_eq_none (by omega)]) | (symm; rw [Array.getElem?_eq_none (by omega)])
    | _ => simp [World.setCell, Array.getElem?_modify, hb]

theorem cell_of_rowOf {b o n : Nat} (h : hasRow w b o n = true) {j : Nat} (hj : j < n) : w.cell? ⟨b, o + j, none⟩ = (rowOf w b o n)[j]? := by
  unfold hasRow at h; unfold rowOf World.cell?
  cases hb : w.heap[b]? with
  | none => simp [hb] at h
  | some ob =>
    cases ob with
    | cells cs t fr =>
      simp only [hb, decide_eq_true_eq] at h
      simp only [Option.isSome_none, Bool.false_eq_true, if_false, Array.getElem?_extract]
      rw [if_pos (by omega)]
    | _ => simp [hb] at h
theorem rowOf_range {b o n : Nat} (h : hasRow w b o n = true) : w.rangeAt b o (rowOf w b o n).toList ∧ (rowOf w b o n).size = n := by
  have hs : (rowOf w b o n).size = n := by
    unfold hasRow at h; unfold rowOf
    cases hb : w.heap[b]? with
    | none => simp [hb] at h
    | some ob => cases ob <;> simp [hb] at h ⊢; omega
  refine ⟨fun j v hj => ?_, hs⟩
  have hjn : j < n := by
    have := (List.getElem?_eq_some_iff.1 hj).1
    simpa [hs] using this
  rw [cell_of_rowOf h hjn]
  simpa using hj
/-- A row that is told cell by cell is told as one. -/
theorem rowOf_told {b o : Nat} {r : List Value} (hn : 0 < r.length) (h : ∀ j v, r[j]? = some v → w.cell? ⟨b, o + j, none⟩ = some v) : hasRow w b o r.length = true ∧ rowOf w b o r.length = r.toArray := by
  have hl := h (r.length - 1) _ (List.getElem?_eq_getElem (by omega))
  unfold World.cell? at hl
  cases hb : w.heap[b]? with
  | none => simp [hb] at hl
  | some ob =>
    cases ob with
    | cells cs t fr =>
      have hsz : o + r.length ≤ cs.size := by
        simp only [hb] at hl
        have : o + (r.length - 1) < cs.size := by
          by_cases hlt : o + (r.length - 1) < cs.size
          · exact hlt
          · simp [Array.getElem?_eq_none (Nat.le_of_not_lt hlt)] at hl
        omega
      refine ⟨by simp [hasRow, hb, hsz], ?_⟩
      apply Array.ext_getElem?
      intro j
      unfold rowOf
      rw [hb]
      simp only [Array.getElem?_extract, List.getElem?_toArray]
      by_cases hj : j < r.length
      · have e1 := List.getElem?_eq_getElem hj
        have h1 := h j _ e1
        simp only [World.cell?, hb] at h1
        rw [if_pos (by omega), e1]
        simpa using h1
      · rw [if_neg (by omega), List.getElem?_eq_none (by omega)]
    | _ => simp [hb] at hl

theorem run_load_row {P : Program} {ty : TypeId} {d : TypeDesc} {n : Nat} (hu : P.underlying ty = some d) (hd : d.isRow = true) (hi : (P.info? ty).map (·.size) = some n) {b o : Nat} (h : hasRow w b o n = true) :
    (Instr.loadAt ty (.pointer (some ⟨b, o, none⟩))).run P w = .ok (.agg (rowOf w b o n)) w := by
  obtain ⟨h1, h2⟩ := rowOf_range h
  rw [run_loadAt_mid w b o ty _ d h1 hu hd (by rw [hi]; simp [h2])]

theorem run_store_row {P : Program} {ty : TypeId} {n : Nat} (hi : (P.info? ty).map (·.size) = some n) {b o : Nat} {S : Array Value} (h : hasRow w b o n = true) (hz : openRow w b = true) (hs : S.size = n) (h1 : S.all (·.oneCell') = true) :
    (Instr.storeAt ty (.pointer (some ⟨b, o, none⟩)) (.agg S)).run P w = .ok () (w.setCells b o S.toList) := by
  refine run_storeAt_mid w b o ty S (fun j hj => ?_) (by rw [hi, hs]) h1
  rw [hs] at hj
  obtain ⟨h2, h3⟩ := rowOf_range h
  refine ⟨?_, ?_⟩
  · rw [cell_of_rowOf h hj]
    simp [Array.getElem?_eq_getElem (show j < (rowOf w b o n).size by omega)]
  · unfold openRow at hz
    unfold World.frozen?
    cases hb : w.heap[b]? with
    | none => simp [hb] at hz
    | some ob => cases ob <;> simp [hb] at hz ⊢; simp [hz]
end

/-- An array with a list written over it from a place on. -/
def spl (c : Array Value) : Nat → List Value → Array Value
  | _, [] => c
  | o, v :: r => spl (c.setIfInBounds o v) (o + 1) r
@[simp] theorem spl_nil (c : Array Value) (o : Nat) : spl c o [] = c := rfl
@[simp] theorem spl_cons (c : Array Value) (o : Nat) (v : Value) (r : List Value) : spl c o (v :: r) = spl (c.setIfInBounds o v) (o + 1) r := rfl
@[simp] theorem spl_size (c : Array Value) (o : Nat) (r : List Value) : (spl c o r).size = c.size := by
  induction r generalizing c o with
  | nil => rfl
  | cons v r ih => simp [ih]

theorem setCells_heap (b : Nat) : ∀ (r : List Value) (o : Nat) (w : World) (c : Array Value) (t : TypeId) (fr : Nat × Nat), w.heap[b]? = some (.cells c t fr) → (w.setCells b o r).heap[b]? = some (.cells (spl c o r) t fr)
  | [], _, _, _, _, _, h => h
  | v :: r, o, w, c, t, fr, h => by
    refine setCells_heap b r (o + 1) _ _ t fr ?_
    simp [World.setCell, Array.getElem?_modify, h]
theorem setCells_far {g : Nat} (b : Nat) (h : g ≠ b) : ∀ (r : List Value) (o : Nat) (w : World), (w.setCells b o r).heap[g]? = w.heap[g]?
  | [], _, _ => rfl
  | v :: r, o, w => (setCells_far b h r (o + 1) _).trans (Below.heap_setCell _ _ _ _ h)
@[simp] theorem setCells_size (b : Nat) : ∀ (r : List Value) (o : Nat) (w : World), (w.setCells b o r).heap.size = w.heap.size
  | [], _, _ => rfl
  | v :: r, o, w => (setCells_size b r (o + 1) _).trans (World.size_setCell _ _ _)

section
variable {w : World}
@[go_sem] theorem setCells_alloc_at (c : Array Value) (t : TypeId) (n o : Nat) (r : List Value) (hn : n = w.heap.size) : (w.alloc (.cells c t)).setCells n o r = w.alloc (.cells (spl c o r) t) := by
  induction r generalizing c o with
  | nil => rfl
  | cons v r ih =>
    show ((w.alloc (.cells c t)).setCell ⟨n, o, none⟩ v).setCells n (o + 1) r = _
    rw [World.setCell_alloc_at c t n o v hn, ih]
    rfl
@[go_sem] theorem setCells_alloc_past (ob : Obj) (n o : Nat) (r : List Value) (hn : n < w.heap.size) : (w.alloc ob).setCells n o r = (w.setCells n o r).alloc ob := by
  induction r generalizing w o with
  | nil => rfl
  | cons v r ih =>
    show ((w.alloc ob).setCell ⟨n, o, none⟩ v).setCells n (o + 1) r = _
    rw [World.setCell_alloc_past ob n o v hn, ih (o + 1) (by simpa using hn)]
    rfl
@[go_sem] theorem setCells_drew (n o : Nat) (r : List Value) : w.drew.setCells n o r = (w.setCells n o r).drew := by
  induction r generalizing w o with
  | nil => rfl
  | cons v r ih => exact ih (w := w.setCell ⟨n, o, none⟩ v) (o + 1)
@[go_sem] theorem cell_setCells (b o n j : Nat) (r : List Value) (h : n ≠ b) : (w.setCells b o r).cell? ⟨n, j, none⟩ = w.cell? ⟨n, j, none⟩ := World.cell?_of_block (setCells_far b h r o w)
@[go_sem] theorem frozen_setCells (b o : Nat) (r : List Value) (x : Addr) : (w.setCells b o r).frozen? x = w.frozen? x := World.frozen?_setCells b r o w x
@[go_sem] theorem rowOf_setCells (b o n b' p : Nat) (r : List Value) (h : b ≠ b') : rowOf (w.setCells b' p r) b o n = rowOf w b o n := rowOf_of (setCells_far b' h r p w) o n
@[go_sem] theorem hasRow_setCells (b o n b' p : Nat) (r : List Value) : hasRow (w.setCells b' p r) b o n = hasRow w b o n := by
  induction r generalizing w p with
  | nil => rfl
  | cons v r ih => exact (ih (p + 1)).trans (hasRow_setCell ..)
@[go_sem] theorem openRow_setCells (b b' p : Nat) (r : List Value) : openRow (w.setCells b' p r) b = openRow w b := by
  induction r generalizing w p with
  | nil => rfl
  | cons v r ih => exact (ih (p + 1)).trans (openRow_setCell ..)
/-- A cell before or behind what was written. -/
theorem cell_setCells_apart (b o j : Nat) (r : List Value) (h : j < o ∨ o + r.length ≤ j) : (w.setCells b o r).cell? ⟨b, j, none⟩ = w.cell? ⟨b, j, none⟩ := by
  rw [World.cell?_setCells_out b r o w ⟨b, j, none⟩ (fun _ _ => h)]
end
theorem Mod.setCells {R : Nat → Prop} {a w : World} (h : Mod R a w) {b : Nat} (hb : b < w.heap.size → R b ∨ a.heap.size ≤ b) (o : Nat) (r : List Value) : Mod R a (w.setCells b o r) := by
  induction r generalizing w o with
  | nil => exact h
  | cons v r ih => exact ih (Mod.setCell h (p := ⟨b, o, none⟩) hb v) (by simpa using hb) (o + 1)
theorem Mod.setCellsNew {R : Nat → Prop} {g : Nat} {a w : World} (h : Mod R a w) (hg : a.heap.size ≤ g) (o : Nat) (r : List Value) : Mod R a (w.setCells g o r) := h.setCells (fun _ => .inr hg) o r

/-- A whole load, a whole store, a comparison, as the walk meets them: opened by rules of their own type alone. -/
def LoadS (P : Program) (t : TypeId) (v : Value) (w : World) : Result Next := (do let u ← Instr.loadAt t v; pure (Next.value u) : Sem Next).run P w
def StoreS (P : Program) (t : TypeId) (v u : Value) (w : World) : Result Next := (do Instr.storeAt t v u; pure Next.skip : Sem Next).run P w
theorem LoadS_row {P : Program} {t : TypeId} {d : TypeDesc} {n : Nat} (hu : P.underlying t = some d) (hd : d.isRow = true) (hi : (P.info? t).map (·.size) = some n) {w : World} {b o : Nat} (h : hasRow w b o n = true) :
    LoadS P t (.pointer (some ⟨b, o, none⟩)) w = .ok (.value (.agg (rowOf w b o n))) w := by
  unfold LoadS
  rw [Sem.run_bind, run_load_row hu hd hi h]
  rfl
theorem StoreS_row {P : Program} {t : TypeId} {n : Nat} (hi : (P.info? t).map (·.size) = some n) {w : World} {b o : Nat} {S : Array Value} (h : hasRow w b o n = true) (hz : openRow w b = true) (hs : S.size = n) (h1 : S.all (·.oneCell') = true) :
    StoreS P t (.pointer (some ⟨b, o, none⟩)) (.agg S) w = .ok .skip (w.setCells b o S.toList) := by
  unfold StoreS
  rw [Sem.run_bind, run_store_row hi h hz hs h1]
  rfl

/-- A result that lies in a row just written. -/
theorem range_setCells {w : World} {b o : Nat} {r : List Value} (h : hasRow w b o r.length = true) : (w.setCells b o r).rangeAt b o r := by
  intro j v hj
  obtain ⟨hlt, e⟩ := List.getElem?_eq_some_iff.1 hj
  rw [World.cell?_setCells_in b r o w (fun i hi => ?_) j hlt, e]
  rw [cell_of_rowOf h hi]
  have hs := (rowOf_range h).2
  simp [hs, hi]
theorem results_row {P : Program} {fn : Func} {a : Tmp} {ty : TypeId} {d : TypeDesc} {tmps : Array Value} {w : World} {b : Nat} {r : List Value} (hr : fn.results = #[.cell a ty]) (ht : tmps.getD a undef = .pointer (some ⟨b, 0, none⟩))
    (hu : P.underlying ty = some d) (hd : d.isRow = true) (hi : (P.info? ty).map (·.size) = some r.length) (hc : w.rangeAt b 0 r) : (results fn tmps).run P w = .ok (.agg r.toArray) w := by
  have h1 := run_loadVar_mid w b 0 ty r d hc hu hd hi
  have e : (match ResultVar.cell a ty with | .tmp t => (pure (tmps.getD t undef) : Sem Value) | .cell a t => (do loadVar t (← asAddr (tmps.getD a undef)) : Sem Value)) = loadVar ty ⟨b, 0, none⟩ := by
    simp only [ht]
    rfl
  unfold results
  rw [hr]
  simp only [List.mapM_toArray, List.mapM_cons, List.mapM_nil, e]
  simp only [Sem.run_bind, Sem.run_map, Sem.run_pure, bind_pure_comp, h1, Result.andThen]
  rfl

end Go.Proofs.Ythffgbhphjkdeaa
namespace Go.Proofs.Ythffgbhphjkdeaa
open Go.RowKit

theorem Style.len (s : Style) : s.cells.length = 60 := rfl
theorem Style.ones (s : Style) : s.cells.toArray.all (·.oneCell') = true := by simp [Style.cells, Value.oneCell']
@[go_sem] theorem Style.set54 (s : Style) (v : Int) : s.cells.set 54 (.int .i64 v) = Style.cells { s with border := { s.border with left := v } } := rfl
@[go_sem] theorem Style.set55 (s : Style) (v : Int) : s.cells.set 55 (.int .i64 v) = Style.cells { s with border := { s.border with top := v } } := rfl
@[go_sem] theorem Style.set56 (s : Style) (v : Int) : s.cells.set 56 (.int .i64 v) = Style.cells { s with border := { s.border with right := v } } := rfl
@[go_sem] theorem Style.set57 (s : Style) (v : Int) : s.cells.set 57 (.int .i64 v) = Style.cells { s with border := { s.border with bottom := v } } := rfl
@[go_sem] theorem Style.set58 (s : Style) (v : Int) : s.cells.set 58 (.int .i64 v) = Style.cells { s with rowGap := v } := rfl
@[go_sem] theorem Style.set59 (s : Style) (v : Int) : s.cells.set 59 (.int .i64 v) = Style.cells { s with colGap := v } := rfl
theorem spl_mid (a x b y : List Value) (h : x.length = y.length) : spl (a ++ x ++ b).toArray a.length y = (a ++ y ++ b).toArray := by
  induction y generalizing a x with
  | nil =>
    cases x with
    | nil => rfl
    | cons v x => simp at h
  | cons u y ih =>
    cases x with
    | nil => simp at h
    | cons v x =>
      simp only [List.length_cons, Nat.add_right_cancel_iff] at h
      have e : (a ++ (v :: x) ++ b).toArray.setIfInBounds a.length u = ((a ++ [u]) ++ x ++ b).toArray := by simp
      have h1 := ih (a ++ [u]) x h
      rw [spl_cons, e]
      simpa using h1
theorem row_blk {w : World} {b : Nat} {l : List Value} {T : TypeId} (h : w.heap[b]? = some (.cells l.toArray T (0, 0))) (o n : Nat) (hn : o + n ≤ l.length) :
    hasRow w b o n = true ∧ rowOf w b o n = ((l.drop o).take n).toArray ∧ openRow w b = true := by
  refine ⟨by simp [hasRow, h, hn], ?_, by simp [openRow, h]⟩
  unfold rowOf
  rw [h]
  simp
@[go_sem ↓] theorem exec_load_lStyle (ρ : Operand → Value) (d : Option Tmp) (x : Operand) (ty : TypeId) (pos : String) (af : Array Edge) (g : Option (Nat × Bool)) (w : World) :
    (execOp ρ { dst := d, op := .load 162 x, type := ty, pos, after := af, guard := g }).run Try.prog w = LoadS Try.prog 162 (ρ x) w := rfl
@[go_sem ↓] theorem exec_load_iStyle (ρ : Operand → Value) (d : Option Tmp) (x : Operand) (ty : TypeId) (pos : String) (af : Array Edge) (g : Option (Nat × Bool)) (w : World) :
    (execOp ρ { dst := d, op := .load 66 x, type := ty, pos, after := af, guard := g }).run Try.prog w = LoadS Try.prog 66 (ρ x) w := rfl
@[go_sem ↓] theorem exec_store_iStyle (ρ : Operand → Value) (d : Option Tmp) (x y : Operand) (ty : TypeId) (pos : String) (af : Array Edge) (g : Option (Nat × Bool)) (w : World) :
    (execOp ρ { dst := d, op := .store 66 x y, type := ty, pos, after := af, guard := g }).run Try.prog w = StoreS Try.prog 66 (ρ x) (ρ y) w := rfl
@[go_sem] theorem LoadS_lStyle {w : World} {b o : Nat} (h : hasRow w b o 60 = true) : LoadS Try.prog 162 (.pointer (some ⟨b, o, none⟩)) w = .ok (.value (.agg (rowOf w b o 60))) w := LoadS_row Try.underlying162 rfl (by kernel_rfl) h
@[go_sem] theorem LoadS_iStyle {w : World} {b o : Nat} (h : hasRow w b o 60 = true) : LoadS Try.prog 66 (.pointer (some ⟨b, o, none⟩)) w = .ok (.value (.agg (rowOf w b o 60))) w := LoadS_row Try.underlying66 rfl (by kernel_rfl) h
@[go_sem] theorem StoreS_iStyle {w : World} {b o : Nat} {s : Style} (h : hasRow w b o 60 = true) (hz : openRow w b = true) : StoreS Try.prog 66 (.pointer (some ⟨b, o, none⟩)) (.agg s.cells.toArray) w = .ok .skip (w.setCells b o s.cells) := StoreS_row (by kernel_rfl) h hz rfl (Style.ones s)

end Go.Proofs.Ythffgbhphjkdeaa
namespace Go.Proofs.Ythffgbhphjkdeaa
open Go.RowKit

set_option maxRecDepth 100000 in
set_option maxHeartbeats 8000000 in
theorem toStyle_any (x : Style) (w : World) : Calls Try.prog 151 #[.agg #[.int .i64 x.dir, .int .i64 x.wrap, .int .i64 x.justify, .int .i64 x.items, .int .i64 x.self, .int .i64 x.content, .bool x.apart, .bool x.hidden, .int .i64 x.order, .int .i64 x.grow, .int .i64 x.shrink, .int .i64 x.basis.kind, .int .i64 x.basis.n, .int .i64 x.width.kind, .int .i64 x.width.n, .int .i64 x.height.kind, .int .i64 x.height.n, .int .i64 x.minWidth.kind, .int .i64 x.minWidth.n, .int .i64 x.minHeight.kind, .int .i64 x.minHeight.n, .int .i64 x.maxWidth.kind, .int .i64 x.maxWidth.n, .int .i64 x.maxHeight.kind, .int .i64 x.maxHeight.n, .int .i64 x.ratio, .int .i64 x.margin.left.kind, .int .i64 x.margin.left.n, .int .i64 x.margin.top.kind, .int .i64 x.margin.top.n, .int .i64 x.margin.right.kind, .int .i64 x.margin.right.n, .int .i64 x.margin.bottom.kind, .int .i64 x.margin.bottom.n, .int .i64 x.margin.start.kind, .int .i64 x.margin.start.n, .int .i64 x.margin.stop.kind, .int .i64 x.margin.stop.n, .int .i64 x.inset.left.kind, .int .i64 x.inset.left.n, .int .i64 x.inset.top.kind, .int .i64 x.inset.top.n, .int .i64 x.inset.right.kind, .int .i64 x.inset.right.n, .int .i64 x.inset.bottom.kind, .int .i64 x.inset.bottom.n, .int .i64 x.inset.start.kind, .int .i64 x.inset.start.n, .int .i64 x.inset.stop.kind, .int .i64 x.inset.stop.n, .int .i64 x.pad.left, .int .i64 x.pad.top, .int .i64 x.pad.right, .int .i64 x.pad.bottom, .int .i64 x.border.left, .int .i64 x.border.top, .int .i64 x.border.right, .int .i64 x.border.bottom, .int .i64 x.rowGap, .int .i64 x.colGap]] w fun e w' => e = .returned (.agg #[.int .i64 x.dir, .int .i64 x.wrap, .int .i64 x.justify, .int .i64 x.items, .int .i64 x.self, .int .i64 x.content, .bool x.apart, .bool x.hidden, .int .i64 x.order, .int .i64 x.grow, .int .i64 x.shrink, .int .i64 x.basis.kind, .int .i64 x.basis.n, .int .i64 x.width.kind, .int .i64 x.width.n, .int .i64 x.height.kind, .int .i64 x.height.n, .int .i64 x.minWidth.kind, .int .i64 x.minWidth.n, .int .i64 x.minHeight.kind, .int .i64 x.minHeight.n, .int .i64 x.maxWidth.kind, .int .i64 x.maxWidth.n, .int .i64 x.maxHeight.kind, .int .i64 x.maxHeight.n, .int .i64 x.ratio, .int .i64 x.margin.left.kind, .int .i64 x.margin.left.n, .int .i64 x.margin.top.kind, .int .i64 x.margin.top.n, .int .i64 x.margin.right.kind, .int .i64 x.margin.right.n, .int .i64 x.margin.bottom.kind, .int .i64 x.margin.bottom.n, .int .i64 x.margin.start.kind, .int .i64 x.margin.start.n, .int .i64 x.margin.stop.kind, .int .i64 x.margin.stop.n, .int .i64 x.inset.left.kind, .int .i64 x.inset.left.n, .int .i64 x.inset.top.kind, .int .i64 x.inset.top.n, .int .i64 x.inset.right.kind, .int .i64 x.inset.right.n, .int .i64 x.inset.bottom.kind, .int .i64 x.inset.bottom.n, .int .i64 x.inset.start.kind, .int .i64 x.inset.start.n, .int .i64 x.inset.stop.kind, .int .i64 x.inset.stop.n, .int .i64 x.pad.left, .int .i64 x.pad.top, .int .i64 x.pad.right, .int .i64 x.pad.bottom, .int .i64 x.border.left, .int .i64 x.border.top, .int .i64 x.border.right, .int .i64 x.border.bottom, .int .i64 x.rowGap, .int .i64 x.colGap]) ∧ Mod (fun _ => False) w w' := by
  go_enter Try.func151, Try.ntmps151
  go_wp2_with fail
  refine (toValue_any x.basis _).mono ?_
  rintro e w1 ⟨rfl, hm1⟩
  have hM1 : Mod (fun _ => False) w w1 := by (repeat (first | with_reducible exact Mod.refl _ _ | with_reducible refine Mod.drewN ?_ _ | with_reducible refine Mod.drew ?_ | with_reducible refine Mod.alloc ?_ _ | ((with_reducible refine Mod.setNew ?_ ?_ _ _ _); (rotate_left; omega)) | with_reducible refine Mod.setAt ?_ _ _ _ | with_reducible exact hm1 | with_reducible refine Mod.thenNone ?_ hm1 ))
  have hS1 := hm1.blk (al3a _ _ _ _) (fun f => f)
  have hR1 := hm1.blk (al3b _ _ _ _) (fun f => f)
  have hD1 := hm1.blk (al3c _ _ _ _) (fun f => f)
  have c1_13 := blk_cell hS1 (j := 13) rfl
  have c1_14 := blk_cell hS1 (j := 14) rfl
  have d1_11 := blk_cell hD1 (j := 11) rfl
  have d1_12 := blk_cell hD1 (j := 12) rfl
  have z1_11 := blk_free hD1 11
  have z1_12 := blk_free hD1 12
  have hr1_0 : w.heap.size < w1.heap.size := (Array.getElem?_eq_some_iff.1 hS1).1
  have hr1_1 : w.heap.size + 1 < w1.heap.size := (Array.getElem?_eq_some_iff.1 hR1).1
  have hr1_2 : w.heap.size + 1 + 1 < w1.heap.size := (Array.getElem?_eq_some_iff.1 hD1).1
  clear hm1
  go_wp2_with fail
  refine (toValue_any x.width _).mono ?_
  rintro e w2 ⟨rfl, hm2⟩
  have hM2 : Mod (fun _ => False) w w2 := by (repeat (first | with_reducible exact Mod.refl _ _ | with_reducible refine Mod.drewN ?_ _ | with_reducible refine Mod.drew ?_ | with_reducible refine Mod.alloc ?_ _ | ((with_reducible refine Mod.setNew ?_ ?_ _ _ _); (rotate_left; omega)) | with_reducible refine Mod.setAt ?_ _ _ _ | with_reducible exact hm2 | with_reducible refine Mod.thenNone ?_ hm2 | with_reducible exact hM1 | with_reducible refine Mod.thenNone ?_ hM1 ))
  have hS2 := hm2.blk (set_far (set_far hS1 (by omega)) (by omega)) (fun f => f)
  have hR2 := hm2.blk (set_far (set_far hR1 (by omega)) (by omega)) (fun f => f)
  have hD2 : w2.heap[w.heap.size + 1 + 1]? = some (.cells #[.int .i64 x.dir, .int .i64 x.wrap, .int .i64 x.justify, .int .i64 x.items, .int .i64 x.self, .int .i64 x.content, .bool x.apart, .bool x.hidden, .int .i64 x.order, .int .i64 x.grow, .int .i64 x.shrink, .int .i64 x.basis.kind, .int .i64 x.basis.n, .int .i64 0, .int .i64 0, .int .i64 0, .int .i64 0, .int .i64 0, .int .i64 0, .int .i64 0, .int .i64 0, .int .i64 0, .int .i64 0, .int .i64 0, .int .i64 0, .int .i64 0, .int .i64 0, .int .i64 0, .int .i64 0, .int .i64 0, .int .i64 0, .int .i64 0, .int .i64 0, .int .i64 0, .int .i64 0, .int .i64 0, .int .i64 0, .int .i64 0, .int .i64 0, .int .i64 0, .int .i64 0, .int .i64 0, .int .i64 0, .int .i64 0, .int .i64 0, .int .i64 0, .int .i64 0, .int .i64 0, .int .i64 0, .int .i64 0, .int .i64 0, .int .i64 0, .int .i64 0, .int .i64 0, .int .i64 0, .int .i64 0, .int .i64 0, .int .i64 0, .int .i64 0, .int .i64 0] 66 (0, 0)) := hm2.blk (set_in (set_in hD1)) (fun f => f)
  have c2_15 := blk_cell hS2 (j := 15) rfl
  have c2_16 := blk_cell hS2 (j := 16) rfl
  have d2_13 := blk_cell hD2 (j := 13) rfl
  have d2_14 := blk_cell hD2 (j := 14) rfl
  have z2_13 := blk_free hD2 13
  have z2_14 := blk_free hD2 14
  have hr2_0 : w.heap.size < w2.heap.size := (Array.getElem?_eq_some_iff.1 hS2).1
  have hr2_1 : w.heap.size + 1 < w2.heap.size := (Array.getElem?_eq_some_iff.1 hR2).1
  have hr2_2 : w.heap.size + 1 + 1 < w2.heap.size := (Array.getElem?_eq_some_iff.1 hD2).1
  clear hm2 hS1 hR1 hD1 hM1 hr1_0 hr1_1 hr1_2 c1_13 c1_14 d1_11 z1_11 d1_12 z1_12
  go_wp2_with fail
  refine (toValue_any x.height _).mono ?_
  rintro e w3 ⟨rfl, hm3⟩
  have hM3 : Mod (fun _ => False) w w3 := by (repeat (first | with_reducible exact Mod.refl _ _ | with_reducible refine Mod.drewN ?_ _ | with_reducible refine Mod.drew ?_ | with_reducible refine Mod.alloc ?_ _ | ((with_reducible refine Mod.setNew ?_ ?_ _ _ _); (rotate_left; omega)) | with_reducible refine Mod.setAt ?_ _ _ _ | with_reducible exact hm3 | with_reducible refine Mod.thenNone ?_ hm3 | with_reducible exact hM2 | with_reducible refine Mod.thenNone ?_ hM2 ))
  have hS3 := hm3.blk (set_far (set_far hS2 (by omega)) (by omega)) (fun f => f)
  have hR3 := hm3.blk (set_far (set_far hR2 (by omega)) (by omega)) (fun f => f)
  have hD3 : w3.heap[w.heap.size + 1 + 1]? = some (.cells #[.int .i64 x.dir, .int .i64 x.wrap, .int .i64 x.justify, .int .i64 x.items, .int .i64 x.self, .int .i64 x.content, .bool x.apart, .bool x.hidden, .int .i64 x.order, .int .i64 x.grow, .int .i64 x.shrink, .int .i64 x.basis.kind, .int .i64 x.basis.n, .int .i64 x.width.kind, .int .i64 x.width.n, .int .i64 0, .int .i64 0, .int .i64 0, .int .i64 0, .int .i64 0, .int .i64 0, .int .i64 0, .int .i64 0, .int .i64 0, .int .i64 0, .int .i64 0, .int .i64 0, .int .i64 0, .int .i64 0, .int .i64 0, .int .i64 0, .int .i64 0, .int .i64 0, .int .i64 0, .int .i64 0, .int .i64 0, .int .i64 0, .int .i64 0, .int .i64 0, .int .i64 0, .int .i64 0, .int .i64 0, .int .i64 0, .int .i64 0, .int .i64 0, .int .i64 0, .int .i64 0, .int .i64 0, .int .i64 0, .int .i64 0, .int .i64 0, .int .i64 0, .int .i64 0, .int .i64 0, .int .i64 0, .int .i64 0, .int .i64 0, .int .i64 0, .int .i64 0, .int .i64 0] 66 (0, 0)) := hm3.blk (set_in (set_in hD2)) (fun f => f)
  have c3_17 := blk_cell hS3 (j := 17) rfl
  have c3_18 := blk_cell hS3 (j := 18) rfl
  have d3_15 := blk_cell hD3 (j := 15) rfl
  have d3_16 := blk_cell hD3 (j := 16) rfl
  have z3_15 := blk_free hD3 15
  have z3_16 := blk_free hD3 16
  have hr3_0 : w.heap.size < w3.heap.size := (Array.getElem?_eq_some_iff.1 hS3).1
  have hr3_1 : w.heap.size + 1 < w3.heap.size := (Array.getElem?_eq_some_iff.1 hR3).1
  have hr3_2 : w.heap.size + 1 + 1 < w3.heap.size := (Array.getElem?_eq_some_iff.1 hD3).1
  clear hm3 hS2 hR2 hD2 hM2 hr2_0 hr2_1 hr2_2 c2_15 c2_16 d2_13 z2_13 d2_14 z2_14
  go_wp2_with fail
  refine (toValue_any x.minWidth _).mono ?_
  rintro e w4 ⟨rfl, hm4⟩
  have hM4 : Mod (fun _ => False) w w4 := by (repeat (first | with_reducible exact Mod.refl _ _ | with_reducible refine Mod.drewN ?_ _ | with_reducible refine Mod.drew ?_ | with_reducible refine Mod.alloc ?_ _ | ((with_reducible refine Mod.setNew ?_ ?_ _ _ _); (rotate_left; omega)) | with_reducible refine Mod.setAt ?_ _ _ _ | with_reducible exact hm4 | with_reducible refine Mod.thenNone ?_ hm4 | with_reducible exact hM3 | with_reducible refine Mod.thenNone ?_ hM3 ))
  have hS4 := hm4.blk (set_far (set_far hS3 (by omega)) (by omega)) (fun f => f)
  have hR4 := hm4.blk (set_far (set_far hR3 (by omega)) (by omega)) (fun f => f)
  have hD4 : w4.heap[w.heap.size + 1 + 1]? = some (.cells #[.int .i64 x.dir, .int .i64 x.wrap, .int .i64 x.justify, .int .i64 x.items, .int .i64 x.self, .int .i64 x.content, .bool x.apart, .bool x.hidden, .int .i64 x.order, .int .i64 x.grow, .int .i64 x.shrink, .int .i64 x.basis.kind, .int .i64 x.basis.n, .int .i64 x.width.kind, .int .i64 x.width.n, .int .i64 x.height.kind, .int .i64 x.height.n, .int .i64 0, .int .i64 0, .int .i64 0, .int .i64 0, .int .i64 0, .int .i64 0, .int .i64 0, .int .i64 0, .int .i64 0, .int .i64 0, .int .i64 0, .int .i64 0, .int .i64 0, .int .i64 0, .int .i64 0, .int .i64 0, .int .i64 0, .int .i64 0, .int .i64 0, .int .i64 0, .int .i64 0, .int .i64 0, .int .i64 0, .int .i64 0, .int .i64 0, .int .i64 0, .int .i64 0, .int .i64 0, .int .i64 0, .int .i64 0, .int .i64 0, .int .i64 0, .int .i64 0, .int .i64 0, .int .i64 0, .int .i64 0, .int .i64 0, .int .i64 0, .int .i64 0, .int .i64 0, .int .i64 0, .int .i64 0, .int .i64 0] 66 (0, 0)) := hm4.blk (set_in (set_in hD3)) (fun f => f)
  have c4_19 := blk_cell hS4 (j := 19) rfl
  have c4_20 := blk_cell hS4 (j := 20) rfl
  have d4_17 := blk_cell hD4 (j := 17) rfl
  have d4_18 := blk_cell hD4 (j := 18) rfl
  have z4_17 := blk_free hD4 17
  have z4_18 := blk_free hD4 18
  have hr4_0 : w.heap.size < w4.heap.size := (Array.getElem?_eq_some_iff.1 hS4).1
  have hr4_1 : w.heap.size + 1 < w4.heap.size := (Array.getElem?_eq_some_iff.1 hR4).1
  have hr4_2 : w.heap.size + 1 + 1 < w4.heap.size := (Array.getElem?_eq_some_iff.1 hD4).1
  clear hm4 hS3 hR3 hD3 hM3 hr3_0 hr3_1 hr3_2 c3_17 c3_18 d3_15 z3_15 d3_16 z3_16
  go_wp2_with fail
  refine (toValue_any x.minHeight _).mono ?_
  rintro e w5 ⟨rfl, hm5⟩
  have hM5 : Mod (fun _ => False) w w5 := by (repeat (first | with_reducible exact Mod.refl _ _ | with_reducible refine Mod.drewN ?_ _ | with_reducible refine Mod.drew ?_ | with_reducible refine Mod.alloc ?_ _ | ((with_reducible refine Mod.setNew ?_ ?_ _ _ _); (rotate_left; omega)) | with_reducible refine Mod.setAt ?_ _ _ _ | with_reducible exact hm5 | with_reducible refine Mod.thenNone ?_ hm5 | with_reducible exact hM4 | with_reducible refine Mod.thenNone ?_ hM4 ))
  have hS5 := hm5.blk (set_far (set_far hS4 (by omega)) (by omega)) (fun f => f)
  have hR5 := hm5.blk (set_far (set_far hR4 (by omega)) (by omega)) (fun f => f)
  have hD5 : w5.heap[w.heap.size + 1 + 1]? = some (.cells #[.int .i64 x.dir, .int .i64 x.wrap, .int .i64 x.justify, .int .i64 x.items, .int .i64 x.self, .int .i64 x.content, .bool x.apart, .bool x.hidden, .int .i64 x.order, .int .i64 x.grow, .int .i64 x.shrink, .int .i64 x.basis.kind, .int .i64 x.basis.n, .int .i64 x.width.kind, .int .i64 x.width.n, .int .i64 x.height.kind, .int .i64 x.height.n, .int .i64 x.minWidth.kind, .int .i64 x.minWidth.n, .int .i64 0, .int .i64 0, .int .i64 0, .int .i64 0, .int .i64 0, .int .i64 0, .int .i64 0, .int .i64 0, .int .i64 0, .int .i64 0, .int .i64 0, .int .i64 0, .int .i64 0, .int .i64 0, .int .i64 0, .int .i64 0, .int .i64 0, .int .i64 0, .int .i64 0, .int .i64 0, .int .i64 0, .int .i64 0, .int .i64 0, .int .i64 0, .int .i64 0, .int .i64 0, .int .i64 0, .int .i64 0, .int .i64 0, .int .i64 0, .int .i64 0, .int .i64 0, .int .i64 0, .int .i64 0, .int .i64 0, .int .i64 0, .int .i64 0, .int .i64 0, .int .i64 0, .int .i64 0, .int .i64 0] 66 (0, 0)) := hm5.blk (set_in (set_in hD4)) (fun f => f)
  have c5_21 := blk_cell hS5 (j := 21) rfl
  have c5_22 := blk_cell hS5 (j := 22) rfl
  have d5_19 := blk_cell hD5 (j := 19) rfl
  have d5_20 := blk_cell hD5 (j := 20) rfl
  have z5_19 := blk_free hD5 19
  have z5_20 := blk_free hD5 20
  have hr5_0 : w.heap.size < w5.heap.size := (Array.getElem?_eq_some_iff.1 hS5).1
  have hr5_1 : w.heap.size + 1 < w5.heap.size := (Array.getElem?_eq_some_iff.1 hR5).1
  have hr5_2 : w.heap.size + 1 + 1 < w5.heap.size := (Array.getElem?_eq_some_iff.1 hD5).1
  clear hm5 hS4 hR4 hD4 hM4 hr4_0 hr4_1 hr4_2 c4_19 c4_20 d4_17 z4_17 d4_18 z4_18
  go_wp2_with fail
  refine (toValue_any x.maxWidth _).mono ?_
  rintro e w6 ⟨rfl, hm6⟩
  have hM6 : Mod (fun _ => False) w w6 := by (repeat (first | with_reducible exact Mod.refl _ _ | with_reducible refine Mod.drewN ?_ _ | with_reducible refine Mod.drew ?_ | with_reducible refine Mod.alloc ?_ _ | ((with_reducible refine Mod.setNew ?_ ?_ _ _ _); (rotate_left; omega)) | with_reducible refine Mod.setAt ?_ _ _ _ | with_reducible exact hm6 | with_reducible refine Mod.thenNone ?_ hm6 | with_reducible exact hM5 | with_reducible refine Mod.thenNone ?_ hM5 ))
  have hS6 := hm6.blk (set_far (set_far hS5 (by omega)) (by omega)) (fun f => f)
  have hR6 := hm6.blk (set_far (set_far hR5 (by omega)) (by omega)) (fun f => f)
  have hD6 : w6.heap[w.heap.size + 1 + 1]? = some (.cells #[.int .i64 x.dir, .int .i64 x.wrap, .int .i64 x.justify, .int .i64 x.items, .int .i64 x.self, .int .i64 x.content, .bool x.apart, .bool x.hidden, .int .i64 x.order, .int .i64 x.grow, .int .i64 x.shrink, .int .i64 x.basis.kind, .int .i64 x.basis.n, .int .i64 x.width.kind, .int .i64 x.width.n, .int .i64 x.height.kind, .int .i64 x.height.n, .int .i64 x.minWidth.kind, .int .i64 x.minWidth.n, .int .i64 x.minHeight.kind, .int .i64 x.minHeight.n, .int .i64 0, .int .i64 0, .int .i64 0, .int .i64 0, .int .i64 0, .int .i64 0, .int .i64 0, .int .i64 0, .int .i64 0, .int .i64 0, .int .i64 0, .int .i64 0, .int .i64 0, .int .i64 0, .int .i64 0, .int .i64 0, .int .i64 0, .int .i64 0, .int .i64 0, .int .i64 0, .int .i64 0, .int .i64 0, .int .i64 0, .int .i64 0, .int .i64 0, .int .i64 0, .int .i64 0, .int .i64 0, .int .i64 0, .int .i64 0, .int .i64 0, .int .i64 0, .int .i64 0, .int .i64 0, .int .i64 0, .int .i64 0, .int .i64 0, .int .i64 0, .int .i64 0] 66 (0, 0)) := hm6.blk (set_in (set_in hD5)) (fun f => f)
  have c6_23 := blk_cell hS6 (j := 23) rfl
  have c6_24 := blk_cell hS6 (j := 24) rfl
  have d6_21 := blk_cell hD6 (j := 21) rfl
  have d6_22 := blk_cell hD6 (j := 22) rfl
  have z6_21 := blk_free hD6 21
  have z6_22 := blk_free hD6 22
  have hr6_0 : w.heap.size < w6.heap.size := (Array.getElem?_eq_some_iff.1 hS6).1
  have hr6_1 : w.heap.size + 1 < w6.heap.size := (Array.getElem?_eq_some_iff.1 hR6).1
  have hr6_2 : w.heap.size + 1 + 1 < w6.heap.size := (Array.getElem?_eq_some_iff.1 hD6).1
  clear hm6 hS5 hR5 hD5 hM5 hr5_0 hr5_1 hr5_2 c5_21 c5_22 d5_19 z5_19 d5_20 z5_20
  go_wp2_with fail
  refine (toValue_any x.maxHeight _).mono ?_
  rintro e w7 ⟨rfl, hm7⟩
  have hM7 : Mod (fun _ => False) w w7 := by (repeat (first | with_reducible exact Mod.refl _ _ | with_reducible refine Mod.drewN ?_ _ | with_reducible refine Mod.drew ?_ | with_reducible refine Mod.alloc ?_ _ | ((with_reducible refine Mod.setNew ?_ ?_ _ _ _); (rotate_left; omega)) | with_reducible refine Mod.setAt ?_ _ _ _ | with_reducible exact hm7 | with_reducible refine Mod.thenNone ?_ hm7 | with_reducible exact hM6 | with_reducible refine Mod.thenNone ?_ hM6 ))
  have hS7 := hm7.blk (set_far (set_far hS6 (by omega)) (by omega)) (fun f => f)
  have hR7 := hm7.blk (set_far (set_far hR6 (by omega)) (by omega)) (fun f => f)
  have hD7 : w7.heap[w.heap.size + 1 + 1]? = some (.cells #[.int .i64 x.dir, .int .i64 x.wrap, .int .i64 x.justify, .int .i64 x.items, .int .i64 x.self, .int .i64 x.content, .bool x.apart, .bool x.hidden, .int .i64 x.order, .int .i64 x.grow, .int .i64 x.shrink, .int .i64 x.basis.kind, .int .i64 x.basis.n, .int .i64 x.width.kind, .int .i64 x.width.n, .int .i64 x.height.kind, .int .i64 x.height.n, .int .i64 x.minWidth.kind, .int .i64 x.minWidth.n, .int .i64 x.minHeight.kind, .int .i64 x.minHeight.n, .int .i64 x.maxWidth.kind, .int .i64 x.maxWidth.n, .int .i64 0, .int .i64 0, .int .i64 0, .int .i64 0, .int .i64 0, .int .i64 0, .int .i64 0, .int .i64 0, .int .i64 0, .int .i64 0, .int .i64 0, .int .i64 0, .int .i64 0, .int .i64 0, .int .i64 0, .int .i64 0, .int .i64 0, .int .i64 0, .int .i64 0, .int .i64 0, .int .i64 0, .int .i64 0, .int .i64 0, .int .i64 0, .int .i64 0, .int .i64 0, .int .i64 0, .int .i64 0, .int .i64 0, .int .i64 0, .int .i64 0, .int .i64 0, .int .i64 0, .int .i64 0, .int .i64 0, .int .i64 0, .int .i64 0] 66 (0, 0)) := hm7.blk (set_in (set_in hD6)) (fun f => f)
  have c7_25 := blk_cell hS7 (j := 25) rfl
  have c7_26 := blk_cell hS7 (j := 26) rfl
  have c7_27 := blk_cell hS7 (j := 27) rfl
  have c7_28 := blk_cell hS7 (j := 28) rfl
  have c7_29 := blk_cell hS7 (j := 29) rfl
  have c7_30 := blk_cell hS7 (j := 30) rfl
  have c7_31 := blk_cell hS7 (j := 31) rfl
  have c7_32 := blk_cell hS7 (j := 32) rfl
  have c7_33 := blk_cell hS7 (j := 33) rfl
  have c7_34 := blk_cell hS7 (j := 34) rfl
  have c7_35 := blk_cell hS7 (j := 35) rfl
  have c7_36 := blk_cell hS7 (j := 36) rfl
  have c7_37 := blk_cell hS7 (j := 37) rfl
  have d7_23 := blk_cell hD7 (j := 23) rfl
  have d7_24 := blk_cell hD7 (j := 24) rfl
  have d7_25 := blk_cell hD7 (j := 25) rfl
  have z7_23 := blk_free hD7 23
  have z7_24 := blk_free hD7 24
  have z7_25 := blk_free hD7 25
  have hr7_0 : w.heap.size < w7.heap.size := (Array.getElem?_eq_some_iff.1 hS7).1
  have hr7_1 : w.heap.size + 1 < w7.heap.size := (Array.getElem?_eq_some_iff.1 hR7).1
  have hr7_2 : w.heap.size + 1 + 1 < w7.heap.size := (Array.getElem?_eq_some_iff.1 hD7).1
  clear hm7 hS6 hR6 hD6 hM6 hr6_0 hr6_1 hr6_2 c6_23 c6_24 d6_21 z6_21 d6_22 z6_22
  go_wp2_with fail
  refine (toSides_any x.margin _).mono ?_
  rintro e w8 ⟨rfl, hm8⟩
  have hM8 : Mod (fun _ => False) w w8 := by (repeat (first | with_reducible exact Mod.refl _ _ | with_reducible refine Mod.drewN ?_ _ | with_reducible refine Mod.drew ?_ | with_reducible refine Mod.alloc ?_ _ | ((with_reducible refine Mod.setNew ?_ ?_ _ _ _); (rotate_left; omega)) | with_reducible refine Mod.setAt ?_ _ _ _ | with_reducible exact hm8 | with_reducible refine Mod.thenNone ?_ hm8 | with_reducible exact hM7 | with_reducible refine Mod.thenNone ?_ hM7 ))
  have hS8 := hm8.blk (set_far (set_far (set_far hS7 (by omega)) (by omega)) (by omega)) (fun f => f)
  have hR8 := hm8.blk (set_far (set_far (set_far hR7 (by omega)) (by omega)) (by omega)) (fun f => f)
  have hD8 : w8.heap[w.heap.size + 1 + 1]? = some (.cells #[.int .i64 x.dir, .int .i64 x.wrap, .int .i64 x.justify, .int .i64 x.items, .int .i64 x.self, .int .i64 x.content, .bool x.apart, .bool x.hidden, .int .i64 x.order, .int .i64 x.grow, .int .i64 x.shrink, .int .i64 x.basis.kind, .int .i64 x.basis.n, .int .i64 x.width.kind, .int .i64 x.width.n, .int .i64 x.height.kind, .int .i64 x.height.n, .int .i64 x.minWidth.kind, .int .i64 x.minWidth.n, .int .i64 x.minHeight.kind, .int .i64 x.minHeight.n, .int .i64 x.maxWidth.kind, .int .i64 x.maxWidth.n, .int .i64 x.maxHeight.kind, .int .i64 x.maxHeight.n, .int .i64 x.ratio, .int .i64 0, .int .i64 0, .int .i64 0, .int .i64 0, .int .i64 0, .int .i64 0, .int .i64 0, .int .i64 0, .int .i64 0, .int .i64 0, .int .i64 0, .int .i64 0, .int .i64 0, .int .i64 0, .int .i64 0, .int .i64 0, .int .i64 0, .int .i64 0, .int .i64 0, .int .i64 0, .int .i64 0, .int .i64 0, .int .i64 0, .int .i64 0, .int .i64 0, .int .i64 0, .int .i64 0, .int .i64 0, .int .i64 0, .int .i64 0, .int .i64 0, .int .i64 0, .int .i64 0, .int .i64 0] 66 (0, 0)) := hm8.blk (set_in (set_in (set_in hD7))) (fun f => f)
  have c8_38 := blk_cell hS8 (j := 38) rfl
  have c8_39 := blk_cell hS8 (j := 39) rfl
  have c8_40 := blk_cell hS8 (j := 40) rfl
  have c8_41 := blk_cell hS8 (j := 41) rfl
  have c8_42 := blk_cell hS8 (j := 42) rfl
  have c8_43 := blk_cell hS8 (j := 43) rfl
  have c8_44 := blk_cell hS8 (j := 44) rfl
  have c8_45 := blk_cell hS8 (j := 45) rfl
  have c8_46 := blk_cell hS8 (j := 46) rfl
  have c8_47 := blk_cell hS8 (j := 47) rfl
  have c8_48 := blk_cell hS8 (j := 48) rfl
  have c8_49 := blk_cell hS8 (j := 49) rfl
  have d8_26 := blk_cell hD8 (j := 26) rfl
  have d8_27 := blk_cell hD8 (j := 27) rfl
  have d8_28 := blk_cell hD8 (j := 28) rfl
  have d8_29 := blk_cell hD8 (j := 29) rfl
  have d8_30 := blk_cell hD8 (j := 30) rfl
  have d8_31 := blk_cell hD8 (j := 31) rfl
  have d8_32 := blk_cell hD8 (j := 32) rfl
  have d8_33 := blk_cell hD8 (j := 33) rfl
  have d8_34 := blk_cell hD8 (j := 34) rfl
  have d8_35 := blk_cell hD8 (j := 35) rfl
  have d8_36 := blk_cell hD8 (j := 36) rfl
  have d8_37 := blk_cell hD8 (j := 37) rfl
  have z8_26 := blk_free hD8 26
  have z8_27 := blk_free hD8 27
  have z8_28 := blk_free hD8 28
  have z8_29 := blk_free hD8 29
  have z8_30 := blk_free hD8 30
  have z8_31 := blk_free hD8 31
  have z8_32 := blk_free hD8 32
  have z8_33 := blk_free hD8 33
  have z8_34 := blk_free hD8 34
  have z8_35 := blk_free hD8 35
  have z8_36 := blk_free hD8 36
  have z8_37 := blk_free hD8 37
  have hr8_0 : w.heap.size < w8.heap.size := (Array.getElem?_eq_some_iff.1 hS8).1
  have hr8_1 : w.heap.size + 1 < w8.heap.size := (Array.getElem?_eq_some_iff.1 hR8).1
  have hr8_2 : w.heap.size + 1 + 1 < w8.heap.size := (Array.getElem?_eq_some_iff.1 hD8).1
  clear hm8 hS7 hR7 hD7 hM7 hr7_0 hr7_1 hr7_2 c7_25 c7_26 c7_27 c7_28 c7_29 c7_30 c7_31 c7_32 c7_33 c7_34 c7_35 c7_36 c7_37 d7_23 z7_23 d7_24 z7_24 d7_25 z7_25
  go_wp2_with fail
  refine (toSides_any x.inset _).mono ?_
  rintro e w9 ⟨rfl, hm9⟩
  have hM9 : Mod (fun _ => False) w w9 := by (repeat (first | with_reducible exact Mod.refl _ _ | with_reducible refine Mod.drewN ?_ _ | with_reducible refine Mod.drew ?_ | with_reducible refine Mod.alloc ?_ _ | ((with_reducible refine Mod.setNew ?_ ?_ _ _ _); (rotate_left; omega)) | with_reducible refine Mod.setAt ?_ _ _ _ | with_reducible exact hm9 | with_reducible refine Mod.thenNone ?_ hm9 | with_reducible exact hM8 | with_reducible refine Mod.thenNone ?_ hM8 ))
  have hS9 := hm9.blk (set_far (set_far (set_far (set_far (set_far (set_far (set_far (set_far (set_far (set_far (set_far (set_far hS8 (by omega)) (by omega)) (by omega)) (by omega)) (by omega)) (by omega)) (by omega)) (by omega)) (by omega)) (by omega)) (by omega)) (by omega)) (fun f => f)
  have hR9 := hm9.blk (set_far (set_far (set_far (set_far (set_far (set_far (set_far (set_far (set_far (set_far (set_far (set_far hR8 (by omega)) (by omega)) (by omega)) (by omega)) (by omega)) (by omega)) (by omega)) (by omega)) (by omega)) (by omega)) (by omega)) (by omega)) (fun f => f)
  have hD9 : w9.heap[w.heap.size + 1 + 1]? = some (.cells #[.int .i64 x.dir, .int .i64 x.wrap, .int .i64 x.justify, .int .i64 x.items, .int .i64 x.self, .int .i64 x.content, .bool x.apart, .bool x.hidden, .int .i64 x.order, .int .i64 x.grow, .int .i64 x.shrink, .int .i64 x.basis.kind, .int .i64 x.basis.n, .int .i64 x.width.kind, .int .i64 x.width.n, .int .i64 x.height.kind, .int .i64 x.height.n, .int .i64 x.minWidth.kind, .int .i64 x.minWidth.n, .int .i64 x.minHeight.kind, .int .i64 x.minHeight.n, .int .i64 x.maxWidth.kind, .int .i64 x.maxWidth.n, .int .i64 x.maxHeight.kind, .int .i64 x.maxHeight.n, .int .i64 x.ratio, .int .i64 x.margin.left.kind, .int .i64 x.margin.left.n, .int .i64 x.margin.top.kind, .int .i64 x.margin.top.n, .int .i64 x.margin.right.kind, .int .i64 x.margin.right.n, .int .i64 x.margin.bottom.kind, .int .i64 x.margin.bottom.n, .int .i64 x.margin.start.kind, .int .i64 x.margin.start.n, .int .i64 x.margin.stop.kind, .int .i64 x.margin.stop.n, .int .i64 0, .int .i64 0, .int .i64 0, .int .i64 0, .int .i64 0, .int .i64 0, .int .i64 0, .int .i64 0, .int .i64 0, .int .i64 0, .int .i64 0, .int .i64 0, .int .i64 0, .int .i64 0, .int .i64 0, .int .i64 0, .int .i64 0, .int .i64 0, .int .i64 0, .int .i64 0, .int .i64 0, .int .i64 0] 66 (0, 0)) := hm9.blk (set_in (set_in (set_in (set_in (set_in (set_in (set_in (set_in (set_in (set_in (set_in (set_in hD8)))))))))))) (fun f => f)
  have c9_50 := blk_cell hS9 (j := 50) rfl
  have c9_51 := blk_cell hS9 (j := 51) rfl
  have c9_52 := blk_cell hS9 (j := 52) rfl
  have c9_53 := blk_cell hS9 (j := 53) rfl
  have d9_38 := blk_cell hD9 (j := 38) rfl
  have d9_39 := blk_cell hD9 (j := 39) rfl
  have d9_40 := blk_cell hD9 (j := 40) rfl
  have d9_41 := blk_cell hD9 (j := 41) rfl
  have d9_42 := blk_cell hD9 (j := 42) rfl
  have d9_43 := blk_cell hD9 (j := 43) rfl
  have d9_44 := blk_cell hD9 (j := 44) rfl
  have d9_45 := blk_cell hD9 (j := 45) rfl
  have d9_46 := blk_cell hD9 (j := 46) rfl
  have d9_47 := blk_cell hD9 (j := 47) rfl
  have d9_48 := blk_cell hD9 (j := 48) rfl
  have d9_49 := blk_cell hD9 (j := 49) rfl
  have z9_38 := blk_free hD9 38
  have z9_39 := blk_free hD9 39
  have z9_40 := blk_free hD9 40
  have z9_41 := blk_free hD9 41
  have z9_42 := blk_free hD9 42
  have z9_43 := blk_free hD9 43
  have z9_44 := blk_free hD9 44
  have z9_45 := blk_free hD9 45
  have z9_46 := blk_free hD9 46
  have z9_47 := blk_free hD9 47
  have z9_48 := blk_free hD9 48
  have z9_49 := blk_free hD9 49
  have hr9_0 : w.heap.size < w9.heap.size := (Array.getElem?_eq_some_iff.1 hS9).1
  have hr9_1 : w.heap.size + 1 < w9.heap.size := (Array.getElem?_eq_some_iff.1 hR9).1
  have hr9_2 : w.heap.size + 1 + 1 < w9.heap.size := (Array.getElem?_eq_some_iff.1 hD9).1
  clear hm9 hS8 hR8 hD8 hM8 hr8_0 hr8_1 hr8_2 c8_38 c8_39 c8_40 c8_41 c8_42 c8_43 c8_44 c8_45 c8_46 c8_47 c8_48 c8_49 d8_26 z8_26 d8_27 z8_27 d8_28 z8_28 d8_29 z8_29 d8_30 z8_30 d8_31 z8_31 d8_32 z8_32 d8_33 z8_33 d8_34 z8_34 d8_35 z8_35 d8_36 z8_36 d8_37 z8_37
  go_wp2_with fail
  refine (toEdges_any x.pad _).mono ?_
  rintro e w10 ⟨rfl, hm10⟩
  have hM10 : Mod (fun _ => False) w w10 := by (repeat (first | with_reducible exact Mod.refl _ _ | with_reducible refine Mod.drewN ?_ _ | with_reducible refine Mod.drew ?_ | with_reducible refine Mod.alloc ?_ _ | ((with_reducible refine Mod.setNew ?_ ?_ _ _ _); (rotate_left; omega)) | with_reducible refine Mod.setAt ?_ _ _ _ | with_reducible exact hm10 | with_reducible refine Mod.thenNone ?_ hm10 | with_reducible exact hM9 | with_reducible refine Mod.thenNone ?_ hM9 ))
  have hS10 := hm10.blk (set_far (set_far (set_far (set_far (set_far (set_far (set_far (set_far (set_far (set_far (set_far (set_far hS9 (by omega)) (by omega)) (by omega)) (by omega)) (by omega)) (by omega)) (by omega)) (by omega)) (by omega)) (by omega)) (by omega)) (by omega)) (fun f => f)
  have hR10 := hm10.blk (set_far (set_far (set_far (set_far (set_far (set_far (set_far (set_far (set_far (set_far (set_far (set_far hR9 (by omega)) (by omega)) (by omega)) (by omega)) (by omega)) (by omega)) (by omega)) (by omega)) (by omega)) (by omega)) (by omega)) (by omega)) (fun f => f)
  have hD10 : w10.heap[w.heap.size + 1 + 1]? = some (.cells #[.int .i64 x.dir, .int .i64 x.wrap, .int .i64 x.justify, .int .i64 x.items, .int .i64 x.self, .int .i64 x.content, .bool x.apart, .bool x.hidden, .int .i64 x.order, .int .i64 x.grow, .int .i64 x.shrink, .int .i64 x.basis.kind, .int .i64 x.basis.n, .int .i64 x.width.kind, .int .i64 x.width.n, .int .i64 x.height.kind, .int .i64 x.height.n, .int .i64 x.minWidth.kind, .int .i64 x.minWidth.n, .int .i64 x.minHeight.kind, .int .i64 x.minHeight.n, .int .i64 x.maxWidth.kind, .int .i64 x.maxWidth.n, .int .i64 x.maxHeight.kind, .int .i64 x.maxHeight.n, .int .i64 x.ratio, .int .i64 x.margin.left.kind, .int .i64 x.margin.left.n, .int .i64 x.margin.top.kind, .int .i64 x.margin.top.n, .int .i64 x.margin.right.kind, .int .i64 x.margin.right.n, .int .i64 x.margin.bottom.kind, .int .i64 x.margin.bottom.n, .int .i64 x.margin.start.kind, .int .i64 x.margin.start.n, .int .i64 x.margin.stop.kind, .int .i64 x.margin.stop.n, .int .i64 x.inset.left.kind, .int .i64 x.inset.left.n, .int .i64 x.inset.top.kind, .int .i64 x.inset.top.n, .int .i64 x.inset.right.kind, .int .i64 x.inset.right.n, .int .i64 x.inset.bottom.kind, .int .i64 x.inset.bottom.n, .int .i64 x.inset.start.kind, .int .i64 x.inset.start.n, .int .i64 x.inset.stop.kind, .int .i64 x.inset.stop.n, .int .i64 0, .int .i64 0, .int .i64 0, .int .i64 0, .int .i64 0, .int .i64 0, .int .i64 0, .int .i64 0, .int .i64 0, .int .i64 0] 66 (0, 0)) := hm10.blk (set_in (set_in (set_in (set_in (set_in (set_in (set_in (set_in (set_in (set_in (set_in (set_in hD9)))))))))))) (fun f => f)
  have c10_54 := blk_cell hS10 (j := 54) rfl
  have c10_55 := blk_cell hS10 (j := 55) rfl
  have c10_56 := blk_cell hS10 (j := 56) rfl
  have c10_57 := blk_cell hS10 (j := 57) rfl
  have d10_50 := blk_cell hD10 (j := 50) rfl
  have d10_51 := blk_cell hD10 (j := 51) rfl
  have d10_52 := blk_cell hD10 (j := 52) rfl
  have d10_53 := blk_cell hD10 (j := 53) rfl
  have z10_50 := blk_free hD10 50
  have z10_51 := blk_free hD10 51
  have z10_52 := blk_free hD10 52
  have z10_53 := blk_free hD10 53
  have hr10_0 : w.heap.size < w10.heap.size := (Array.getElem?_eq_some_iff.1 hS10).1
  have hr10_1 : w.heap.size + 1 < w10.heap.size := (Array.getElem?_eq_some_iff.1 hR10).1
  have hr10_2 : w.heap.size + 1 + 1 < w10.heap.size := (Array.getElem?_eq_some_iff.1 hD10).1
  clear hm10 hS9 hR9 hD9 hM9 hr9_0 hr9_1 hr9_2 c9_50 c9_51 c9_52 c9_53 d9_38 z9_38 d9_39 z9_39 d9_40 z9_40 d9_41 z9_41 d9_42 z9_42 d9_43 z9_43 d9_44 z9_44 d9_45 z9_45 d9_46 z9_46 d9_47 z9_47 d9_48 z9_48 d9_49 z9_49
  go_wp2_with fail
  refine (toEdges_any x.border _).mono ?_
  rintro e w11 ⟨rfl, hm11⟩
  have hM11 : Mod (fun _ => False) w w11 := by (repeat (first | with_reducible exact Mod.refl _ _ | with_reducible refine Mod.drewN ?_ _ | with_reducible refine Mod.drew ?_ | with_reducible refine Mod.alloc ?_ _ | ((with_reducible refine Mod.setNew ?_ ?_ _ _ _); (rotate_left; omega)) | with_reducible refine Mod.setAt ?_ _ _ _ | with_reducible exact hm11 | with_reducible refine Mod.thenNone ?_ hm11 | with_reducible exact hM10 | with_reducible refine Mod.thenNone ?_ hM10 ))
  have hS11 := hm11.blk (set_far (set_far (set_far (set_far hS10 (by omega)) (by omega)) (by omega)) (by omega)) (fun f => f)
  have hR11 := hm11.blk (set_far (set_far (set_far (set_far hR10 (by omega)) (by omega)) (by omega)) (by omega)) (fun f => f)
  have hD11 : w11.heap[w.heap.size + 1 + 1]? = some (.cells #[.int .i64 x.dir, .int .i64 x.wrap, .int .i64 x.justify, .int .i64 x.items, .int .i64 x.self, .int .i64 x.content, .bool x.apart, .bool x.hidden, .int .i64 x.order, .int .i64 x.grow, .int .i64 x.shrink, .int .i64 x.basis.kind, .int .i64 x.basis.n, .int .i64 x.width.kind, .int .i64 x.width.n, .int .i64 x.height.kind, .int .i64 x.height.n, .int .i64 x.minWidth.kind, .int .i64 x.minWidth.n, .int .i64 x.minHeight.kind, .int .i64 x.minHeight.n, .int .i64 x.maxWidth.kind, .int .i64 x.maxWidth.n, .int .i64 x.maxHeight.kind, .int .i64 x.maxHeight.n, .int .i64 x.ratio, .int .i64 x.margin.left.kind, .int .i64 x.margin.left.n, .int .i64 x.margin.top.kind, .int .i64 x.margin.top.n, .int .i64 x.margin.right.kind, .int .i64 x.margin.right.n, .int .i64 x.margin.bottom.kind, .int .i64 x.margin.bottom.n, .int .i64 x.margin.start.kind, .int .i64 x.margin.start.n, .int .i64 x.margin.stop.kind, .int .i64 x.margin.stop.n, .int .i64 x.inset.left.kind, .int .i64 x.inset.left.n, .int .i64 x.inset.top.kind, .int .i64 x.inset.top.n, .int .i64 x.inset.right.kind, .int .i64 x.inset.right.n, .int .i64 x.inset.bottom.kind, .int .i64 x.inset.bottom.n, .int .i64 x.inset.start.kind, .int .i64 x.inset.start.n, .int .i64 x.inset.stop.kind, .int .i64 x.inset.stop.n, .int .i64 x.pad.left, .int .i64 x.pad.top, .int .i64 x.pad.right, .int .i64 x.pad.bottom, .int .i64 0, .int .i64 0, .int .i64 0, .int .i64 0, .int .i64 0, .int .i64 0] 66 (0, 0)) := hm11.blk (set_in (set_in (set_in (set_in hD10)))) (fun f => f)
  have c11_58 := blk_cell hS11 (j := 58) rfl
  have c11_59 := blk_cell hS11 (j := 59) rfl
  have d11_54 := blk_cell hD11 (j := 54) rfl
  have d11_55 := blk_cell hD11 (j := 55) rfl
  have d11_56 := blk_cell hD11 (j := 56) rfl
  have d11_57 := blk_cell hD11 (j := 57) rfl
  have d11_58 := blk_cell hD11 (j := 58) rfl
  have d11_59 := blk_cell hD11 (j := 59) rfl
  have z11_54 := blk_free hD11 54
  have z11_55 := blk_free hD11 55
  have z11_56 := blk_free hD11 56
  have z11_57 := blk_free hD11 57
  have z11_58 := blk_free hD11 58
  have z11_59 := blk_free hD11 59
  have hY : w11.heap[w.heap.size + 1 + 1]? = some (.cells (Style.cells { x with border := ⟨0, 0, 0, 0⟩, rowGap := 0, colGap := 0 }).toArray 66 (0, 0)) := hD11
  obtain ⟨hq0, hq1, _⟩ := row_blk hY 0 60 (by rw [Style.len]; omega)
  obtain ⟨hq2, _, hq3⟩ := row_blk (l := Style.cells default) hR11 0 60 (by rw [Style.len]; omega)
  rw [List.drop_zero, List.take_of_length_le (by rw [Style.len]; omega)] at hq1
  clear hY
  have hr11_0 : w.heap.size < w11.heap.size := (Array.getElem?_eq_some_iff.1 hS11).1
  have hr11_1 : w.heap.size + 1 < w11.heap.size := (Array.getElem?_eq_some_iff.1 hR11).1
  have hr11_2 : w.heap.size + 1 + 1 < w11.heap.size := (Array.getElem?_eq_some_iff.1 hD11).1
  clear hm11 hS10 hR10 hD10 hM10 hr10_0 hr10_1 hr10_2 c10_54 c10_55 c10_56 c10_57 d10_50 z10_50 d10_51 z10_51 d10_52 z10_52 d10_53 z10_53
  clear hS11 hR11 hD11
  dsimp only
  repeat (go_step)
  refine bodyPost_ret (v := .agg (Style.cells x).toArray) ?_ ?_ ?_
  · refine results_row (r := Style.cells x) (b := w.heap.size + 1) Try.results151 ?_ Try.underlying66 rfl (by kernel_rfl) ?_
    · rfl
    · refine range_setCells (r := Style.cells x) ?_
      simp only [hasRow_setCell, Style.len, hq2]
  · rfl
  · refine ⟨rfl, ?_⟩
    refine Mod.setCellsNew ?_ (by omega) _ _
    iterate 6 refine Mod.setNew ?_ (by omega) _ _ _
    exact hM11

end Go.Proofs.Ythffgbhphjkdeaa
namespace Go.Proofs.Ythffgbhphjkdeaa
open Go.RowKit

set_option maxRecDepth 100000 in
set_option maxHeartbeats 8000000 in
theorem eqStyle_same (x : Style) (w : World) : Calls Try.prog 156 #[.agg #[.int .i64 x.dir, .int .i64 x.wrap, .int .i64 x.justify, .int .i64 x.items, .int .i64 x.self, .int .i64 x.content, .bool x.apart, .bool x.hidden, .int .i64 x.order, .int .i64 x.grow, .int .i64 x.shrink, .int .i64 x.basis.kind, .int .i64 x.basis.n, .int .i64 x.width.kind, .int .i64 x.width.n, .int .i64 x.height.kind, .int .i64 x.height.n, .int .i64 x.minWidth.kind, .int .i64 x.minWidth.n, .int .i64 x.minHeight.kind, .int .i64 x.minHeight.n, .int .i64 x.maxWidth.kind, .int .i64 x.maxWidth.n, .int .i64 x.maxHeight.kind, .int .i64 x.maxHeight.n, .int .i64 x.ratio, .int .i64 x.margin.left.kind, .int .i64 x.margin.left.n, .int .i64 x.margin.top.kind, .int .i64 x.margin.top.n, .int .i64 x.margin.right.kind, .int .i64 x.margin.right.n, .int .i64 x.margin.bottom.kind, .int .i64 x.margin.bottom.n, .int .i64 x.margin.start.kind, .int .i64 x.margin.start.n, .int .i64 x.margin.stop.kind, .int .i64 x.margin.stop.n, .int .i64 x.inset.left.kind, .int .i64 x.inset.left.n, .int .i64 x.inset.top.kind, .int .i64 x.inset.top.n, .int .i64 x.inset.right.kind, .int .i64 x.inset.right.n, .int .i64 x.inset.bottom.kind, .int .i64 x.inset.bottom.n, .int .i64 x.inset.start.kind, .int .i64 x.inset.start.n, .int .i64 x.inset.stop.kind, .int .i64 x.inset.stop.n, .int .i64 x.pad.left, .int .i64 x.pad.top, .int .i64 x.pad.right, .int .i64 x.pad.bottom, .int .i64 x.border.left, .int .i64 x.border.top, .int .i64 x.border.right, .int .i64 x.border.bottom, .int .i64 x.rowGap, .int .i64 x.colGap], .agg #[.int .i64 x.dir, .int .i64 x.wrap, .int .i64 x.justify, .int .i64 x.items, .int .i64 x.self, .int .i64 x.content, .bool x.apart, .bool x.hidden, .int .i64 x.order, .int .i64 x.grow, .int .i64 x.shrink, .int .i64 x.basis.kind, .int .i64 x.basis.n, .int .i64 x.width.kind, .int .i64 x.width.n, .int .i64 x.height.kind, .int .i64 x.height.n, .int .i64 x.minWidth.kind, .int .i64 x.minWidth.n, .int .i64 x.minHeight.kind, .int .i64 x.minHeight.n, .int .i64 x.maxWidth.kind, .int .i64 x.maxWidth.n, .int .i64 x.maxHeight.kind, .int .i64 x.maxHeight.n, .int .i64 x.ratio, .int .i64 x.margin.left.kind, .int .i64 x.margin.left.n, .int .i64 x.margin.top.kind, .int .i64 x.margin.top.n, .int .i64 x.margin.right.kind, .int .i64 x.margin.right.n, .int .i64 x.margin.bottom.kind, .int .i64 x.margin.bottom.n, .int .i64 x.margin.start.kind, .int .i64 x.margin.start.n, .int .i64 x.margin.stop.kind, .int .i64 x.margin.stop.n, .int .i64 x.inset.left.kind, .int .i64 x.inset.left.n, .int .i64 x.inset.top.kind, .int .i64 x.inset.top.n, .int .i64 x.inset.right.kind, .int .i64 x.inset.right.n, .int .i64 x.inset.bottom.kind, .int .i64 x.inset.bottom.n, .int .i64 x.inset.start.kind, .int .i64 x.inset.start.n, .int .i64 x.inset.stop.kind, .int .i64 x.inset.stop.n, .int .i64 x.pad.left, .int .i64 x.pad.top, .int .i64 x.pad.right, .int .i64 x.pad.bottom, .int .i64 x.border.left, .int .i64 x.border.top, .int .i64 x.border.right, .int .i64 x.border.bottom, .int .i64 x.rowGap, .int .i64 x.colGap]] w fun e w' => e = .returned (.bool true) ∧ Mod (fun _ => False) w w' := by
  go_enter Try.func156, Try.ntmps156
  go_wp2_with fail
  refine (eqValue_any x.basis x.basis _).mono ?_
  rintro e w1 ⟨rfl, hm1⟩
  rw [decide_eq_true rfl]
  have hM1 : Mod (fun _ => False) w w1 := by (repeat (first | with_reducible exact Mod.refl _ _ | with_reducible refine Mod.drewN ?_ _ | with_reducible refine Mod.drew ?_ | with_reducible refine Mod.alloc ?_ _ | ((with_reducible refine Mod.setNew ?_ ?_ _ _ _); (rotate_left; omega)) | with_reducible refine Mod.setAt ?_ _ _ _ | with_reducible exact hm1 | with_reducible refine Mod.thenNone ?_ hm1 ))
  have hA1 := hm1.blk (al2a _ _ _) (fun f => f)
  have hB1 := hm1.blk (al2b _ _ _) (fun f => f)
  have c1_13 := blk_cell hA1 (j := 13) rfl
  have d1_13 := blk_cell hB1 (j := 13) rfl
  have c1_14 := blk_cell hA1 (j := 14) rfl
  have d1_14 := blk_cell hB1 (j := 14) rfl
  have hr1_0 : w.heap.size < w1.heap.size := (Array.getElem?_eq_some_iff.1 hA1).1
  have hr1_1 : w.heap.size + 1 < w1.heap.size := (Array.getElem?_eq_some_iff.1 hB1).1
  clear hm1
  go_wp2_with fail
  refine (eqValue_any x.width x.width _).mono ?_
  rintro e w2 ⟨rfl, hm2⟩
  rw [decide_eq_true rfl]
  have hM2 : Mod (fun _ => False) w w2 := hM1.thenNone hm2
  have hA2 := hm2.blk hA1 (fun f => f)
  have hB2 := hm2.blk hB1 (fun f => f)
  have c2_15 := blk_cell hA2 (j := 15) rfl
  have d2_15 := blk_cell hB2 (j := 15) rfl
  have c2_16 := blk_cell hA2 (j := 16) rfl
  have d2_16 := blk_cell hB2 (j := 16) rfl
  have hr2_0 : w.heap.size < w2.heap.size := (Array.getElem?_eq_some_iff.1 hA2).1
  have hr2_1 : w.heap.size + 1 < w2.heap.size := (Array.getElem?_eq_some_iff.1 hB2).1
  clear hm2 hA1 hB1 hM1 hr1_0 hr1_1 c1_13 d1_13 c1_14 d1_14
  go_wp2_with fail
  refine (eqValue_any x.height x.height _).mono ?_
  rintro e w3 ⟨rfl, hm3⟩
  rw [decide_eq_true rfl]
  have hM3 : Mod (fun _ => False) w w3 := hM2.thenNone hm3
  have hA3 := hm3.blk hA2 (fun f => f)
  have hB3 := hm3.blk hB2 (fun f => f)
  have c3_17 := blk_cell hA3 (j := 17) rfl
  have d3_17 := blk_cell hB3 (j := 17) rfl
  have c3_18 := blk_cell hA3 (j := 18) rfl
  have d3_18 := blk_cell hB3 (j := 18) rfl
  have hr3_0 : w.heap.size < w3.heap.size := (Array.getElem?_eq_some_iff.1 hA3).1
  have hr3_1 : w.heap.size + 1 < w3.heap.size := (Array.getElem?_eq_some_iff.1 hB3).1
  clear hm3 hA2 hB2 hM2 hr2_0 hr2_1 c2_15 d2_15 c2_16 d2_16
  go_wp2_with fail
  refine (eqValue_any x.minWidth x.minWidth _).mono ?_
  rintro e w4 ⟨rfl, hm4⟩
  rw [decide_eq_true rfl]
  have hM4 : Mod (fun _ => False) w w4 := hM3.thenNone hm4
  have hA4 := hm4.blk hA3 (fun f => f)
  have hB4 := hm4.blk hB3 (fun f => f)
  have c4_19 := blk_cell hA4 (j := 19) rfl
  have d4_19 := blk_cell hB4 (j := 19) rfl
  have c4_20 := blk_cell hA4 (j := 20) rfl
  have d4_20 := blk_cell hB4 (j := 20) rfl
  have hr4_0 : w.heap.size < w4.heap.size := (Array.getElem?_eq_some_iff.1 hA4).1
  have hr4_1 : w.heap.size + 1 < w4.heap.size := (Array.getElem?_eq_some_iff.1 hB4).1
  clear hm4 hA3 hB3 hM3 hr3_0 hr3_1 c3_17 d3_17 c3_18 d3_18
  go_wp2_with fail
  refine (eqValue_any x.minHeight x.minHeight _).mono ?_
  rintro e w5 ⟨rfl, hm5⟩
  rw [decide_eq_true rfl]
  have hM5 : Mod (fun _ => False) w w5 := hM4.thenNone hm5
  have hA5 := hm5.blk hA4 (fun f => f)
  have hB5 := hm5.blk hB4 (fun f => f)
  have c5_21 := blk_cell hA5 (j := 21) rfl
  have d5_21 := blk_cell hB5 (j := 21) rfl
  have c5_22 := blk_cell hA5 (j := 22) rfl
  have d5_22 := blk_cell hB5 (j := 22) rfl
  have hr5_0 : w.heap.size < w5.heap.size := (Array.getElem?_eq_some_iff.1 hA5).1
  have hr5_1 : w.heap.size + 1 < w5.heap.size := (Array.getElem?_eq_some_iff.1 hB5).1
  clear hm5 hA4 hB4 hM4 hr4_0 hr4_1 c4_19 d4_19 c4_20 d4_20
  go_wp2_with fail
  refine (eqValue_any x.maxWidth x.maxWidth _).mono ?_
  rintro e w6 ⟨rfl, hm6⟩
  rw [decide_eq_true rfl]
  have hM6 : Mod (fun _ => False) w w6 := hM5.thenNone hm6
  have hA6 := hm6.blk hA5 (fun f => f)
  have hB6 := hm6.blk hB5 (fun f => f)
  have c6_23 := blk_cell hA6 (j := 23) rfl
  have d6_23 := blk_cell hB6 (j := 23) rfl
  have c6_24 := blk_cell hA6 (j := 24) rfl
  have d6_24 := blk_cell hB6 (j := 24) rfl
  have hr6_0 : w.heap.size < w6.heap.size := (Array.getElem?_eq_some_iff.1 hA6).1
  have hr6_1 : w.heap.size + 1 < w6.heap.size := (Array.getElem?_eq_some_iff.1 hB6).1
  clear hm6 hA5 hB5 hM5 hr5_0 hr5_1 c5_21 d5_21 c5_22 d5_22
  go_wp2_with fail
  refine (eqValue_any x.maxHeight x.maxHeight _).mono ?_
  rintro e w7 ⟨rfl, hm7⟩
  rw [decide_eq_true rfl]
  have hM7 : Mod (fun _ => False) w w7 := hM6.thenNone hm7
  have hA7 := hm7.blk hA6 (fun f => f)
  have hB7 := hm7.blk hB6 (fun f => f)
  have c7_25 := blk_cell hA7 (j := 25) rfl
  have d7_25 := blk_cell hB7 (j := 25) rfl
  have c7_26 := blk_cell hA7 (j := 26) rfl
  have d7_26 := blk_cell hB7 (j := 26) rfl
  have c7_27 := blk_cell hA7 (j := 27) rfl
  have d7_27 := blk_cell hB7 (j := 27) rfl
  have c7_28 := blk_cell hA7 (j := 28) rfl
  have d7_28 := blk_cell hB7 (j := 28) rfl
  have c7_29 := blk_cell hA7 (j := 29) rfl
  have d7_29 := blk_cell hB7 (j := 29) rfl
  have c7_30 := blk_cell hA7 (j := 30) rfl
  have d7_30 := blk_cell hB7 (j := 30) rfl
  have c7_31 := blk_cell hA7 (j := 31) rfl
  have d7_31 := blk_cell hB7 (j := 31) rfl
  have c7_32 := blk_cell hA7 (j := 32) rfl
  have d7_32 := blk_cell hB7 (j := 32) rfl
  have c7_33 := blk_cell hA7 (j := 33) rfl
  have d7_33 := blk_cell hB7 (j := 33) rfl
  have c7_34 := blk_cell hA7 (j := 34) rfl
  have d7_34 := blk_cell hB7 (j := 34) rfl
  have c7_35 := blk_cell hA7 (j := 35) rfl
  have d7_35 := blk_cell hB7 (j := 35) rfl
  have c7_36 := blk_cell hA7 (j := 36) rfl
  have d7_36 := blk_cell hB7 (j := 36) rfl
  have c7_37 := blk_cell hA7 (j := 37) rfl
  have d7_37 := blk_cell hB7 (j := 37) rfl
  have hr7_0 : w.heap.size < w7.heap.size := (Array.getElem?_eq_some_iff.1 hA7).1
  have hr7_1 : w.heap.size + 1 < w7.heap.size := (Array.getElem?_eq_some_iff.1 hB7).1
  clear hm7 hA6 hB6 hM6 hr6_0 hr6_1 c6_23 d6_23 c6_24 d6_24
  go_wp2_with fail
  refine (eqSides_same x.margin _).mono ?_
  rintro e w8 ⟨rfl, hm8⟩
  have hM8 : Mod (fun _ => False) w w8 := hM7.thenNone hm8
  have hA8 := hm8.blk hA7 (fun f => f)
  have hB8 := hm8.blk hB7 (fun f => f)
  have c8_38 := blk_cell hA8 (j := 38) rfl
  have d8_38 := blk_cell hB8 (j := 38) rfl
  have c8_39 := blk_cell hA8 (j := 39) rfl
  have d8_39 := blk_cell hB8 (j := 39) rfl
  have c8_40 := blk_cell hA8 (j := 40) rfl
  have d8_40 := blk_cell hB8 (j := 40) rfl
  have c8_41 := blk_cell hA8 (j := 41) rfl
  have d8_41 := blk_cell hB8 (j := 41) rfl
  have c8_42 := blk_cell hA8 (j := 42) rfl
  have d8_42 := blk_cell hB8 (j := 42) rfl
  have c8_43 := blk_cell hA8 (j := 43) rfl
  have d8_43 := blk_cell hB8 (j := 43) rfl
  have c8_44 := blk_cell hA8 (j := 44) rfl
  have d8_44 := blk_cell hB8 (j := 44) rfl
  have c8_45 := blk_cell hA8 (j := 45) rfl
  have d8_45 := blk_cell hB8 (j := 45) rfl
  have c8_46 := blk_cell hA8 (j := 46) rfl
  have d8_46 := blk_cell hB8 (j := 46) rfl
  have c8_47 := blk_cell hA8 (j := 47) rfl
  have d8_47 := blk_cell hB8 (j := 47) rfl
  have c8_48 := blk_cell hA8 (j := 48) rfl
  have d8_48 := blk_cell hB8 (j := 48) rfl
  have c8_49 := blk_cell hA8 (j := 49) rfl
  have d8_49 := blk_cell hB8 (j := 49) rfl
  have hr8_0 : w.heap.size < w8.heap.size := (Array.getElem?_eq_some_iff.1 hA8).1
  have hr8_1 : w.heap.size + 1 < w8.heap.size := (Array.getElem?_eq_some_iff.1 hB8).1
  clear hm8 hA7 hB7 hM7 hr7_0 hr7_1 c7_25 d7_25 c7_26 d7_26 c7_27 d7_27 c7_28 d7_28 c7_29 d7_29 c7_30 d7_30 c7_31 d7_31 c7_32 d7_32 c7_33 d7_33 c7_34 d7_34 c7_35 d7_35 c7_36 d7_36 c7_37 d7_37
  go_wp2_with fail
  refine (eqSides_same x.inset _).mono ?_
  rintro e w9 ⟨rfl, hm9⟩
  have hM9 : Mod (fun _ => False) w w9 := hM8.thenNone hm9
  have hA9 := hm9.blk hA8 (fun f => f)
  have hB9 := hm9.blk hB8 (fun f => f)
  have c9_50 := blk_cell hA9 (j := 50) rfl
  have d9_50 := blk_cell hB9 (j := 50) rfl
  have c9_51 := blk_cell hA9 (j := 51) rfl
  have d9_51 := blk_cell hB9 (j := 51) rfl
  have c9_52 := blk_cell hA9 (j := 52) rfl
  have d9_52 := blk_cell hB9 (j := 52) rfl
  have c9_53 := blk_cell hA9 (j := 53) rfl
  have d9_53 := blk_cell hB9 (j := 53) rfl
  have hr9_0 : w.heap.size < w9.heap.size := (Array.getElem?_eq_some_iff.1 hA9).1
  have hr9_1 : w.heap.size + 1 < w9.heap.size := (Array.getElem?_eq_some_iff.1 hB9).1
  clear hm9 hA8 hB8 hM8 hr8_0 hr8_1 c8_38 d8_38 c8_39 d8_39 c8_40 d8_40 c8_41 d8_41 c8_42 d8_42 c8_43 d8_43 c8_44 d8_44 c8_45 d8_45 c8_46 d8_46 c8_47 d8_47 c8_48 d8_48 c8_49 d8_49
  go_wp2_with fail
  refine (eqEdges_same x.pad _).mono ?_
  rintro e w10 ⟨rfl, hm10⟩
  have hM10 : Mod (fun _ => False) w w10 := hM9.thenNone hm10
  have hA10 := hm10.blk hA9 (fun f => f)
  have hB10 := hm10.blk hB9 (fun f => f)
  have c10_54 := blk_cell hA10 (j := 54) rfl
  have d10_54 := blk_cell hB10 (j := 54) rfl
  have c10_55 := blk_cell hA10 (j := 55) rfl
  have d10_55 := blk_cell hB10 (j := 55) rfl
  have c10_56 := blk_cell hA10 (j := 56) rfl
  have d10_56 := blk_cell hB10 (j := 56) rfl
  have c10_57 := blk_cell hA10 (j := 57) rfl
  have d10_57 := blk_cell hB10 (j := 57) rfl
  have hr10_0 : w.heap.size < w10.heap.size := (Array.getElem?_eq_some_iff.1 hA10).1
  have hr10_1 : w.heap.size + 1 < w10.heap.size := (Array.getElem?_eq_some_iff.1 hB10).1
  clear hm10 hA9 hB9 hM9 hr9_0 hr9_1 c9_50 d9_50 c9_51 d9_51 c9_52 d9_52 c9_53 d9_53
  go_wp2_with fail
  refine (eqEdges_same x.border _).mono ?_
  rintro e w11 ⟨rfl, hm11⟩
  have hM11 : Mod (fun _ => False) w w11 := hM10.thenNone hm11
  have hA11 := hm11.blk hA10 (fun f => f)
  have hB11 := hm11.blk hB10 (fun f => f)
  have c11_58 := blk_cell hA11 (j := 58) rfl
  have d11_58 := blk_cell hB11 (j := 58) rfl
  have c11_59 := blk_cell hA11 (j := 59) rfl
  have d11_59 := blk_cell hB11 (j := 59) rfl
  have hr11_0 : w.heap.size < w11.heap.size := (Array.getElem?_eq_some_iff.1 hA11).1
  have hr11_1 : w.heap.size + 1 < w11.heap.size := (Array.getElem?_eq_some_iff.1 hB11).1
  clear hm11 hA10 hB10 hM10 hr10_0 hr10_1 c10_54 d10_54 c10_55 d10_55 c10_56 d10_56 c10_57 d10_57
  clear hA11 hB11
  go_wp2
  go_ret
  exact ⟨rfl, hM11⟩

end Go.Proofs.Ythffgbhphjkdeaa
namespace Go.Proofs.Ythffgbhphjkdeaa
open Go.RowKit

theorem info_Rule : (Try.prog.info? 152).map (fun i => (i.zero, i.size, i.bytes)) = some (some (.agg #[.int .i64 0, .int .i64 0, .int .i64 0]), 3, 24) := by kernel_rfl

end Go.Proofs.Ythffgbhphjkdeaa
namespace Go.Proofs.Ythffgbhphjkdeaa
open Go.RowKit

theorem toRule_any (x : Rule) (w : World) : Calls Try.prog 181 #[.agg #[.int .i64 x.room, .int .i64 x.wide, .int .i64 x.high]] w fun e w' => e = .returned (.agg #[.int .i64 x.room, .int .i64 x.wide, .int .i64 x.high]) ∧ Mod (fun _ => False) w w' := by
  go_enter Try.func181, Try.ntmps181
  go_wp2
  refine bodyPost_ret (v := .agg #[.int .i64 x.room, .int .i64 x.wide, .int .i64 x.high]) (by simp [results, Try.results181, go_sem]) rfl ⟨rfl, by (repeat (first | with_reducible exact Mod.refl _ _ | with_reducible refine Mod.drewN ?_ _ | with_reducible refine Mod.drew ?_ | with_reducible refine Mod.alloc ?_ _ | ((with_reducible refine Mod.setNew ?_ ?_ _ _ _); (rotate_left; omega)) | with_reducible refine Mod.setAt ?_ _ _ _ ))⟩

set_option maxHeartbeats 1000000 in
theorem eqRule_any (x y : Rule) (w : World) : Calls Try.prog 182 #[.agg #[.int .i64 x.room, .int .i64 x.wide, .int .i64 x.high], .agg #[.int .i64 y.room, .int .i64 y.wide, .int .i64 y.high]] w fun e w' => e = .returned (.bool (decide (x = y))) ∧ Mod (fun _ => False) w w' := by
  obtain ⟨x0, x1, x2⟩ := x
  obtain ⟨y0, y1, y2⟩ := y
  go_enter Try.func182, Try.ntmps182
  go_wp2
  all_goals
    go_ret
    refine ⟨ret_bool ?_, by (repeat (first | with_reducible exact Mod.refl _ _ | with_reducible refine Mod.drewN ?_ _ | with_reducible refine Mod.drew ?_ | with_reducible refine Mod.alloc ?_ _ | ((with_reducible refine Mod.setNew ?_ ?_ _ _ _); (rotate_left; omega)) | with_reducible refine Mod.setAt ?_ _ _ _ ))⟩
    simp_all


end Go.Proofs.Ythffgbhphjkdeaa
namespace Go.Proofs.Ythffgbhphjkdeaa
open Go.RowKit

theorem szRuleS_any (n c : Nat) (a : Option Addr) (left : Int) (h0 : 0 ≤ left) (h1 : left ≤ 1048576) (hn : n ≤ 9223372036854775807) (w : World) : Calls Try.prog 171 #[.slice a n c, .int .i64 left] w fun e w' => e = .returned (.int .i64 (if left < n then -1 else left - n)) ∧ w = w' := by
  by_cases h : left < n
  · rw [if_pos h]
    have h2 : left - n < 0 := by omega
    have h3 : -9223372036854775807 ≤ left - n := by omega
    go_enter Try.func171, Try.ntmps171
    go_wp2
    go_ret
    exact ⟨rfl, rfl⟩
  · rw [if_neg h]
    have h2 : 0 ≤ left - n := by omega
    go_enter Try.func171, Try.ntmps171
    go_wp2
    go_ret
    exact ⟨rfl, rfl⟩

set_option maxRecDepth 100000 in
set_option maxHeartbeats 1000000 in
theorem toRuleS_any (l : List Rule) (a : Option Addr) (c : Nat) (R : Nat → Prop) (w : World) (hl : l.length ≤ 1048576) (h : SliceAt (Flat Rule.cells) 3 R w a l) :
    Calls Try.prog 175 #[.slice a l.length c] w (NewRows 152 w l.length (l.map Rule.cells).flatten) := by
  have H := hid h
  clear h
  obtain ⟨i0, hi, hz0, hz1, hz2⟩ := info_parts info_Rule
  have hmk : ∀ W : World, (Instr.makeSlice 74 (.int .i64 (l.length : Int)) (.int .i64 (l.length : Int))).run Try.prog W = .ok (.slice (some ⟨W.heap.size, 0, none⟩) l.length l.length) (W.alloc (.cells (madeCells (Value.cells (.agg #[.int .i64 0, .int .i64 0, .int .i64 0])) (l.length * 3)) 152)) := by
    intro W
    have := run_make (P := Try.prog) W 74 152 i0 _ Try.underlying74 hi hz0 .i64 .i64 l.length l.length (by omega) (by omega) (by rw [hz2]; omega) (by omega)
    simpa [hz1] using this
  clear hz0 hz1 hz2 hi
  go_enter Try.func175, Try.ntmps175
  go_wp2
  go_loopw [4] (fun i wr => ∃ k : Nat, k ≤ l.length ∧ i = .int .i64 k ∧ Filled w.heap.size 152 (l.length * 3) wr ((l.take k).map Rule.cells).flatten ∧ Mod (fun _ => False) w wr) (fun i _ => l.length - (intOf i).toNat)
  case atStart => exact ⟨0, by omega, rfl, Filled.made w _ _ _ (size_madeCells _ _), (Mod.refl _ w).alloc _⟩
  case round =>
    obtain ⟨k, hk, rfl, hF, hM⟩ := hrel
    clear hmk
    by_cases hlt : k < l.length
    · obtain ⟨b, o, x, r, rfl, hb, hbw, hx, hr, hrl, hc⟩ := (H.out.mod hM (fun _ _ f => f) (fun _ _ h => h)).get hlt
      obtain rfl : r = x.cells := hr
      have c0 : wr.cell? ⟨b, o + k * 3, none⟩ = _ := hc 0 _ rfl
      have c1 : wr.cell? ⟨b, o + k * 3 + 1, none⟩ = _ := hc 1 _ rfl
      have c2 : wr.cell? ⟨b, o + k * 3 + 2, none⟩ = _ := hc 2 _ rfl
      clear hc hrl
      go_wp2_with fail
      refine (toRule_any x _).mono ?_
      rintro e w1 ⟨rfl, hm1⟩
      have hF1 := hF.mod hm1 (fun f => f)
      obtain ⟨v0, d0⟩ := hF1.cell (off := k * 3) (by omega)
      obtain ⟨v1, d1⟩ := hF1.cell (off := k * 3 + 1) (by omega)
      obtain ⟨v2, d2⟩ := hF1.cell (off := k * 3 + 2) (by omega)
      have z0 := hF1.free (k * 3)
      have z1 := hF1.free (k * 3 + 1)
      have z2 := hF1.free (k * 3 + 2)
      go_wp2
      go_roundw
      case rel =>
        refine ⟨k + 1, by omega, by go_num, ?_, ?_⟩
        · have hl0 := flat_length (cells := Rule.cells) (sz := 3) (fun _ => rfl) (l.take k)
          rw [take_length_of_lt hk] at hl0
          rw [flat_succ hx]
          have e : ∀ s : List Value, s ++ x.cells = s ++ [.int .i64 x.room] ++ [.int .i64 x.wide] ++ [.int .i64 x.high] := by intro s; simp [Rule.cells]
          rw [e]
          generalize ((l.take k).map Rule.cells).flatten = s at hF1 hl0
          exact (((hF1.push (off := k * 3) (by simp [hl0]) (by omega) _).push (off := k * 3 + 1) (by simp [hl0]) (by omega) _).push (off := k * 3 + 2) (by simp [hl0]) (by omega) _)
        · have hM1 := hM.thenNone hm1
          (repeat (first | with_reducible exact Mod.refl _ _ | with_reducible refine Mod.drewN ?_ _ | with_reducible refine Mod.drew ?_ | with_reducible refine Mod.alloc ?_ _ | ((with_reducible refine Mod.setNew ?_ ?_ _ _ _); (rotate_left; omega)) | with_reducible refine Mod.setAt ?_ _ _ _ | with_reducible exact hM1 | with_reducible refine Mod.thenNone ?_ hM1 ))
      case measure => simp [intOf]; omega
    · have hk' : k = l.length := by omega
      subst hk'
      go_wp2
      go_ret
      refine ⟨w.heap.size, rfl, Nat.le_refl _, ?_, hM⟩
      rw [List.take_length] at hF
      exact hF.full (flat_length (cells := Rule.cells) (sz := 3) (fun _ => rfl) l)

set_option maxRecDepth 100000 in
set_option maxHeartbeats 1000000 in
theorem eqRuleS_any (l m : List Rule) (a a' : Option Addr) (c c' : Nat) (R S : Nat → Prop) (w : World) (hl : l.length ≤ 9223372036854775807) (_hm : m.length ≤ 9223372036854775807) (h : SliceAt (Flat Rule.cells) 3 R w a l) (h' : SliceAt (Flat Rule.cells) 3 S w a' m) :
    Calls Try.prog 179 #[.slice a l.length c, .slice a' m.length c'] w fun e w' => e = .returned (.bool (decide (l = m))) ∧ Mod (fun _ => False) w w' := by
  have H := hid h
  have H' := hid h'
  clear h h'
  by_cases hlen : l.length = m.length
  · have hn0 : ((l.length : Int) != (m.length : Int)) = false := by simp [hlen]
    have hn1 : l.length ≤ m.length := by omega
    have hn2 : m.length ≤ l.length := by omega
    clear hlen
    go_enter Try.func179, Try.ntmps179
    go_wp2
    go_loopw [5] (fun i wr => ∃ k : Nat, k ≤ l.length ∧ i = .int .i64 k ∧ SameTo l m k ∧ Mod (fun _ => False) w wr) (fun i _ => l.length - (intOf i).toNat)
    case atStart => exact ⟨0, by omega, rfl, rfl, Mod.refl _ _⟩
    case round =>
      obtain ⟨k, hk, rfl, hsame, hmod⟩ := hrel
      by_cases hlt : k < l.length
      · obtain ⟨b, o, x, r, rfl, hb, hbw, hx, hr, hrl, hc⟩ := (H.out.mod hmod (fun _ _ f => f) (fun _ _ h => h)).get hlt
        obtain rfl : r = x.cells := hr
        obtain ⟨b', o', y, r', rfl, hb', hbw', hy, hr', hrl', hd⟩ := (H'.out.mod hmod (fun _ _ f => f) (fun _ _ h => h)).get (show k < m.length by omega)
        obtain rfl : r' = y.cells := hr'
        have hlt2 : k < m.length := by omega
        have c0 : wr.cell? ⟨b, o + k * 3, none⟩ = _ := hc 0 _ rfl
        have d0 : wr.cell? ⟨b', o' + k * 3, none⟩ = _ := hd 0 _ rfl
        have c1 : wr.cell? ⟨b, o + k * 3 + 1, none⟩ = _ := hc 1 _ rfl
        have d1 : wr.cell? ⟨b', o' + k * 3 + 1, none⟩ = _ := hd 1 _ rfl
        have c2 : wr.cell? ⟨b, o + k * 3 + 2, none⟩ = _ := hc 2 _ rfl
        have d2 : wr.cell? ⟨b', o' + k * 3 + 2, none⟩ = _ := hd 2 _ rfl
        clear hc hd hrl hrl'
        by_cases hxy : x = y
        · have hd : decide (x = y) = true := decide_eq_true hxy
          have Hxy := hid hxy
          clear hxy
          go_wp2
          go_still_tail 8, (by kernel_rfl)
          go_wp2_with fail
          refine (eqRule_any x y _).mono ?_
          rintro e w1 ⟨rfl, hm1⟩
          go_wp2
          go_roundw
          case rel => exact ⟨k + 1, by omega, by go_num, hsame.succ hx (Hxy.out ▸ hy), hmod.drew.thenNone hm1⟩
          case measure => simp [intOf]; omega
        · have hd : decide (x = y) = false := decide_eq_false hxy
          go_wp2
          go_still_tail 8, (by kernel_rfl)
          go_wp2_with fail
          refine (eqRule_any x y _).mono ?_
          rintro e w1 ⟨rfl, hm1⟩
          go_wp2
          go_ret
          exact ⟨ret_bool (decide_eq_false (ne_at hx hy hxy)).symm, hmod.drew.thenNone hm1⟩
      · go_wp2
        go_ret
        exact ⟨ret_bool (decide_eq_true (hsame.all (by omega) (by omega))).symm, hmod⟩
  · have hn0 : ((l.length : Int) != (m.length : Int)) = true := by simp; omega
    have hne : l ≠ m := fun h => hlen (by rw [h])
    clear hlen
    go_enter Try.func179, Try.ntmps179
    go_wp2
    go_ret
    exact ⟨ret_bool (decide_eq_false hne).symm, Mod.refl _ _⟩

/-- A marked element's cells, its first mark q. -/
def Rule.marked (q : Int) : List Value := [.int .i64 (q), .int .i64 (q + 1), .int .i64 (q + 1 + 1)]
def Rule.marks (q : Int) : Nat → List Value
  | 0 => []
  | k + 1 => Rule.marks q k ++ Rule.marked (q + k * 3)
theorem Rule.marks_length (q : Int) (k : Nat) : (Rule.marks q k).length = k * 3 := by
  induction k with
  | zero => simp [Rule.marks]
  | succ k ih => simp [Rule.marks, Rule.marked, ih]; omega

set_option maxRecDepth 100000 in
set_option maxHeartbeats 1000000 in
theorem markRuleS_any (n c : Nat) (a : Option Addr) (g N : Nat) (w : World) (q0 : Int) (hq0 : 0 ≤ q0) (hq1 : q0 ≤ 1000000000000000) (hn : n ≤ 1048576) (h : n = 0 ∨ a = some ⟨g, 0, none⟩ ∧ n * 3 ≤ N ∧ Filled g 152 N w []) :
    Calls Try.prog 138 #[.slice a n c, .int .i64 q0] w fun e w' => e = .returned (.int .i64 (q0 + n * 3)) ∧ Mod (fun k => k = g) w w' ∧ (n = 0 ∨ Filled g 152 N w' (Rule.marks q0 n)) := by
  have H := hid h
  clear h
  go_enter Try.func138, Try.ntmps138
  go_wp2
  go_loopw [1, 5] (fun z i wr => ∃ (k : Nat) (q : Int), k ≤ n ∧ z = .int .i64 q ∧ Hid (q = q0 + k * 3) ∧ 0 ≤ q ∧ q ≤ 10000000000000000 ∧ i = .int .i64 k ∧ Mod (fun k => k = g) w wr ∧ (n = 0 ∨ Filled g 152 N wr (Rule.marks q0 k))) (fun _ i _ => n - (intOf i).toNat)
  case atStart =>
    refine ⟨0, q0, by omega, rfl, by show q0 = q0 + _; omega, by omega, by omega, rfl, Mod.refl _ _, ?_⟩
    rcases H.out with h | ⟨_, _, h⟩
    · exact .inl h
    · exact .inr h
  case round =>
    obtain ⟨k, q, hk, rfl, hq, q1, q2, rfl, hM, hF0⟩ := hrel
    by_cases hlt : k < n
    · rcases H.out with h | ⟨rfl, hN, _⟩
      · omega
      have hF := hF0.resolve_left (by omega)
      have hl0 := Rule.marks_length q0 k
      clear hF0
      obtain ⟨v0, d0⟩ := hF.cell (off := k * 3) (by omega)
      have z0 := hF.free (k * 3)
      obtain ⟨v1, d1⟩ := hF.cell (off := k * 3 + 1) (by omega)
      have z1 := hF.free (k * 3 + 1)
      obtain ⟨v2, d2⟩ := hF.cell (off := k * 3 + 2) (by omega)
      have z2 := hF.free (k * 3 + 2)
      have HF := hid hF
      have Hl0 := hid hl0
      clear hF hl0
      go_wp2
      go_roundw
      case rel =>
        have hF := HF.out
        have hl0 := Hl0.out
        have hq' := hq.out
        refine ⟨k + 1, q + 1 + 1 + 1, by omega, rfl, by show q + 1 + 1 + 1 = _; omega, by omega, by omega, by go_num, by (repeat (first | with_reducible exact Mod.refl _ _ | with_reducible refine Mod.drewN ?_ _ | with_reducible refine Mod.drew ?_ | with_reducible refine Mod.alloc ?_ _ | ((with_reducible refine Mod.setNew ?_ ?_ _ _ _); (rotate_left; omega)) | with_reducible refine Mod.setAt ?_ _ _ _ | with_reducible exact hM | with_reducible refine Mod.thenNone ?_ hM )), .inr ?_⟩
        have e : Rule.marks q0 (k + 1) = Rule.marks q0 k ++ [.int .i64 (q)] ++ [.int .i64 (q + 1)] ++ [.int .i64 (q + 1 + 1)] := by
          simp [Rule.marks, Rule.marked, ← hq']
        rw [e]
        exact (((hF.push (off := k * 3) (by simp [hl0]) (by omega) _).push (off := k * 3 + 1) (by simp [hl0]) (by omega) _).push (off := k * 3 + 2) (by simp [hl0]) (by omega) _)
      case measure => simp [intOf]; omega
    · have hk' : k = n := by omega
      subst hk'
      go_wp2
      go_ret
      exact ⟨ret_int hq.out, hM, hF0⟩

theorem Rule.marks_at (q0 : Int) (n k j : Nat) (v : Value) (hk : k < n) (hj : (Rule.marked (q0 + k * 3))[j]? = some v) : (Rule.marks q0 n)[k * 3 + j]? = some v := by
  have hjl : j < 3 := by
    have := (List.getElem?_eq_some_iff.1 hj).1
    simpa [Rule.marked] using this
  induction n with
  | zero => omega
  | succ n ih =>
    have hl := Rule.marks_length q0 n
    unfold Rule.marks
    by_cases e : k = n
    · subst e
      rw [List.getElem?_append_right (by omega), hl, Nat.add_sub_cancel_left]
      exact hj
    · rw [List.getElem?_append_left (by rw [hl]; omega)]
      exact ih (by omega)
theorem Rule.marks_cell {g e N n k : Nat} {w : World} {q0 q : Int} (hF : Filled g e N w (Rule.marks q0 n)) (hk : k < n) (hq : Hid (q = q0 + k * 3)) (j : Nat) (v : Value) (hj : (Rule.marked q)[j]? = some v) : w.cell? ⟨g, k * 3 + j, none⟩ = some v :=
  hF.read (Rule.marks_at q0 n k j v hk (by rw [← hq.out]; exact hj))

end Go.Proofs.Ythffgbhphjkdeaa
namespace Go.Proofs.Ythffgbhphjkdeaa
open Go.RowKit

/-- A struct that holds one new slice. -/
def NewTable (e : TypeId) (w : World) (n : Nat) (xs : List Value) (en : Ending) (w' : World) : Prop :=
  ∃ g, en = .returned (.agg #[.slice (some ⟨g, 0, none⟩) n n]) ∧ w.heap.size ≤ g ∧ w'.heap[g]? = some (.cells xs.toArray e (0, 0)) ∧ Mod (fun _ => False) w w'

set_option maxHeartbeats 1000000 in
theorem toTable_any (l : List Rule) (a : Option Addr) (c : Nat) (R : Nat → Prop) (w : World) (hl : l.length ≤ 1048576) (h : SliceAt (Flat Rule.cells) 3 R w a l) :
    Calls Try.prog 152 #[.agg #[.slice a l.length c]] w (NewTable 152 w l.length (l.map Rule.cells).flatten) := by
  have H := hid h
  clear h
  go_enter Try.func152, Try.ntmps152
  go_wp2_with fail
  refine (toRuleS_any l _ _ _ _ hl (H.out.flatKeep (by (repeat (first | with_reducible exact Mod.refl _ _ | with_reducible refine Mod.drewN ?_ _ | with_reducible refine Mod.drew ?_ | with_reducible refine Mod.alloc ?_ _ | ((with_reducible refine Mod.setNew ?_ ?_ _ _ _); (rotate_left; omega)) | with_reducible refine Mod.setAt ?_ _ _ _ ))))).mono ?_
  rintro e w1 ⟨g, rfl, hg, hb, hm1⟩
  obtain ⟨hq1, hz1⟩ := mcell hm1
  have hs1 := hm1.size
  repeat (first | rw [World.size_alloc] at hs1 | rw [World.size_setCell] at hs1 | rw [World.size_drew] at hs1 | unfold World.drewN at hs1)
  have hr1_0 : w.heap.size < w1.heap.size := by omega
  have hr1_1 : w.heap.size + 1 < w1.heap.size := by omega
  have hr1_2 : w.heap.size + 1 + 1 < w1.heap.size := by omega
  simp only [World.size_alloc] at hg
  have hne : g ≠ w.heap.size + 1 + 1 := by omega
  have hne' : g ≠ w.heap.size + 1 := by omega
  have Hb := hid hb
  clear hb
  go_wp2
  refine bodyPost_ret (v := .agg #[.slice (some ⟨g, 0, none⟩) l.length l.length]) ?_ rfl ⟨g, rfl, by omega, ?_, ?_⟩
  · simp [results, Try.results152, go_sem, *]
  · simp only [blk_far hne, blk_far hne']
    exact Hb.out
  · (repeat (first | with_reducible exact Mod.refl _ _ | with_reducible refine Mod.drewN ?_ _ | with_reducible refine Mod.drew ?_ | with_reducible refine Mod.alloc ?_ _ | ((with_reducible refine Mod.setNew ?_ ?_ _ _ _); (rotate_left; omega)) | with_reducible refine Mod.setAt ?_ _ _ _ | with_reducible exact hm1 | with_reducible refine Mod.thenNone ?_ hm1 ))

set_option maxHeartbeats 1000000 in
theorem eqTable_any (l m : List Rule) (a a' : Option Addr) (c c' : Nat) (R S : Nat → Prop) (w : World) (hl : l.length ≤ 9223372036854775807) (hm : m.length ≤ 9223372036854775807) (h : SliceAt (Flat Rule.cells) 3 R w a l) (h' : SliceAt (Flat Rule.cells) 3 S w a' m) :
    Calls Try.prog 157 #[.agg #[.slice a l.length c], .agg #[.slice a' m.length c']] w fun e w' => e = .returned (.bool (decide (l = m))) ∧ Mod (fun _ => False) w w' := by
  have H := hid h
  have H' := hid h'
  clear h h'
  by_cases hx : l = m
  · have hd : decide (l = m) = true := decide_eq_true hx
    have Hx := hid hx
    clear hx
    go_enter Try.func157, Try.ntmps157
    go_wp2_with fail
    refine (eqRuleS_any l m _ _ _ _ _ _ _ hl hm (H.out.flatKeep (by (repeat (first | with_reducible exact Mod.refl _ _ | with_reducible refine Mod.drewN ?_ _ | with_reducible refine Mod.drew ?_ | with_reducible refine Mod.alloc ?_ _ | ((with_reducible refine Mod.setNew ?_ ?_ _ _ _); (rotate_left; omega)) | with_reducible refine Mod.setAt ?_ _ _ _ )))) (H'.out.flatKeep (by (repeat (first | with_reducible exact Mod.refl _ _ | with_reducible refine Mod.drewN ?_ _ | with_reducible refine Mod.drew ?_ | with_reducible refine Mod.alloc ?_ _ | ((with_reducible refine Mod.setNew ?_ ?_ _ _ _); (rotate_left; omega)) | with_reducible refine Mod.setAt ?_ _ _ _ ))))).mono ?_
    rintro e w1 ⟨rfl, hm1⟩
    go_wp2
    go_ret
    exact ⟨ret_bool hd.symm, by (repeat (first | with_reducible exact Mod.refl _ _ | with_reducible refine Mod.drewN ?_ _ | with_reducible refine Mod.drew ?_ | with_reducible refine Mod.alloc ?_ _ | ((with_reducible refine Mod.setNew ?_ ?_ _ _ _); (rotate_left; omega)) | with_reducible refine Mod.setAt ?_ _ _ _ | with_reducible exact hm1 | with_reducible refine Mod.thenNone ?_ hm1 ))⟩
  · have hd : decide (l = m) = false := decide_eq_false hx
    go_enter Try.func157, Try.ntmps157
    go_wp2_with fail
    refine (eqRuleS_any l m _ _ _ _ _ _ _ hl hm (H.out.flatKeep (by (repeat (first | with_reducible exact Mod.refl _ _ | with_reducible refine Mod.drewN ?_ _ | with_reducible refine Mod.drew ?_ | with_reducible refine Mod.alloc ?_ _ | ((with_reducible refine Mod.setNew ?_ ?_ _ _ _); (rotate_left; omega)) | with_reducible refine Mod.setAt ?_ _ _ _ )))) (H'.out.flatKeep (by (repeat (first | with_reducible exact Mod.refl _ _ | with_reducible refine Mod.drewN ?_ _ | with_reducible refine Mod.drew ?_ | with_reducible refine Mod.alloc ?_ _ | ((with_reducible refine Mod.setNew ?_ ?_ _ _ _); (rotate_left; omega)) | with_reducible refine Mod.setAt ?_ _ _ _ ))))).mono ?_
    rintro e w1 ⟨rfl, hm1⟩
    go_wp2
    go_ret
    exact ⟨ret_bool hd.symm, by (repeat (first | with_reducible exact Mod.refl _ _ | with_reducible refine Mod.drewN ?_ _ | with_reducible refine Mod.drew ?_ | with_reducible refine Mod.alloc ?_ _ | ((with_reducible refine Mod.setNew ?_ ?_ _ _ _); (rotate_left; omega)) | with_reducible refine Mod.setAt ?_ _ _ _ | with_reducible exact hm1 | with_reducible refine Mod.thenNone ?_ hm1 ))⟩

end Go.Proofs.Ythffgbhphjkdeaa
namespace Go.Proofs.Ythffgbhphjkdeaa
open Go.RowKit

/-- The cells cs read as a datum of type t. -/
def Rd (P : Program) (w : World) (t : TypeId) (cs : List Value) : Prop :=
  ∃ (H : Type) (enc : TypeId × Value → H) (fuel : Nat) (x : DataW H × List MemPlace), DataW.trod enc P w 0 (fun _ => true) true fuel t cs = some x

section
variable {P : Program} {w : World} {t e : TypeId} {cs : List Value}
theorem Rd.int {k : IntKind} (h : Rd P w t cs) (hu : P.underlying t = some (.int k)) : ∃ n, cs = [.int k n] ∧ (Lit.int k n).wf = true := by
  obtain ⟨H, enc, fuel, x, h⟩ := h
  obtain ⟨n, h1, _, h2⟩ := DataW.trod_int hu h
  exact ⟨n, h1, h2⟩
theorem Rd.bool (h : Rd P w t cs) (hu : P.underlying t = some .bool) : ∃ b, cs = [.bool b] := by
  obtain ⟨H, enc, fuel, x, h⟩ := h
  obtain ⟨n, h1, _⟩ := DataW.trod_bool hu h
  exact ⟨n, h1⟩
theorem Rd.string (h : Rd P w t cs) (hu : P.underlying t = some .string) : ∃ s : ByteArray, cs = [.string s] ∧ s.size ≤ maxLen := by
  obtain ⟨H, enc, fuel, x, h⟩ := h
  obtain ⟨n, h1, _, h2⟩ := DataW.trod_string hu h
  exact ⟨n, h1, h2⟩
theorem Rd.struct {fs : Array Field} (h : Rd P w t cs) (hu : P.underlying t = some (.struct fs)) :
    cs.length = P.cellsOf t ∧ ∀ (i : Nat) (f : Field), fs[i]? = some f → Rd P w f.type ((cs.drop f.offset).take (P.cellsOf f.type)) := by
  obtain ⟨H, enc, fuel, x, h⟩ := h
  obtain ⟨xs, n, _, _, hl, hxl, hf⟩ := DataW.trod_struct hu h
  refine ⟨hl, fun i f hi => ?_⟩
  have h1 := hf i f hi
  have hil : i < xs.length := by rw [hxl]; exact (Array.getElem?_eq_some_iff.1 hi).1
  rw [List.getElem?_eq_getElem hil] at h1
  exact ⟨H, enc, n, _, h1⟩
theorem Rd.slice (h : Rd P w t cs) (hu : P.underlying t = some (.slice e)) (hc : 0 < P.cellsOf e) :
    ∃ (a : Option Addr) (len cap : Nat), cs = [.slice a len cap] ∧ len ≤ cap ∧ cap ≤ maxLen ∧
      (len = 0 ∨ ∃ b o, a = some ⟨b, o, none⟩ ∧ b < w.heap.size ∧ ∀ i, i < len → ∃ cs', (cs'.length = P.cellsOf e ∧ ∀ (j : Nat) (v : Value), cs'[j]? = some v → w.cell? ⟨b, o + i * P.cellsOf e + j, none⟩ = some v) ∧ Rd P w e cs') := by
  obtain ⟨H, enc, fuel, x, h⟩ := h
  rcases DataW.trod_slice hu h with ⟨h1, _⟩ | ⟨a, len, cap, elems, rest, n, _, h1, _, _, hl, hm, hlen, hel, _⟩
  · exact ⟨_, _, _, h1, Nat.le_refl _, Nat.zero_le _, .inl rfl⟩
  · refine ⟨some a, len, cap, h1, hl, hm, ?_⟩
    by_cases h0 : len = 0
    · exact .inl h0
    · have rows : ∀ i, i < len → ∃ cs', (cs'.length = P.cellsOf e ∧ ∀ (j : Nat), j < P.cellsOf e → w.cell? ((a.add (i * P.cellsOf e)).add j) = cs'[j]?) ∧ Rd P w e cs' := by
        intro i hi
        have h2 := hel i hi
        rw [List.getElem?_eq_getElem (by omega)] at h2
        obtain ⟨cs', h3, h4⟩ := Option.bind_eq_some_iff.1 h2
        obtain ⟨_, h5, h6⟩ := World.cells?_some h3
        exact ⟨cs', ⟨h5, h6⟩, H, enc, n, _, h4⟩
      obtain ⟨b, o, s⟩ := a
      have hs : s = none := by
        obtain ⟨cs', ⟨h5, h6⟩, _⟩ := rows 0 (by omega)
        have h7 := h6 0 hc
        rw [List.getElem?_eq_getElem (by omega)] at h7
        simpa [Addr.add] using World.cell?_spot h7
      subst hs
      have ea : ∀ p q r : Nat, ((⟨p, q, none⟩ : Addr).add r) = ⟨p, q + r, none⟩ := by intro p q r; unfold Addr.add; split <;> simp_all
      have hb : b < w.heap.size := by
        obtain ⟨cs', ⟨h5, h6⟩, _⟩ := rows 0 (by omega)
        have h7 := h6 0 hc
        rw [List.getElem?_eq_getElem (by omega), ea, ea] at h7
        exact World.block_lt_of_cell? w ⟨b, _, none⟩ h7
      refine .inr ⟨b, o, rfl, hb, fun i hi => ?_⟩
      obtain ⟨cs', ⟨h5, h6⟩, h7⟩ := rows i hi
      refine ⟨cs', ⟨h5, fun j v hj => ?_⟩, h7⟩
      have h8 := h6 j (by have := (List.getElem?_eq_some_iff.1 hj).1; omega)
      rw [ea, ea] at h8
      rw [h8, hj]
end

theorem rd_list {α : Type} {rep : List Value → α → Prop} {Q : Nat → List Value → Prop} (n : Nat) (h : ∀ i, i < n → ∃ cs, Q i cs ∧ ∃ x, rep cs x) :
    ∃ (rows : List (List Value)) (l : List α), rows.length = n ∧ l.length = n ∧ (∀ (i : Nat) (r : List Value), rows[i]? = some r → Q i r) ∧ ∀ (i : Nat) (r : List Value) (x : α), rows[i]? = some r → l[i]? = some x → rep r x := by
  induction n with
  | zero => exact ⟨[], [], rfl, rfl, fun i r h => by simp at h, fun i r x h => by simp at h⟩
  | succ n ih =>
    obtain ⟨rows, l, h1, h2, h3, h4⟩ := ih fun i hi => h i (by omega)
    obtain ⟨cs, hQ, x, hr⟩ := h n (by omega)
    refine ⟨rows ++ [cs], l ++ [x], by simp [h1], by simp [h2], fun i r hi => ?_, fun i r y hi hl => ?_⟩
    · by_cases e : i < rows.length
      · rw [List.getElem?_append_left e] at hi
        exact h3 i r hi
      · rw [List.getElem?_append_right (by omega)] at hi
        have : i = n := by
          have := (List.getElem?_eq_some_iff.1 hi).1
          simp at this
          omega
        subst this
        rw [h1, Nat.sub_self] at hi
        simp at hi
        subst hi
        exact hQ
    · by_cases e : i < rows.length
      · rw [List.getElem?_append_left e] at hi
        rw [List.getElem?_append_left (by omega)] at hl
        exact h4 i r y hi hl
      · rw [List.getElem?_append_right (by omega)] at hi
        rw [List.getElem?_append_right (by omega)] at hl
        have : i = n := by
          have := (List.getElem?_eq_some_iff.1 hi).1
          simp at this
          omega
        subst this
        rw [h1, Nat.sub_self] at hi
        rw [h2, Nat.sub_self] at hl
        simp at hi hl
        subst hi; subst hl
        exact hr

/-- A slice argument reads as a list. -/
theorem Rd.list {P : Program} {w : World} {t e : TypeId} {cs : List Value} {α : Type} {rep : World → List Value → α → Prop} {sz : Nat} (h : Rd P w t cs) (hu : P.underlying t = some (.slice e)) (hsz : P.cellsOf e = sz) (hp : 0 < sz)
    (hr : ∀ cs', Rd P w e cs' → ∃ x, rep w cs' x) :
    ∃ (a : Option Addr) (l : List α) (cap : Nat), cs = [.slice a l.length cap] ∧ l.length ≤ cap ∧ cap ≤ maxLen ∧ SliceAt rep sz (fun k => k < w.heap.size) w a l := by
  obtain ⟨a, len, cap, hcs, hl, hm, hrest⟩ := h.slice hu (by omega)
  rw [hsz] at hrest
  rcases hrest with h0 | ⟨b, o, rfl, hb, hrows⟩
  · subst h0
    exact ⟨a, [], cap, hcs, hl, hm, SliceAt.nil⟩
  · obtain ⟨rows, l, h1, h2, h3, h4⟩ := rd_list (rep := rep w) (Q := fun i cs' => cs'.length = sz ∧ ∀ (j : Nat) (v : Value), cs'[j]? = some v → w.cell? ⟨b, o + i * sz + j, none⟩ = some v) len
      fun i hi => by
        obtain ⟨cs', hQ, hrd⟩ := hrows i hi
        exact ⟨cs', hQ, hr cs' hrd⟩
    subst h2
    exact ⟨_, l, cap, hcs, hl, hm, rows, .inr ⟨b, o, rfl, hb, hb, h3⟩, h1, h4⟩

theorem wf_i64 {n : Int} (h : (Lit.int .i64 n).wf = true) : -9223372036854775808 ≤ n ∧ n ≤ 9223372036854775807 := by
  simp [Lit.wf, IntKind.min, IntKind.max, IntKind.signed, IntKind.bits] at h
  omega

/-- A reading with a property of each element: the reading, and the property of all. -/
theorem SliceAt.split {α : Type} {cells : α → List Value} {p : α → Prop} {sz : Nat} {R : Nat → Prop} {w : World} {a : Option Addr} {l : List α} (h : SliceAt (fun _ r x => r = cells x ∧ p x) sz R w a l) :
    SliceAt (Flat cells) sz R w a l ∧ ∀ x ∈ l, p x := by
  obtain ⟨rows, h1, h2, h3⟩ := h
  refine ⟨⟨rows, h1, h2, fun i r x hr hx => (h3 i r x hr hx).1⟩, fun x hx => ?_⟩
  obtain ⟨i, hi, rfl⟩ := List.mem_iff_getElem.1 hx
  have hr : rows[i]? = some (rows[i]'(by omega)) := List.getElem?_eq_getElem (by omega)
  exact (h3 i _ _ hr (List.getElem?_eq_getElem hi)).2

end Go.Proofs.Ythffgbhphjkdeaa
namespace Go.Proofs.Ythffgbhphjkdeaa
open Go.RowKit

theorem szTable_any (n c : Nat) (a : Option Addr) (left : Int) (h0 : 0 ≤ left) (h1 : left ≤ 1048576) (hn : n ≤ 9223372036854775807) (w : World) : Calls Try.prog 148 #[.agg #[.slice a n c], .int .i64 left] w fun e w' => e = .returned (.int .i64 (if left < n then -1 else left - n)) ∧ Mod (fun _ => False) w w' := by
  by_cases h : left < n
  · rw [if_pos h]
    go_enter Try.func148, Try.ntmps148
    go_wp2_with fail
    refine (szRuleS_any _ _ _ _ h0 h1 hn _).mono ?_
    rintro e w' ⟨rfl, rfl⟩
    rw [if_pos h]
    go_wp2
    go_ret
    exact ⟨rfl, by (repeat (first | with_reducible exact Mod.refl _ _ | with_reducible refine Mod.drewN ?_ _ | with_reducible refine Mod.drew ?_ | with_reducible refine Mod.alloc ?_ _ | ((with_reducible refine Mod.setNew ?_ ?_ _ _ _); (rotate_left; omega)) | with_reducible refine Mod.setAt ?_ _ _ _ ))⟩
  · rw [if_neg h]
    have h2 : 0 ≤ left - n := by omega
    go_enter Try.func148, Try.ntmps148
    go_wp2_with fail
    refine (szRuleS_any _ _ _ _ h0 h1 hn _).mono ?_
    rintro e w' ⟨rfl, rfl⟩
    rw [if_neg (by omega)]
    go_wp2
    go_ret
    exact ⟨rfl, by (repeat (first | with_reducible exact Mod.refl _ _ | with_reducible refine Mod.drewN ?_ _ | with_reducible refine Mod.drew ?_ | with_reducible refine Mod.alloc ?_ _ | ((with_reducible refine Mod.setNew ?_ ?_ _ _ _); (rotate_left; omega)) | with_reducible refine Mod.setAt ?_ _ _ _ ))⟩

set_option maxRecDepth 100000 in
theorem rd_Rule {w : World} {cs : List Value} (h : Rd Try.prog w 221 cs) : ∃ x : Rule, cs = x.cells := by
  obtain ⟨hl, hf⟩ := h.struct Try.underlying221
  have hl2 : cs.length = 3 := hl.trans (by kernel_rfl)
  have c1 : Try.prog.cellsOf 3 = 1 := by kernel_rfl
  match cs, hl2 with
  | [q0, q1, q2], _ =>
    obtain ⟨n0, e0, _⟩ := (hf 0 _ rfl).int Try.underlying3
    obtain ⟨n1, e1, _⟩ := (hf 1 _ rfl).int Try.underlying3
    obtain ⟨n2, e2, _⟩ := (hf 2 _ rfl).int Try.underlying3
    simp [c1] at e0 e1 e2
    exact ⟨⟨n0, n1, n2⟩, by simp [Rule.cells, e0, e1, e2]⟩
set_option maxRecDepth 100000 in
theorem rd_Table {w : World} {cs : List Value} (h : Rd Try.prog w 165 cs) : ∃ (a : Option Addr) (l : List Rule) (c : Nat), cs = [.slice a l.length c] ∧ l.length ≤ 9223372036854775807 ∧ SliceAt (Flat Rule.cells) 3 (fun k => k < w.heap.size) w a l := by
  obtain ⟨hl, hf⟩ := h.struct Try.underlying165
  have hl2 : cs.length = 1 := hl.trans (by kernel_rfl)
  have c1 : Try.prog.cellsOf 163 = 1 := by kernel_rfl
  match cs, hl2 with
  | [q0], _ =>
    obtain ⟨a, l, c, e, h1, h2, h3⟩ := (hf 0 _ rfl).list (rep := Flat Rule.cells) (sz := 3) Try.underlying163 (by kernel_rfl) (by decide) (fun cs h => rd_Rule h)
    simp [c1] at e
    unfold maxLen at h2
    exact ⟨a, l, c, by rw [e], by omega, h3⟩

/-- A table's value reads as its rules. -/
def TableAt (l : List Rule) (w : World) (v : Value) : Prop := ∃ a c, v = .agg #[.slice a l.length c] ∧ ∃ R, SliceAt (Flat Rule.cells) 3 R w a l
theorem TableAt.keep {l : List Rule} {w w' : World} {v : Value} (h : TableAt l w v) (hm : Mod (fun _ => False) w w') : TableAt l w' v := by
  obtain ⟨a, c, h1, R, h2⟩ := h
  exact ⟨a, c, h1, R, h2.flatKeep hm⟩
theorem NewTable.at {w w' : World} {l : List Rule} {en : Ending} (h : NewTable 152 w l.length (l.map Rule.cells).flatten en w') :
    ∃ v, en = .returned v ∧ TableAt l w' v ∧ Mod (fun _ => False) w w' := by
  obtain ⟨g, he, hg, hb, hm⟩ := h
  exact ⟨_, he, ⟨_, _, rfl, _, flat_of_blk hb (fun _ => rfl)⟩, hm⟩

end Go.Proofs.Ythffgbhphjkdeaa
namespace Go.Proofs.Ythffgbhphjkdeaa
open Go.RowKit

def icell (x : Int) : List Value := [.int .i64 x]
abbrev IntSlice (R : Nat → Prop) (w : World) (a : Option Addr) (l : List Int) : Prop := SliceAt (Flat icell) 1 R w a l

theorem IntSlice.get {R : Nat → Prop} {w : World} {a : Option Addr} {l : List Int} (h : IntSlice R w a l) {k : Nat} (hk : k < l.length) :
    ∃ b o x, a = some ⟨b, o, none⟩ ∧ R b ∧ b < w.heap.size ∧ Hid (l[k]? = some x) ∧ w.cell? ⟨b, o + k, none⟩ = some (.int .i64 x) := by
  obtain ⟨b, o, x, r, rfl, hR, hb, hx, hr, _, hc⟩ := SliceAt.get h hk
  obtain rfl : r = icell x := hr
  have := hc 0 _ rfl
  rw [Nat.mul_one, Nat.add_zero] at this
  exact ⟨b, o, x, rfl, hR, hb, hx, this⟩
theorem IntSlice.at {R : Nat → Prop} {w : World} {a : Option Addr} {l : List Int} (h : IntSlice R w a l) : IntsAt w a l := by
  by_cases hl : l = []
  · exact .inl hl
  · obtain ⟨b, o, x, rfl, _⟩ := h.get (List.length_pos_iff.2 hl)
    refine .inr ⟨b, o, rfl, fun i hi => ?_⟩
    obtain ⟨b', o', y, e, _, _, hy, hc⟩ := h.get hi
    simp only [Option.some.injEq, Addr.mk.injEq, and_true] at e
    obtain ⟨rfl, rfl⟩ := e
    rw [hc]
    have := hy.out
    simp [List.getD, this]
theorem icells_length (l : List Int) : (l.map icell).flatten.length = l.length * 1 := flat_length (cells := icell) (sz := 1) (fun _ => rfl) l
end Go.Proofs.Ythffgbhphjkdeaa
namespace Go.Proofs.Ythffgbhphjkdeaa
open Go.RowKit

def edgesOf (ops : Array Oper) (k : Nat) : List Nat := ((ops[k]?).map fun o => o.after.toList.filterMap fun e => if Region.binds .any e then some e.on else none).getD []
def anc (ops : Array Oper) : Nat → List Nat → List Nat
  | 0, acc => acc
  | n + 1, acc => anc ops n (if acc.contains n then acc ++ edgesOf ops n else acc)
/-- Who must have come up before number k. -/
def reach (ops : Array Oper) (_f k : Nat) : List Nat := anc ops k (edgesOf ops k)

def dstOf (ops : Array Oper) (i : Nat) : Option Tmp := (ops[i]?).bind (·.dst)

/-- The region is in order: edges go back; each temporary has one writer; who looks at it waits for its writer. -/
def regOkTo (n : Nat) (ops : Array Oper) : Bool :=
  Region.noSelect ops &&
  ((List.range ops.size).all fun i => match ops[i]? with
    | none => true
    | some o => o.after.all fun e => !Region.binds .any e || decide (e.on < i)) &&
  (List.range n).all fun i => match ops[i]? with
    | none => true
    | some o => (List.range n).all fun j => match dstOf ops j with
      | none => true
      | some d => (i == j || o.dst != some d) && (!(o.looksAt ops).contains d || o.after.any fun e => Region.binds .any e && e.on == j)
abbrev regOk (ops : Array Oper) : Bool := regOkTo ops.size ops

theorem regOk_spec {n : Nat} {ops : Array Oper} (h : regOkTo n ops = true) : Region.noSelect ops = true ∧
    (∀ (i : Nat) o, ops[i]? = some o → ∀ e ∈ o.after, Region.binds .any e = true → e.on < i) ∧
    (∀ (i j : Nat) o p d, i < n → j < n → ops[i]? = some o → ops[j]? = some p → p.dst = some d → o.dst = some d → i = j) ∧
    (∀ (i j : Nat) o p d, i < n → j < n → ops[i]? = some o → ops[j]? = some p → p.dst = some d → d ∈ o.looksAt ops → ∃ e ∈ o.after, Region.binds .any e = true ∧ e.on = j) := by
  unfold regOkTo at h
  simp only [Bool.and_eq_true, List.all_eq_true, List.mem_range] at h
  obtain ⟨⟨h0, hb⟩, h1⟩ := h
  have lt : ∀ (i : Nat) o, ops[i]? = some o → i < ops.size := fun i o hi => (Array.getElem?_eq_some_iff.1 hi).1
  refine ⟨h0, fun i o hi e he hbd => ?_, fun i j o p d hin hjn hi hj hp ho => ?_, fun i j o p d hin hjn hi hj hp hd => ?_⟩
  · have h2 := hb i (lt i o hi)
    simp only [hi] at h2
    have h3 := Array.all_eq_true_iff_forall_mem.1 h2 e he
    simpa [hbd] using h3
  · have h2 := h1 i hin
    simp only [hi] at h2
    have h3 := List.all_eq_true.1 h2 j (by simpa using hjn)
    have hdj : dstOf ops j = some d := by simp [dstOf, hj, hp]
    simp only [hdj, Bool.and_eq_true, Bool.or_eq_true] at h3
    rcases h3.1 with h4 | h4
    · simpa using h4
    · simp [ho] at h4
  · have h2 := h1 i hin
    simp only [hi] at h2
    have h3 := List.all_eq_true.1 h2 j (by simpa using hjn)
    have hdj : dstOf ops j = some d := by simp [dstOf, hj, hp]
    simp only [hdj, Bool.and_eq_true, Bool.or_eq_true] at h3
    rcases h3.2 with h4 | h4
    · rw [List.contains_iff_mem.2 hd] at h4; simp at h4
    · rw [← Array.any_toList] at h4
      obtain ⟨e, he, h5⟩ := List.any_eq_true.1 h4
      simp only [Bool.and_eq_true, beq_iff_eq] at h5
      exact ⟨e, Array.mem_toList_iff.1 he, h5.1, h5.2⟩

def never : Exit → Act → World → Prop := fun _ _ _ => False

/-- The walk in the text's order. x: what the calls that make memory hand back, by their number. -/
inductive RS (P : Program) (ops : Array Oper) (T : World → World → Prop) (S : World → Prop) (Q : Exit → Act → World → Prop) : Nat → List Oper → ((Nat → Value) → Act) → List (Nat × ((Nat → Value) → World → Value → Prop)) → Prop
  | done {k : Nat} {F : (Nat → Value) → Act} {U : List (Nat × ((Nat → Value) → World → Value → Prop))} (h : ∀ x w, S w → (∀ u ∈ U, u.2 x w (x u.1)) → Q .normal (F x) w) : RS P ops T S Q k [] F U
  | skip {k : Nat} {o : Oper} {rest : List Oper} {F : (Nat → Value) → Act} {U : List (Nat × ((Nat → Value) → World → Value → Prop))} (hw : ∀ x, Region.wanted o (yielded ops (F x).tmps) = false)
      (h : RS P ops T S Q (k + 1) rest (fun x => (F x).put o.dst undef) U) : RS P ops T S Q k (o :: rest) F U
  | val {k : Nat} {o : Oper} {rest : List Oper} {F : (Nat → Value) → Act} {U : List (Nat × ((Nat → Value) → World → Value → Prop))} (us : List Nat) (g : (Nat → Value) → Value)
      (hus : (us.all fun i => (reach ops ops.size k).contains i) = true) (hg : ∀ x y, (∀ i ∈ us, x i = y i) → g x = g y)
      (hw : ∀ x, Region.wanted o (yielded ops (F x).tmps) = true)
      (ho : ∀ x w, S w → (∀ u ∈ U, u.1 ∈ us → u.2 x w (x u.1)) → o.wp P (F x) w (fun a' w' => a' = (F x).put o.dst (g x) ∧ S w' ∧ T w w') never)
      (h : RS P ops T S Q (k + 1) rest (fun x => (F x).put o.dst (g x)) U) : RS P ops T S Q k (o :: rest) F U
  | newx {k : Nat} {o : Oper} {rest : List Oper} {F : (Nat → Value) → Act} {U : List (Nat × ((Nat → Value) → World → Value → Prop))} (us : List Nat) (V : ((Nat → Value) → World → Value → Prop)) (D : Value → Value) (hD : ∀ x w v, V x w v → D v = v)
      (hus : (us.all fun i => (reach ops ops.size k).contains i) = true) (hV : (∀ x w w' v, V x w v → T w w' → V x w' v) ∧ ∀ x y w v, (∀ i ∈ us, x i = y i) → V x w v → V y w v)
      (hw : ∀ x, Region.wanted o (yielded ops (F x).tmps) = true)
      (ho : ∀ x w, S w → (∀ u ∈ U, u.1 ∈ us → u.2 x w (x u.1)) → o.wp P (F x) w (fun a' w' => ∃ v, a' = (F x).put o.dst v ∧ V x w' v ∧ S w' ∧ T w w') never)
      (h : RS P ops T S Q (k + 1) rest (fun x => (F x).put o.dst (D (x k))) ((k, V) :: U)) : RS P ops T S Q k (o :: rest) F U

section
variable {P : Program} {ops : Array Oper} {T : World → World → Prop} {S : World → Prop} {Q : Exit → Act → World → Prop}

/-- The same, where what is told of a value does not hang on other values. -/
theorem RS.new {k : Nat} {o : Oper} {rest : List Oper} {F : (Nat → Value) → Act} {U : List (Nat × ((Nat → Value) → World → Value → Prop))} (us : List Nat) (V : World → Value → Prop) (D : Value → Value) (hD : ∀ w v, V w v → D v = v)
    (hus : (us.all fun i => (reach ops ops.size k).contains i) = true) (hV : ∀ w w' v, V w v → T w w' → V w' v)
    (hw : ∀ x, Region.wanted o (yielded ops (F x).tmps) = true)
    (ho : ∀ x w, S w → (∀ u ∈ U, u.1 ∈ us → u.2 x w (x u.1)) → o.wp P (F x) w (fun a' w' => ∃ v, a' = (F x).put o.dst v ∧ V w' v ∧ S w' ∧ T w w') never)
    (h : RS P ops T S Q (k + 1) rest (fun x => (F x).put o.dst (D (x k))) ((k, fun _ => V) :: U)) : RS P ops T S Q k (o :: rest) F U :=
  RS.newx us (fun _ => V) D (fun _ => hD) hus ⟨fun _ => hV, fun _ _ _ _ _ h => h⟩ hw ho h

/-- The frame behind the first k operations. -/
def frm (ops : Array Oper) (a0 : Act) (G : Nat → (Nat → Value) → Value) (x : Nat → Value) : Nat → Act
  | 0 => a0
  | k + 1 => (frm ops a0 G x k).put (dstOf ops k) (G k x)

/-- What the walk says of one operation. -/
def Spec (P : Program) (ops : Array Oper) (T : World → World → Prop) (S : World → Prop) (k : Nat) (o : Oper) (A : (Nat → Value) → Act) (U : List (Nat × ((Nat → Value) → World → Value → Prop))) (g : (Nat → Value) → Value) (nw : Option ((Nat → Value) → World → Value → Prop)) : Prop :=
  ((∀ x, Region.wanted o (yielded ops (A x).tmps) = false) ∧ g = (fun _ => undef) ∧ nw = none) ∨
  (∃ us : List Nat, (∀ i ∈ us, i ∈ reach ops ops.size k) ∧ (∀ x y, (∀ i ∈ us, x i = y i) → g x = g y) ∧ nw = none ∧ (∀ x, Region.wanted o (yielded ops (A x).tmps) = true) ∧
    ∀ x w, S w → (∀ u ∈ U, u.1 ∈ us → u.2 x w (x u.1)) → o.wp P (A x) w (fun a' w' => a' = (A x).put o.dst (g x) ∧ S w' ∧ T w w') never) ∨
  (∃ (us : List Nat) (V : ((Nat → Value) → World → Value → Prop)) (D : Value → Value), (∀ i ∈ us, i ∈ reach ops ops.size k) ∧ nw = some V ∧ (g = (fun x => D (x k)) ∧ ∀ x w v, V x w v → D v = v) ∧ ((∀ x w w' v, V x w v → T w w' → V x w' v) ∧ ∀ x y w v, (∀ i ∈ us, x i = y i) → V x w v → V y w v) ∧ (∀ x, Region.wanted o (yielded ops (A x).tmps) = true) ∧
    ∀ x w, S w → (∀ u ∈ U, u.1 ∈ us → u.2 x w (x u.1)) → o.wp P (A x) w (fun a' w' => ∃ v, a' = (A x).put o.dst v ∧ V x w' v ∧ S w' ∧ T w w') never)

theorem contains_all {us r : List Nat} (h : (us.all fun i => r.contains i) = true) : ∀ i ∈ us, i ∈ r := fun i hi => by
  have := List.all_eq_true.1 h i hi
  simpa using this

/-- What a walk from number k on holds, written out. -/
theorem RS.out {k : Nat} {rest : List Oper} {F : (Nat → Value) → Act} {U : List (Nat × ((Nat → Value) → World → Value → Prop))} (h : RS P ops T S Q k rest F U) :
    ∀ (a0 : Act) (G0 : Nat → (Nat → Value) → Value) (N0 : Nat → Option ((Nat → Value) → World → Value → Prop)), (∀ j, j < rest.length → rest[j]? = ops[k + j]?) → F = (fun x => frm ops a0 G0 x k) → (∀ u ∈ U, N0 u.1 = some u.2 ∧ u.1 < k) → (∀ i V, i < k → N0 i = some V → (i, V) ∈ U) →
    ∃ (G : Nat → (Nat → Value) → Value) (N : Nat → Option ((Nat → Value) → World → Value → Prop)), (∀ i, i < k → G i = G0 i ∧ N i = N0 i) ∧
      (∀ i o, k ≤ i → i < k + rest.length → ops[i]? = some o → ∃ Ui : List (Nat × ((Nat → Value) → World → Value → Prop)), (∀ u ∈ Ui, N u.1 = some u.2 ∧ u.1 < i) ∧ Spec P ops T S i o (fun x => frm ops a0 G x i) Ui (G i) (N i)) ∧
      (∀ x w, S w → (∀ i V, i < k + rest.length → N i = some V → V x w (x i)) → Q .normal (frm ops a0 G x (k + rest.length)) w) := by
  have frmEq : ∀ (a0 : Act) (G G' : Nat → (Nat → Value) → Value) (m : Nat), (∀ i, i < m → G i = G' i) → ∀ x, frm ops a0 G x m = frm ops a0 G' x m := by
    intro a0 G G' m
    induction m with
    | zero => intro _ _; rfl
    | succ m ih => intro hG x; simp only [frm]; rw [ih (fun i hi => hG i (by omega)) x, hG m (by omega)]
  induction h with
  | @done k F U h =>
    intro a0 G0 N0 hr hF hU hU2
    subst hF
    refine ⟨G0, N0, fun i _ => ⟨rfl, rfl⟩, fun i o hi hlt ho => ?_, fun x w hS hN => h x w hS fun u hu => hN u.1 u.2 (by have := (hU u hu).2; simp; omega) (hU u hu).1⟩
    simp at hlt; omega
  | @skip k o rest F U hw h ih =>
    intro a0 G0 N0 hr hF hU hU2
    subst hF
    have ho : ops[k]? = some o := by simpa using (hr 0 (by simp)).symm
    have hd : dstOf ops k = o.dst := by simp [dstOf, ho]
    let G1 : Nat → (Nat → Value) → Value := fun i => if i = k then fun _ => undef else G0 i
    let N1 : Nat → Option ((Nat → Value) → World → Value → Prop) := fun i => if i = k then none else N0 i
    have g1 : ∀ i, i < k → G1 i = G0 i := fun i hi => if_neg (by omega)
    have n1 : ∀ i, i < k → N1 i = N0 i := fun i hi => if_neg (by omega)
    have gk : G1 k = fun _ => undef := if_pos rfl
    have nk : N1 k = none := if_pos rfl
    obtain ⟨G, N, e1, e2, e3⟩ := ih a0 G1 N1 (fun j hj => by have := hr (j + 1) (by simp; omega); simpa [Nat.add_assoc, Nat.add_comm 1 j] using this)
      (by funext x; simp only [frm, gk, hd]; rw [frmEq a0 G1 G0 k g1 x])
      (fun u hu => ⟨by rw [n1 _ (hU u hu).2]; exact (hU u hu).1, by have := (hU u hu).2; omega⟩)
      (fun i V hi hN => by
        by_cases e : i = k
        · subst e; rw [nk] at hN; cases hN
        · rw [n1 i (by omega)] at hN; exact hU2 i V (by omega) hN)
    refine ⟨G, N, fun i hi => ⟨(e1 i (by omega)).1.trans (g1 i hi), (e1 i (by omega)).2.trans (n1 i hi)⟩, fun i o' hi hlt ho' => ?_, by simpa [Nat.add_assoc, Nat.add_comm 1] using e3⟩
    by_cases e : i = k
    · subst e
      obtain rfl : o = o' := by rw [ho] at ho'; simpa using ho'
      refine ⟨[], fun u hu => by simp at hu, .inl ⟨fun x => ?_, by rw [(e1 i (by omega)).1, gk], by rw [(e1 i (by omega)).2, nk]⟩⟩
      show Region.wanted o (yielded ops (frm ops a0 G x i).tmps) = false
      rw [frmEq a0 G G0 i (fun j hj => (e1 j (by omega)).1.trans (g1 j hj)) x]
      exact hw x
    · exact e2 i o' (by omega) (by simp only [List.length_cons] at hlt; omega) ho'
  | @val k o rest F U us g hus hg hw hop h ih =>
    intro a0 G0 N0 hr hF hU hU2
    subst hF
    have ho : ops[k]? = some o := by simpa using (hr 0 (by simp)).symm
    have hd : dstOf ops k = o.dst := by simp [dstOf, ho]
    let G1 : Nat → (Nat → Value) → Value := fun i => if i = k then g else G0 i
    let N1 : Nat → Option ((Nat → Value) → World → Value → Prop) := fun i => if i = k then none else N0 i
    have g1 : ∀ i, i < k → G1 i = G0 i := fun i hi => if_neg (by omega)
    have n1 : ∀ i, i < k → N1 i = N0 i := fun i hi => if_neg (by omega)
    have gk : G1 k = g := if_pos rfl
    have nk : N1 k = none := if_pos rfl
    obtain ⟨G, N, e1, e2, e3⟩ := ih a0 G1 N1 (fun j hj => by have := hr (j + 1) (by simp; omega); simpa [Nat.add_assoc, Nat.add_comm 1 j] using this)
      (by funext x; simp only [frm, gk, hd]; rw [frmEq a0 G1 G0 k g1 x])
      (fun u hu => ⟨by rw [n1 _ (hU u hu).2]; exact (hU u hu).1, by have := (hU u hu).2; omega⟩)
      (fun i V hi hN => by
        by_cases e : i = k
        · subst e; rw [nk] at hN; cases hN
        · rw [n1 i (by omega)] at hN; exact hU2 i V (by omega) hN)
    refine ⟨G, N, fun i hi => ⟨(e1 i (by omega)).1.trans (g1 i hi), (e1 i (by omega)).2.trans (n1 i hi)⟩, fun i o' hi hlt ho' => ?_, by simpa [Nat.add_assoc, Nat.add_comm 1] using e3⟩
    by_cases e : i = k
    · subst e
      obtain rfl : o = o' := by rw [ho] at ho'; simpa using ho'
      have fe := frmEq a0 G G0 i (fun j hj => (e1 j (by omega)).1.trans (g1 j hj))
      have ge : G i = g := (e1 i (by omega)).1.trans gk
      refine ⟨U, fun u hu => ⟨by rw [(e1 u.1 (by have := (hU u hu).2; omega)).2, n1 _ (hU u hu).2]; exact (hU u hu).1, (hU u hu).2⟩, .inr (.inl ⟨us, contains_all hus, by rw [ge]; exact hg, by rw [(e1 i (by omega)).2, nk], fun x => by show Region.wanted o (yielded ops (frm ops a0 G x i).tmps) = true; rw [fe]; exact hw x, fun x w hS hK => ?_⟩)⟩
      simp only [fe, ge]
      exact hop x w hS hK
    · exact e2 i o' (by omega) (by simp only [List.length_cons] at hlt; omega) ho'
  | @newx k o rest F U us V D hD hus hV hw hop h ih =>
    intro a0 G0 N0 hr hF hU hU2
    subst hF
    have ho : ops[k]? = some o := by simpa using (hr 0 (by simp)).symm
    have hd : dstOf ops k = o.dst := by simp [dstOf, ho]
    let G1 : Nat → (Nat → Value) → Value := fun i => if i = k then fun x => D (x k) else G0 i
    let N1 : Nat → Option ((Nat → Value) → World → Value → Prop) := fun i => if i = k then some V else N0 i
    have g1 : ∀ i, i < k → G1 i = G0 i := fun i hi => if_neg (by omega)
    have n1 : ∀ i, i < k → N1 i = N0 i := fun i hi => if_neg (by omega)
    have gk : G1 k = fun x => D (x k) := if_pos rfl
    have nk : N1 k = some V := if_pos rfl
    obtain ⟨G, N, e1, e2, e3⟩ := ih a0 G1 N1 (fun j hj => by have := hr (j + 1) (by simp; omega); simpa [Nat.add_assoc, Nat.add_comm 1 j] using this)
      (by funext x; simp only [frm, gk, hd]; rw [frmEq a0 G1 G0 k g1 x])
      (fun u hu => by
        rcases List.mem_cons.1 hu with rfl | hu
        · exact ⟨nk, Nat.lt_succ_self _⟩
        · exact ⟨by rw [n1 _ (hU u hu).2]; exact (hU u hu).1, by have := (hU u hu).2; omega⟩)
      (fun i V' hi hN => by
        by_cases e : i = k
        · subst e; rw [nk] at hN; cases hN; exact List.mem_cons_self
        · rw [n1 i (by omega)] at hN; exact List.mem_cons_of_mem _ (hU2 i V' (by omega) hN))
    refine ⟨G, N, fun i hi => ⟨(e1 i (by omega)).1.trans (g1 i hi), (e1 i (by omega)).2.trans (n1 i hi)⟩, fun i o' hi hlt ho' => ?_, by simpa [Nat.add_assoc, Nat.add_comm 1] using e3⟩
    by_cases e : i = k
    · subst e
      obtain rfl : o = o' := by rw [ho] at ho'; simpa using ho'
      have fe := frmEq a0 G G0 i (fun j hj => (e1 j (by omega)).1.trans (g1 j hj))
      have ge : G i = fun x => D (x i) := (e1 i (by omega)).1.trans gk
      refine ⟨U, fun u hu => ⟨by rw [(e1 u.1 (by have := (hU u hu).2; omega)).2, n1 _ (hU u hu).2]; exact (hU u hu).1, (hU u hu).2⟩, .inr (.inr ⟨us, V, D, contains_all hus, by rw [(e1 i (by omega)).2, nk], ⟨ge, hD⟩, hV, fun x => by show Region.wanted o (yielded ops (frm ops a0 G x i).tmps) = true; rw [fe]; exact hw x, fun x w hS hK => ?_⟩)⟩
      simp only [fe]
      exact hop x w hS hK
    · exact e2 i o' (by omega) (by simp only [List.length_cons] at hlt; omega) ho'

/-! ### Frames -/
theorem put_size (a : Act) (d : Option Tmp) (v : Value) : (a.put d v).tmps.size = a.tmps.size := by
  cases d <;> simp [Act.put]
theorem put_at (a : Act) (t : Tmp) (v : Value) (h : t < a.tmps.size) : (a.put (some t) v).tmps[t]? = some v := by
  simp [Act.put, h]
theorem put_other (a : Act) (d : Option Tmp) (v : Value) (t : Tmp) (h : d ≠ some t) : (a.put d v).tmps[t]? = a.tmps[t]? := by
  cases d with
  | none => rfl
  | some d => exact Array.getElem?_setIfInBounds_ne (fun e => h (by rw [e]))
theorem put_defers' (a : Act) (d : Option Tmp) (v : Value) : (a.put d v).defers = a.defers := by cases d <;> rfl

/-- The frame a is a0 with what has come up laid in. -/
structure Laid (ops : Array Oper) (a0 : Act) (G : Nat → (Nat → Value) → Value) (x : Nat → Value) (L : Nat → Prop) (a : Act) : Prop where
  defers : a.defers = a0.defers
  size : a.tmps.size = a0.tmps.size
  on : ∀ i t, L i → dstOf ops i = some t → t < a0.tmps.size → a.tmps[t]? = some (G i x)
  off : ∀ t, (∀ i, L i → dstOf ops i ≠ some t) → a.tmps[t]? = a0.tmps[t]?

theorem Laid.put {a0 : Act} {G : Nat → (Nat → Value) → Value} {x : Nat → Value} {L : Nat → Prop} {a : Act} (h : Laid ops a0 G x L a) (k : Nat)
    (hd : ∀ i t, L i → dstOf ops i = some t → dstOf ops k = some t → i = k) : Laid ops a0 G x (fun i => L i ∨ i = k) (a.put (dstOf ops k) (G k x)) := by
  refine ⟨(put_defers' _ _ _).trans h.defers, (put_size _ _ _).trans h.size, fun i t hi ht hs => ?_, fun t ht => ?_⟩
  · by_cases e : dstOf ops k = some t
    · have : i = k := hi.elim (fun hi => hd i t hi ht e) id
      subst this
      rw [e]
      exact put_at a t _ (by rw [h.size]; exact hs)
    · rw [put_other a _ _ t e]
      rcases hi with hi | rfl
      · exact h.on i t hi ht hs
      · exact (e ht).elim
  · rw [put_other a _ _ t (ht k (.inr rfl))]
    exact h.off t fun i hi => ht i (.inl hi)

theorem laid_frm {n : Nat} (hc : regOkTo n ops = true) (a0 : Act) (G : Nat → (Nat → Value) → Value) (x : Nat → Value) (k : Nat) (hk : k ≤ n) : Laid ops a0 G x (fun i => i < k) (frm ops a0 G x k) := by
  obtain ⟨_, _, h3, _⟩ := regOk_spec hc
  induction k with
  | zero => exact ⟨rfl, rfl, fun i t hi => by omega, fun _ _ => rfl⟩
  | succ k ih =>
    have h1 := (ih (by omega)).put k (fun i t hik ht hk' => by
      unfold dstOf at ht hk'
      obtain ⟨o, ho, hot⟩ := Option.bind_eq_some_iff.1 ht
      obtain ⟨p, hp, hpt⟩ := Option.bind_eq_some_iff.1 hk'
      exact h3 i k o p t (by omega) (by omega) ho hp hpt hot)
    have e : (fun i => i < k ∨ i = k) = fun i => i < k + 1 := by funext i; exact propext (by omega)
    rw [e] at h1
    exact h1

/-- Two frames laid alike look alike to an operation whose writers have come up in both. -/
theorem Laid.same {a0 : Act} {G : Nat → (Nat → Value) → Value} {x : Nat → Value} {L M : Nat → Prop} {a b : Act} (ha : Laid ops a0 G x L a) (hb : Laid ops a0 G x M b) {o : Oper} (hs : ∀ cs c, o.op ≠ .select cs c)
    (hl : ∀ t ∈ o.looksAt ops, (∃ i, dstOf ops i = some t ∧ L i ∧ M i) ∨ ∀ i, dstOf ops i = some t → ¬ L i ∧ ¬ M i) :
    execOp a.eval o = execOp b.eval o ∧ Region.wanted o (yielded ops a.tmps) = Region.wanted o (yielded ops b.tmps) := by
  have key : ∀ t ∈ o.looksAt ops, a.tmps[t]? = b.tmps[t]? := fun t ht => by
    by_cases hs : t < a0.tmps.size
    · rcases hl t ht with ⟨i, hi, h1, h2⟩ | he
      · rw [ha.on i t h1 hi hs, hb.on i t h2 hi hs]
      · rw [ha.off t (fun i hi hd => (he i hd).1 hi), hb.off t (fun i hi hd => (he i hd).2 hi)]
    · rw [Array.getElem?_eq_none (by rw [ha.size]; exact Nat.le_of_not_lt hs), Array.getElem?_eq_none (by rw [hb.size]; exact Nat.le_of_not_lt hs)]
  refine ⟨execOp_congr o hs fun y hy => ?_, ?_⟩
  · cases y with
    | tmp t =>
      have := key t (List.mem_append_left _ (List.mem_filterMap.2 ⟨.tmp t, by simpa using hy, rfl⟩))
      simp only [Act.eval, Array.getD_eq_getD_getElem?, this]
    | _ => rfl
  · unfold Region.wanted
    cases hg : o.guard with
    | none => rfl
    | some g =>
      obtain ⟨j, want⟩ := g
      simp only [yielded]
      cases hj : ops[j]? with
      | none => rfl
      | some p =>
        cases hp : p.dst with
        | none => simp [hp]
        | some d =>
          have := key d (List.mem_append_right _ (by simp [hg, hj, hp]))
          simp only [Option.bind_some, hp, this]

theorem upon_transfer {o : Oper} {a b : Act} {w : World} (hs : a.tmps.size = b.tmps.size) (he : execOp a.eval o = execOp b.eval o) {R : Value → World → Prop}
    (h : o.wp P b w (fun a' w' => ∃ v, a' = b.put o.dst v ∧ R v w') never) : o.wp P a w (fun a' w' => ∃ v, a' = a.put o.dst v ∧ R v w') Q := by
  have key : ∀ u w', (∃ v, b.put o.dst u = b.put o.dst v ∧ R v w') → ∃ v, a.put o.dst u = a.put o.dst v ∧ R v w' := fun u w' ⟨v, h1, h2⟩ => by
    refine ⟨v, ?_, h2⟩
    cases hd : o.dst with
    | none => rfl
    | some d =>
      rw [hd] at h1
      by_cases hb : d < b.tmps.size
      · have e1 := put_at b d u hb
        rw [h1, put_at b d v hb] at e1
        simp only [Option.some.injEq] at e1
        rw [e1]
      · simp only [Act.put]
        rw [Array.setIfInBounds_eq_of_size_le (by rw [hs]; exact Nat.le_of_not_lt hb), Array.setIfInBounds_eq_of_size_le (by rw [hs]; exact Nat.le_of_not_lt hb)]
  unfold Oper.wp at *
  rw [he]
  generalize (execOp b.eval o).run P w = r at *
  cases r with
  | ok n w' =>
    cases n <;> simp only [Oper.upon] at h ⊢
    case value v => exact key _ _ h
    case skip => exact key _ _ h
    case defer d =>
      obtain ⟨v, h1, _⟩ := h
      have := congrArg Act.defers h1
      simp only [put_defers'] at this
      exact absurd (congrArg List.length this) (by simp)
    case enter f args =>
      refine Calls.mono h fun e w'' he => ?_
      cases e with
      | returned u => exact key _ _ he
      | panicked c => exact he.elim
      | outgrown => obtain ⟨_, _, hf⟩ := he; exact hf.elim
    case row row args => exact Rows.mono h fun u w'' he => key _ _ he
  | halt x w' => cases x <;> simp only [Oper.upon, never] at h

def unlistedNo (listed : Array Bool) : List Nat := (List.range listed.size).filter fun i => !listed.getD i true

theorem mem_edgesOf {k i : Nat} (h : i ∈ edgesOf ops k) : ∃ o, ops[k]? = some o ∧ ∃ e ∈ o.after, Region.binds .any e = true ∧ e.on = i := by
  unfold edgesOf at h
  cases ho : ops[k]? with
  | none => simp [ho] at h
  | some o =>
    simp only [ho, Option.map_some, Option.getD_some, List.mem_filterMap, Array.mem_toList_iff] at h
    obtain ⟨e, he, h2⟩ := h
    by_cases hb : Region.binds .any e = true
    · rw [if_pos hb] at h2
      exact ⟨o, rfl, e, he, hb, by simpa using h2⟩
    · rw [if_neg hb] at h2
      cases h2
theorem reach_listed {L : Nat → Prop} (hL : ∀ i, L i → ∀ o, ops[i]? = some o → ∀ e ∈ o.after, Region.binds .any e = true → L e.on) :
    ∀ f k, (∀ o, ops[k]? = some o → ∀ e ∈ o.after, Region.binds .any e = true → L e.on) → ∀ i ∈ reach ops f k, L i := by
  have hanc : ∀ n (acc : List Nat), (∀ i ∈ acc, L i) → ∀ i ∈ anc ops n acc, L i := by
    intro n
    induction n with
    | zero => intro acc h; exact h
    | succ n ih =>
      intro acc h
      refine ih _ ?_
      intro i hi
      by_cases hc : acc.contains n = true
      · rw [if_pos hc] at hi
        rcases List.mem_append.1 hi with hi | hi
        · exact h i hi
        · obtain ⟨o, ho, e, he, hb, rfl⟩ := mem_edgesOf hi
          exact hL n (h n (by simpa using hc)) o ho e he hb
      · rw [if_neg hc] at hi
        exact h i hi
  intro _ k hk
  refine hanc k _ ?_
  intro i hi
  obtain ⟨o, ho, e, he, hb, rfl⟩ := mem_edgesOf hi
  exact hk o ho e he hb

/-- WHATEVER ORDER: the walk in the text's order serves. -/
theorem RS.any {a0 : Act} {w0 : World} (hc : regOk ops = true) (h : RS P ops T S Q 0 ops.toList (fun _ => a0) []) (hS : S w0) :
    wpAny P .any ops Q ops.size (Array.replicate ops.size false) a0 w0 := by
  obtain ⟨c1, c2, c3, c4⟩ := regOk_spec hc
  obtain ⟨G, N, _, hspec, hfin⟩ := h.out a0 (fun _ _ => undef) (fun _ => none) (fun j _ => by simp) rfl (fun u hu => by simp at hu) (fun i V hi => by omega)
  simp only [Nat.zero_add, Array.length_toList] at hfin
  have gdep : ∀ i o, ops[i]? = some o → ∀ x y, (∀ j, (j ∈ reach ops ops.size i ∨ j = i) → x j = y j) → G i x = G i y := fun i o ho x y hxy => by
    obtain ⟨Ui, _, hs⟩ := hspec i o (Nat.zero_le _) (by simpa using (Array.getElem?_eq_some_iff.1 ho).1) ho
    rcases hs with ⟨_, hg, _⟩ | ⟨us, hus, hg, _⟩ | ⟨us, V, D, _, _, hg, _⟩
    · rw [hg]
    · exact hg x y fun j hj => hxy j (.inl (hus j hj))
    · rw [hg.1]; show D (x i) = D (y i); rw [hxy i (.inr rfl)]
  have main : ∀ (fuel : Nat) (listed : Array Bool) (a : Act) (w : World) (x : Nat → Value), listed.size = ops.size → (unlistedNo listed).length ≤ fuel →
      (∀ i, listed.getD i false = true → ∀ o, ops[i]? = some o → ∀ e ∈ o.after, Region.binds .any e = true → listed.getD e.on false = true) →
      Laid ops a0 G x (fun i => listed.getD i false = true) a → S w → (∀ i V, listed.getD i false = true → N i = some V → V x w (x i)) → wpAny P .any ops Q fuel listed a w := by
    intro fuel
    induction fuel with
    | zero =>
      intro listed a w x hsz hfu hcl hla hSw hNw
      have hall : ∀ i, i < ops.size → listed.getD i false = true := fun i hi => by
        have h0 : unlistedNo listed = [] := List.eq_nil_of_length_eq_zero (by omega)
        by_cases hn : listed.getD i false = true
        · exact hn
        · have : i ∈ unlistedNo listed := by
            unfold unlistedNo
            rw [List.mem_filter, List.mem_range]
            have hi' : i < listed.size := by omega
            simp only [Array.getD_eq_getD_getElem?, Array.getElem?_eq_getElem hi', Option.getD_some, Bool.not_eq_true] at hn ⊢
            exact ⟨hi', by rw [hn]; rfl⟩
          rw [h0] at this; simp at this
      refine ⟨?_, ?_⟩
      · cases hr : Region.ready .any ops listed with
        | nil => rfl
        | cons i rest =>
          have hi : i ∈ Region.ready .any ops listed := by rw [hr]; exact List.mem_cons_self
          obtain ⟨h1, o, ho, _⟩ := mem_ready.1 hi
          have hlt := (Array.getElem?_eq_some_iff.1 ho).1
          have h2 := hall i hlt
          have hi' : i < listed.size := by omega
          simp only [Array.getD_eq_getD_getElem?, Array.getElem?_eq_getElem hi', Option.getD_some] at h1 h2
          rw [h1] at h2; cases h2
      · have e : a = frm ops a0 G x ops.size := by
          have hb := laid_frm hc a0 G x ops.size (Nat.le_refl _)
          have ht : a.tmps = (frm ops a0 G x ops.size).tmps := by
            apply Array.ext_getElem?
            intro t
            by_cases hs : t < a0.tmps.size
            · by_cases he : ∃ i, dstOf ops i = some t
              · obtain ⟨i, hi⟩ := he
                obtain ⟨o, ho, _⟩ := Option.bind_eq_some_iff.1 hi
                have hlt := (Array.getElem?_eq_some_iff.1 ho).1
                rw [hla.on i t (hall i hlt) hi hs, hb.on i t hlt hi hs]
              · rw [hla.off t (fun i _ hi => he ⟨i, hi⟩), hb.off t (fun i _ hi => he ⟨i, hi⟩)]
            · rw [Array.getElem?_eq_none (by rw [hla.size]; exact Nat.le_of_not_lt hs), Array.getElem?_eq_none (by rw [hb.size]; exact Nat.le_of_not_lt hs)]
          have hd : a.defers = (frm ops a0 G x ops.size).defers := hla.defers.trans hb.defers.symm
          cases a; cases hf : frm ops a0 G x ops.size
          rw [hf] at ht hd
          simp only at ht hd
          rw [ht, hd]
        rw [e]
        exact hfin x w hSw fun i V hi hN => hNw i V (hall i hi) hN
    | succ fuel ih =>
      intro listed a w x hsz hfu hcl hla hSw hNw
      -- an operation that comes up
      have step : ∀ i ∈ Region.ready .any ops listed, wpOp P ops Q i (wpAny P .any ops Q fuel (listed.setIfInBounds i true)) a w := by
        intro i hi
        obtain ⟨h1, o, ho, h2⟩ := mem_ready.1 hi
        have hlt := (Array.getElem?_eq_some_iff.1 ho).1
        have hli : i < listed.size := by omega
        have hun : listed.getD i false = false := by
          simp only [Array.getD_eq_getD_getElem?, Array.getElem?_eq_getElem hli, Option.getD_some] at h1 ⊢
          exact h1
        have hd : dstOf ops i = o.dst := by simp [dstOf, ho]
        have hset : ∀ j, (listed.setIfInBounds i true).getD j false = true ↔ listed.getD j false = true ∨ j = i := fun j => by
          by_cases e : i = j
          · subst e; simp [hli]
          · rw [getD_set_ne false e]
            exact ⟨.inl, fun h => h.elim id fun h => (e h.symm).elim⟩
        have hcl' : ∀ j, (listed.setIfInBounds i true).getD j false = true → ∀ p, ops[j]? = some p → ∀ e ∈ p.after, Region.binds .any e = true → (listed.setIfInBounds i true).getD e.on false = true := fun j hj p hp e he hb => by
          rw [hset] at hj ⊢
          rcases hj with hj | rfl
          · exact .inl (hcl j hj p hp e he hb)
          · obtain rfl : o = p := by rw [ho] at hp; simpa using hp
            exact .inl (h2 e he hb)
        have hsz' : (listed.setIfInBounds i true).size = ops.size := by simpa using hsz
        have hfu' : (unlistedNo (listed.setIfInBounds i true)).length ≤ fuel := by
          have hlt2 : (unlistedNo (listed.setIfInBounds i true)).length < (unlistedNo listed).length := by
            unfold unlistedNo
            have e : ∀ j, (!(listed.setIfInBounds i true).getD j true) = ((!listed.getD j true) && decide (j ≠ i)) := fun j => by
              by_cases hj : i = j
              · subst hj; simp [hli]
              · rw [getD_set_ne true hj]; simp [Ne.symm hj]
            simp only [e, Array.size_setIfInBounds]
            have hm : i ∈ (List.range listed.size).filter fun j => !listed.getD j true := by
              rw [List.mem_filter, List.mem_range]
              exact ⟨hli, by rw [h1]; rfl⟩
            have hf : (List.range listed.size).filter (fun j => (!listed.getD j true) && decide (j ≠ i)) = ((List.range listed.size).filter fun j => !listed.getD j true).filter fun j => decide (j ≠ i) := by
              rw [List.filter_filter]
              exact List.filter_congr fun j _ => Bool.and_comm _ _
            rw [hf]
            exact List.length_filter_lt_length_iff_exists.2 ⟨i, hm, by simp⟩
          omega
        have hself : ∀ t ∈ o.looksAt ops, (∃ j, dstOf ops j = some t ∧ listed.getD j false = true ∧ j < i) ∨ ∀ j, dstOf ops j = some t → ¬ listed.getD j false = true ∧ ¬ j < i := fun t ht => by
          by_cases hex : ∃ j, j < ops.size ∧ dstOf ops j = some t
          · obtain ⟨j, hjn, hj⟩ := hex
            obtain ⟨p, hp, hpt⟩ := Option.bind_eq_some_iff.1 hj
            obtain ⟨e, he, hb, rfl⟩ := c4 i j o p t hlt hjn ho hp hpt ht
            exact .inl ⟨e.on, hj, h2 e he hb, c2 i o ho e he hb⟩
          · exact .inr fun j hj => ⟨fun hl => hex ⟨j, (by obtain ⟨p, hp, _⟩ := Option.bind_eq_some_iff.1 hj; exact (Array.getElem?_eq_some_iff.1 hp).1), hj⟩, fun hl => hex ⟨j, by omega, hj⟩⟩
        have hreach : ∀ j ∈ reach ops ops.size i, listed.getD j false = true :=
          reach_listed (L := fun j => listed.getD j false = true) hcl ops.size i (fun p hp e he hb => by
            obtain rfl : o = p := by rw [ho] at hp; simpa using hp
            exact h2 e he hb)
        have hdist : ∀ j t, listed.getD j false = true → dstOf ops j = some t → dstOf ops i = some t → j = i := fun j t _ hj hi' => by
          obtain ⟨p, hp, hpt⟩ := Option.bind_eq_some_iff.1 hj
          obtain ⟨q, hq, hqt⟩ := Option.bind_eq_some_iff.1 hi'
          exact c3 j i p q t (Array.getElem?_eq_some_iff.1 hp).1 hlt hp hq hqt hpt
        have hsel : ∀ cs c, o.op ≠ .select cs c := fun cs c => Region.noSelect_spec c1 i o cs c ho
        have hfr := laid_frm hc a0 G x i (by omega)
        obtain ⟨he, hwa⟩ := Laid.same hla hfr hsel hself
        have hlaid' : Laid ops a0 G x (fun j => (listed.setIfInBounds i true).getD j false = true) (a.put o.dst (G i x)) := by
          have := hla.put i hdist
          rw [hd] at this
          have e : (fun j => listed.getD j false = true ∨ j = i) = fun j => (listed.setIfInBounds i true).getD j false = true := funext fun j => propext (hset j).symm
          rwa [e] at this
        obtain ⟨Ui, hUi, hs⟩ := hspec i o (Nat.zero_le _) (by simpa using (Array.getElem?_eq_some_iff.1 ho).1) ho
        have know : ∀ us : List Nat, (∀ j ∈ us, j ∈ reach ops ops.size i) → ∀ u ∈ Ui, u.1 ∈ us → u.2 x w (x u.1) := fun us hus u hu hm => hNw u.1 u.2 (hreach _ (hus _ hm)) (hUi u hu).1
        unfold wpOp
        simp only [ho]
        rcases hs with ⟨hw, hg, hn⟩ | ⟨us, hus, _, hn, hw, hop⟩ | ⟨us, V, D, hus, hn, hg, hst, hw, hop⟩
        · rw [hwa, hw x]
          simp only [Bool.false_eq_true, if_false]
          have hgu : G i x = undef := by rw [hg]
          rw [hgu] at hlaid'
          refine ih _ _ w x hsz' hfu' hcl' hlaid' hSw fun j V' hj hN => ?_
          rw [hset] at hj
          rcases hj with hj | rfl
          · exact hNw j V' hj hN
          · rw [hn] at hN; cases hN
        · rw [hwa, hw x]
          simp only [if_true]
          refine .inl (Oper.wp_mono ?_ (upon_transfer (R := fun v w' => v = G i x ∧ S w' ∧ T w w') (b := frm ops a0 G x i) (by rw [hla.size, hfr.size]) he ?_))
          · rintro a' w' ⟨v, rfl, rfl, hS', hT⟩
            refine ih _ _ w' x hsz' hfu' hcl' hlaid' hS' fun j V' hj hN => ?_
            rw [hset] at hj
            rcases hj with hj | rfl
            · have hlo := hNw j V' hj hN
              -- stable
              have hlt' : j < ops.size := by
                by_cases h : j < ops.size
                · exact h
                · rw [Array.getD_eq_getD_getElem?, Array.getElem?_eq_none (by omega)] at hj; cases hj
              obtain ⟨Uj, _, hsj⟩ := hspec j ops[j] (Nat.zero_le _) (by simpa using hlt') (Array.getElem?_eq_getElem hlt')
              rcases hsj with ⟨_, _, h0⟩ | ⟨_, _, _, h0, _⟩ | ⟨_, V2, _, _, h0, _, hst, _⟩
              · rw [h0] at hN; cases hN
              · rw [h0] at hN; cases hN
              · rw [h0] at hN
                cases hN
                exact hst.1 _ _ _ _ hlo hT
            · rw [hn] at hN; cases hN
          · refine Oper.wp_mono ?_ (hop x w hSw (know us hus))
            rintro a' w' ⟨h1, h2, h3⟩
            exact ⟨_, h1, rfl, h2, h3⟩
        · rw [hwa, hw x]
          simp only [if_true]
          refine .inl (Oper.wp_mono ?_ (upon_transfer (R := fun v w' => V x w' v ∧ S w' ∧ T w w') (b := frm ops a0 G x i) (by rw [hla.size, hfr.size]) he ?_))
          · rintro a' w' ⟨v, rfl, hVv, hS', hT⟩
            let y : Nat → Value := fun j => if j = i then v else x j
            have yi : y i = v := if_pos rfl
            have yo : ∀ j, j ≠ i → y j = x j := fun j hj => if_neg hj
            have hirr : ∀ j ∈ reach ops ops.size i, j ≠ i := fun j hj e => by
              subst e
              rw [hreach j hj] at hun; cases hun
            have hGy : ∀ j, listed.getD j false = true → ∀ p, ops[j]? = some p → G j y = G j x := fun j hj p hp => by
              refine gdep j p hp y x fun m hm => yo m fun e => ?_
              subst e
              rcases hm with hm | rfl
              · have := reach_listed (L := fun j => listed.getD j false = true) hcl ops.size j (fun q hq e he hb => hcl j hj q hq e he hb) m hm
                rw [this] at hun; cases hun
              · rw [hj] at hun; cases hun
            have hla' : Laid ops a0 G y (fun j => listed.getD j false = true) a := by
              refine ⟨hla.defers, hla.size, fun j t hj ht hs => ?_, hla.off⟩
              obtain ⟨p, hp, _⟩ := Option.bind_eq_some_iff.1 ht
              rw [hGy j hj p hp]
              exact hla.on j t hj ht hs
            have hlaid2 : Laid ops a0 G y (fun j => (listed.setIfInBounds i true).getD j false = true) (a.put o.dst v) := by
              have := hla'.put i hdist
              rw [hd, show G i y = v by rw [hg.1]; show D (y i) = v; rw [yi]; exact hg.2 _ _ _ hVv] at this
              have e : (fun j => listed.getD j false = true ∨ j = i) = fun j => (listed.setIfInBounds i true).getD j false = true := funext fun j => propext (hset j).symm
              rwa [e] at this
            refine ih _ _ w' y hsz' hfu' hcl' hlaid2 hS' fun j V' hj hN => ?_
            rw [hset] at hj
            by_cases e : j = i
            · subst e
              rw [hn] at hN
              cases hN
              rw [yi]
              exact hst.2 x y w' v (fun m hm => (yo m (hirr m (hus m hm))).symm) hVv
            · have hj' := hj.resolve_right e
              rw [yo j e]
              have hlo := hNw j V' hj' hN
              have hlt' : j < ops.size := by
                by_cases h : j < ops.size
                · exact h
                · rw [Array.getD_eq_getD_getElem?, Array.getElem?_eq_none (by omega)] at hj'; cases hj'
              obtain ⟨Uj, _, hsj⟩ := hspec j ops[j] (Nat.zero_le _) (by simpa using hlt') (Array.getElem?_eq_getElem hlt')
              rcases hsj with ⟨_, _, h0⟩ | ⟨_, _, _, h0, _⟩ | ⟨us2, V2, _, hus2, h0, _, hst2, _⟩
              · rw [h0] at hN; cases hN
              · rw [h0] at hN; cases hN
              · rw [h0] at hN
                cases hN
                exact hst2.2 x y w' _ (fun m hm => (yo m fun e => by
                  subst e
                  have := reach_listed (L := fun j => listed.getD j false = true) hcl ops.size j (fun q hq e he hb => hcl j hj' q hq e he hb) m (hus2 m hm)
                  rw [this] at hun; cases hun).symm) (hst2.1 _ _ _ _ hlo hT)
          · refine Oper.wp_mono ?_ (hop x w hSw (know us hus))
            rintro a' w' ⟨v, h1, h2, h3, h4⟩
            exact ⟨v, h1, h2, h3, h4⟩
      refine ⟨fun hr => ?_, step⟩
      -- nobody is ready: all have come up
      have hall : ∀ i, i < ops.size → listed.getD i false = true := by
        intro i
        induction i using Nat.strongRecOn with
        | _ i ihi =>
          intro hi
          by_cases hn : listed.getD i false = true
          · exact hn
          · have hli : i < listed.size := by omega
            have : i ∈ Region.ready .any ops listed := mem_ready.2 ⟨by
                simp only [Array.getD_eq_getD_getElem?, Array.getElem?_eq_getElem hli, Option.getD_some, Bool.not_eq_true] at hn ⊢
                exact hn, ops[i], Array.getElem?_eq_getElem hi, fun e he hb => ihi e.on (c2 i _ (Array.getElem?_eq_getElem hi) e he hb) (by have := c2 i _ (Array.getElem?_eq_getElem hi) e he hb; omega)⟩
            rw [hr] at this; simp at this
      have h0 : (unlistedNo listed).length ≤ 0 := by
        have : unlistedNo listed = [] := by
          unfold unlistedNo
          rw [List.filter_eq_nil_iff]
          intro i hi
          have hi' : i < listed.size := by simpa using hi
          have := hall i (by omega)
          simp only [Array.getD_eq_getD_getElem?, Array.getElem?_eq_getElem hi', Option.getD_some] at this ⊢
          rw [this]; simp
        rw [this]; simp
      clear ih step
      -- as at the end
      have e : a = frm ops a0 G x ops.size := by
        have hb := laid_frm hc a0 G x ops.size (Nat.le_refl _)
        have ht : a.tmps = (frm ops a0 G x ops.size).tmps := by
          apply Array.ext_getElem?
          intro t
          by_cases hs : t < a0.tmps.size
          · by_cases he : ∃ i, dstOf ops i = some t
            · obtain ⟨i, hi⟩ := he
              obtain ⟨o, ho, _⟩ := Option.bind_eq_some_iff.1 hi
              have hlt := (Array.getElem?_eq_some_iff.1 ho).1
              rw [hla.on i t (hall i hlt) hi hs, hb.on i t hlt hi hs]
            · rw [hla.off t (fun i _ hi => he ⟨i, hi⟩), hb.off t (fun i _ hi => he ⟨i, hi⟩)]
          · rw [Array.getElem?_eq_none (by rw [hla.size]; exact Nat.le_of_not_lt hs), Array.getElem?_eq_none (by rw [hb.size]; exact Nat.le_of_not_lt hs)]
        have hd : a.defers = (frm ops a0 G x ops.size).defers := hla.defers.trans hb.defers.symm
        cases a; cases hf : frm ops a0 G x ops.size
        rw [hf] at ht hd
        simp only at ht hd
        rw [ht, hd]
      rw [e]
      exact hfin x w hSw fun i V hi hN => hNw i V (hall i hi) hN
  refine main ops.size _ a0 w0 (fun _ => undef) (by simp) ?_ (fun i hi => ?_) ⟨rfl, rfl, fun i t hi => ?_, fun _ _ => rfl⟩ hS (fun i V hi => ?_)
  · unfold unlistedNo
    exact Nat.le_trans (List.length_filter_le _ _) (by simp)
  all_goals
    exfalso
    rw [Array.getD_eq_getD_getElem?, Array.getElem?_replicate] at hi
    split at hi <;> cases hi

/-! ### A head in any order, and a tail that waits for all of it -/
def unlistedTo (n : Nat) (listed : Array Bool) : List Nat := (List.range n).filter fun i => !listed.getD i true
def headDone (n m : Nat) : Array Bool := Array.replicate n true ++ Array.replicate (m - n) false
def tailOk (ops : Array Oper) (n : Nat) : Bool :=
  decide (n < ops.size) && Region.sinkB .any ops n && Region.chainB .any ops n && Region.seqB .any ops (ops.size - n) n (headDone n ops.size)

/-- WHATEVER ORDER of the head: the walk in the text's order serves; behind it the tail goes in its own order. -/
theorem RS.tail {n : Nat} {a0 : Act} {w0 : World} (hc : regOkTo n ops = true) (ht : tailOk ops n = true) (h : RS P ops T S (fun _ a w => wpList P ops Q (ops.toList.drop n) a w) 0 (ops.toList.take n) (fun _ => a0) []) (hS : S w0) :
    wpAny P .any ops Q ops.size (Array.replicate ops.size false) a0 w0 := by
  obtain ⟨c1, c2, c3, c4⟩ := regOk_spec hc
  simp only [tailOk, Bool.and_eq_true, decide_eq_true_eq] at ht
  obtain ⟨⟨⟨hn, hs1⟩, hs2⟩, hs3⟩ := ht
  have htn : 0 + (ops.toList.take n).length = n := by simp; omega
  obtain ⟨G, N, _, hspec, hfin⟩ := h.out a0 (fun _ _ => undef) (fun _ => none) (fun j hj => by
    have hj' : j < n := by omega
    simp [hj']) rfl (fun u hu => by simp at hu) (fun i V hi => by omega)
  rw [htn] at hfin
  have gdep : ∀ i o, i < n → ops[i]? = some o → ∀ x y, (∀ j, (j ∈ reach ops ops.size i ∨ j = i) → x j = y j) → G i x = G i y := fun i o hin ho x y hxy => by
    obtain ⟨Ui, _, hs⟩ := hspec i o (Nat.zero_le _) (by rw [htn]; exact hin) ho
    rcases hs with ⟨_, hg, _⟩ | ⟨us, hus, hg, _⟩ | ⟨us, V, D, _, _, hg, _⟩
    · rw [hg]
    · exact hg x y fun j hj => hxy j (.inl (hus j hj))
    · rw [hg.1]; show D (x i) = D (y i); rw [hxy i (.inr rfl)]
  have main : ∀ (fuel : Nat) (listed : Array Bool) (a : Act) (w : World) (x : Nat → Value), listed.size = ops.size → (unlistedTo n listed).length = fuel →
      (∀ i, listed.getD i false = true → ∀ o, ops[i]? = some o → ∀ e ∈ o.after, Region.binds .any e = true → listed.getD e.on false = true) →
      (∀ t, n ≤ t → t < ops.size → listed.getD t true = false) →
      Laid ops a0 G x (fun i => listed.getD i false = true) a → S w → (∀ i V, listed.getD i false = true → N i = some V → V x w (x i)) → wpAny P .any ops Q (fuel + (ops.size - n)) listed a w := by
    intro fuel
    induction fuel with
    | zero =>
      intro listed a w x hsz hfu hcl htl hla hSw hNw
      have hall : ∀ i, i < n → listed.getD i false = true := fun i hi => by
        have h0 : unlistedTo n listed = [] := List.eq_nil_of_length_eq_zero hfu
        by_cases hn' : listed.getD i false = true
        · exact hn'
        · have : i ∈ unlistedTo n listed := by
            unfold unlistedTo
            rw [List.mem_filter, List.mem_range]
            have hi' : i < listed.size := by omega
            simp only [Array.getD_eq_getD_getElem?, Array.getElem?_eq_getElem hi', Option.getD_some, Bool.not_eq_true] at hn' ⊢
            exact ⟨hi, by rw [hn']; rfl⟩
          rw [h0] at this; simp at this
      have hon : ∀ i, listed.getD i false = true → i < n := fun i hi => by
        by_cases h : i < n
        · exact h
        · by_cases h2 : i < ops.size
          · have := getD_both (htl i (Nat.le_of_not_lt h) h2)
            rw [this] at hi; cases hi
          · rw [Array.getD_eq_getD_getElem?, Array.getElem?_eq_none (by omega)] at hi; cases hi
      have eL : listed = headDone n ops.size := by
        have hds : (headDone n ops.size).size = ops.size := by simp [headDone]; omega
        apply Array.ext (by rw [hds, hsz])
        intro i h1 h2
        have e1 : listed.getD i false = listed[i] := by simp [h1]
        by_cases hi : i < n
        · have := hall i hi
          rw [e1] at this
          rw [this]
          simp [headDone, hi]
        · have := getD_both (htl i (Nat.le_of_not_lt hi) (by omega))
          rw [e1] at this
          rw [this]
          simp [headDone, Array.getElem_append, hi]
      have e : a = frm ops a0 G x n := by
        have hb := laid_frm hc a0 G x n (by omega)
        have ht : a.tmps = (frm ops a0 G x n).tmps := by
          apply Array.ext_getElem?
          intro t
          by_cases hs : t < a0.tmps.size
          · by_cases he : ∃ i, i < n ∧ dstOf ops i = some t
            · obtain ⟨i, hin, hi⟩ := he
              rw [hla.on i t (hall i hin) hi hs, hb.on i t hin hi hs]
            · rw [hla.off t (fun i hli hi => he ⟨i, hon i hli, hi⟩), hb.off t (fun i hin hi => he ⟨i, hin, hi⟩)]
          · rw [Array.getElem?_eq_none (by rw [hla.size]; exact Nat.le_of_not_lt hs), Array.getElem?_eq_none (by rw [hb.size]; exact Nat.le_of_not_lt hs)]
        have hd : a.defers = (frm ops a0 G x n).defers := hla.defers.trans hb.defers.symm
        cases a; cases hf : frm ops a0 G x n
        rw [hf] at ht hd
        simp only at ht hd
        rw [ht, hd]
      have hlen : (ops.toList.drop n).length = ops.size - n := by simp
      have hw := hfin x w hSw fun i V hi hN => hNw i V (hall i hi) hN
      rw [← e] at hw
      have := wpAny_of_seq (md := .any) (ops.toList.drop n) n listed a w (fun j => by simp [List.getElem?_drop]) (by rw [hlen, eL]; exact hs3) hw
      rw [hlen] at this
      rw [Nat.zero_add]
      exact this
    | succ fuel ih =>
      intro listed a w x hsz hfu hcl htl hla hSw hNw
      have inv : HeadInv .any ops n listed := ⟨hsz, fun j oj hj hl e he hb => hcl j hl oj hj e he hb, htl⟩
      obtain ⟨j0, hj0⟩ : ∃ j0, j0 < n ∧ listed.getD j0 true = false := by
        cases hu : unlistedTo n listed with
        | nil => rw [hu] at hfu; cases hfu
        | cons j r =>
          have : j ∈ unlistedTo n listed := by rw [hu]; exact List.mem_cons_self
          unfold unlistedTo at this
          rw [List.mem_filter, List.mem_range] at this
          exact ⟨j, this.1, by simpa using this.2⟩
      have lt_of_listed : ∀ j, listed.getD j false = true → j < n := fun i hi => by
        by_cases h : i < n
        · exact h
        · by_cases h2 : i < ops.size
          · have := getD_both (htl i (Nat.le_of_not_lt h) h2)
            rw [this] at hi; cases hi
          · rw [Array.getD_eq_getD_getElem?, Array.getElem?_eq_none (by omega)] at hi; cases hi
      -- an operation that comes up
      have step : ∀ i ∈ Region.ready .any ops listed, wpOp P ops Q i (wpAny P .any ops Q (fuel + (ops.size - n)) (listed.setIfInBounds i true)) a w := by
        intro i hi
        have hin : i < n := by
          by_cases h : i < n
          · exact h
          · exact (tail_waits hs1 hs2 hn inv (n - j0) j0 rfl hj0.1 hj0.2 i (Nat.le_of_not_lt h) hi).elim
        obtain ⟨h1, o, ho, h2⟩ := mem_ready.1 hi
        have hlt := (Array.getElem?_eq_some_iff.1 ho).1
        have hli : i < listed.size := by omega
        have hun : listed.getD i false = false := by
          simp only [Array.getD_eq_getD_getElem?, Array.getElem?_eq_getElem hli, Option.getD_some] at h1 ⊢
          exact h1
        have hd : dstOf ops i = o.dst := by simp [dstOf, ho]
        have hset : ∀ j, (listed.setIfInBounds i true).getD j false = true ↔ listed.getD j false = true ∨ j = i := fun j => by
          by_cases e : i = j
          · subst e; simp [hli]
          · rw [getD_set_ne false e]
            exact ⟨.inl, fun h => h.elim id fun h => (e h.symm).elim⟩
        have hcl' : ∀ j, (listed.setIfInBounds i true).getD j false = true → ∀ p, ops[j]? = some p → ∀ e ∈ p.after, Region.binds .any e = true → (listed.setIfInBounds i true).getD e.on false = true := fun j hj p hp e he hb => by
          rw [hset] at hj ⊢
          rcases hj with hj | rfl
          · exact .inl (hcl j hj p hp e he hb)
          · obtain rfl : o = p := by rw [ho] at hp; simpa using hp
            exact .inl (h2 e he hb)
        have hsz' : (listed.setIfInBounds i true).size = ops.size := by simpa using hsz
        have hfu' : (unlistedTo n (listed.setIfInBounds i true)).length = fuel := by
          have e : unlistedTo n (listed.setIfInBounds i true) = (unlistedTo n listed).erase i := by
            unfold unlistedTo
            rw [List.Nodup.erase_eq_filter (List.nodup_range.filter _), List.filter_filter]
            refine List.filter_congr fun j _ => ?_
            by_cases hj : i = j
            · subst hj; simp [hli]
            · rw [getD_set_ne true hj]; simp [Ne.symm hj]
          rw [e, List.length_erase_of_mem, hfu]
          · rfl
          · unfold unlistedTo
            rw [List.mem_filter, List.mem_range]
            exact ⟨hin, by rw [h1]; rfl⟩
        have htl' : ∀ t, n ≤ t → t < ops.size → (listed.setIfInBounds i true).getD t true = false := fun t ht ht' => by rw [getD_set_ne true (by omega)]; exact htl t ht ht'
        have hself : ∀ t ∈ o.looksAt ops, (∃ j, dstOf ops j = some t ∧ listed.getD j false = true ∧ j < i) ∨ ∀ j, dstOf ops j = some t → ¬ listed.getD j false = true ∧ ¬ j < i := fun t ht => by
          by_cases hex : ∃ j, j < n ∧ dstOf ops j = some t
          · obtain ⟨j, hjn, hj⟩ := hex
            obtain ⟨p, hp, hpt⟩ := Option.bind_eq_some_iff.1 hj
            obtain ⟨e, he, hb, rfl⟩ := c4 i j o p t hin hjn ho hp hpt ht
            exact .inl ⟨e.on, hj, h2 e he hb, c2 i o ho e he hb⟩
          · exact .inr fun j hj => ⟨fun hl => hex ⟨j, lt_of_listed j hl, hj⟩, fun hl => hex ⟨j, by omega, hj⟩⟩
        have hreach : ∀ j ∈ reach ops ops.size i, listed.getD j false = true :=
          reach_listed (L := fun j => listed.getD j false = true) hcl ops.size i (fun p hp e he hb => by
            obtain rfl : o = p := by rw [ho] at hp; simpa using hp
            exact h2 e he hb)
        have hdist : ∀ j t, listed.getD j false = true → dstOf ops j = some t → dstOf ops i = some t → j = i := fun j t _ hj hi' => by
          obtain ⟨p, hp, hpt⟩ := Option.bind_eq_some_iff.1 hj
          obtain ⟨q, hq, hqt⟩ := Option.bind_eq_some_iff.1 hi'
          exact c3 j i p q t (lt_of_listed j ‹_›) hin hp hq hqt hpt
        have hsel : ∀ cs c, o.op ≠ .select cs c := fun cs c => Region.noSelect_spec c1 i o cs c ho
        have hfr := laid_frm hc a0 G x i (by omega)
        obtain ⟨he, hwa⟩ := Laid.same hla hfr hsel hself
        have hlaid' : Laid ops a0 G x (fun j => (listed.setIfInBounds i true).getD j false = true) (a.put o.dst (G i x)) := by
          have := hla.put i hdist
          rw [hd] at this
          have e : (fun j => listed.getD j false = true ∨ j = i) = fun j => (listed.setIfInBounds i true).getD j false = true := funext fun j => propext (hset j).symm
          rwa [e] at this
        obtain ⟨Ui, hUi, hs⟩ := hspec i o (Nat.zero_le _) (by rw [htn]; omega) ho
        have know : ∀ us : List Nat, (∀ j ∈ us, j ∈ reach ops ops.size i) → ∀ u ∈ Ui, u.1 ∈ us → u.2 x w (x u.1) := fun us hus u hu hm => hNw u.1 u.2 (hreach _ (hus _ hm)) (hUi u hu).1
        unfold wpOp
        simp only [ho]
        rcases hs with ⟨hw, hg, hn⟩ | ⟨us, hus, _, hn, hw, hop⟩ | ⟨us, V, D, hus, hn, hg, hst, hw, hop⟩
        · rw [hwa, hw x]
          simp only [Bool.false_eq_true, if_false]
          have hgu : G i x = undef := by rw [hg]
          rw [hgu] at hlaid'
          refine ih _ _ w x hsz' hfu' hcl' htl' hlaid' hSw fun j V' hj hN => ?_
          rw [hset] at hj
          rcases hj with hj | rfl
          · exact hNw j V' hj hN
          · rw [hn] at hN; cases hN
        · rw [hwa, hw x]
          simp only [if_true]
          refine .inl (Oper.wp_mono ?_ (upon_transfer (R := fun v w' => v = G i x ∧ S w' ∧ T w w') (b := frm ops a0 G x i) (by rw [hla.size, hfr.size]) he ?_))
          · rintro a' w' ⟨v, rfl, rfl, hS', hT⟩
            refine ih _ _ w' x hsz' hfu' hcl' htl' hlaid' hS' fun j V' hj hN => ?_
            rw [hset] at hj
            rcases hj with hj | rfl
            · have hlo := hNw j V' hj hN
              -- stable
              have hlt' : j < ops.size := by
                by_cases h : j < ops.size
                · exact h
                · rw [Array.getD_eq_getD_getElem?, Array.getElem?_eq_none (by omega)] at hj; cases hj
              obtain ⟨Uj, _, hsj⟩ := hspec j ops[j] (Nat.zero_le _) (by rw [htn]; have := lt_of_listed j hj; omega) (Array.getElem?_eq_getElem hlt')
              rcases hsj with ⟨_, _, h0⟩ | ⟨_, _, _, h0, _⟩ | ⟨_, V2, _, _, h0, _, hst, _⟩
              · rw [h0] at hN; cases hN
              · rw [h0] at hN; cases hN
              · rw [h0] at hN
                cases hN
                exact hst.1 _ _ _ _ hlo hT
            · rw [hn] at hN; cases hN
          · refine Oper.wp_mono ?_ (hop x w hSw (know us hus))
            rintro a' w' ⟨h1, h2, h3⟩
            exact ⟨_, h1, rfl, h2, h3⟩
        · rw [hwa, hw x]
          simp only [if_true]
          refine .inl (Oper.wp_mono ?_ (upon_transfer (R := fun v w' => V x w' v ∧ S w' ∧ T w w') (b := frm ops a0 G x i) (by rw [hla.size, hfr.size]) he ?_))
          · rintro a' w' ⟨v, rfl, hVv, hS', hT⟩
            let y : Nat → Value := fun j => if j = i then v else x j
            have yi : y i = v := if_pos rfl
            have yo : ∀ j, j ≠ i → y j = x j := fun j hj => if_neg hj
            have hirr : ∀ j ∈ reach ops ops.size i, j ≠ i := fun j hj e => by
              subst e
              rw [hreach j hj] at hun; cases hun
            have hGy : ∀ j, listed.getD j false = true → ∀ p, ops[j]? = some p → G j y = G j x := fun j hj p hp => by
              refine gdep j p (lt_of_listed j hj) hp y x fun m hm => yo m fun e => ?_
              subst e
              rcases hm with hm | rfl
              · have := reach_listed (L := fun j => listed.getD j false = true) hcl ops.size j (fun q hq e he hb => hcl j hj q hq e he hb) m hm
                rw [this] at hun; cases hun
              · rw [hj] at hun; cases hun
            have hla' : Laid ops a0 G y (fun j => listed.getD j false = true) a := by
              refine ⟨hla.defers, hla.size, fun j t hj ht hs => ?_, hla.off⟩
              obtain ⟨p, hp, _⟩ := Option.bind_eq_some_iff.1 ht
              rw [hGy j hj p hp]
              exact hla.on j t hj ht hs
            have hlaid2 : Laid ops a0 G y (fun j => (listed.setIfInBounds i true).getD j false = true) (a.put o.dst v) := by
              have := hla'.put i hdist
              rw [hd, show G i y = v by rw [hg.1]; show D (y i) = v; rw [yi]; exact hg.2 _ _ _ hVv] at this
              have e : (fun j => listed.getD j false = true ∨ j = i) = fun j => (listed.setIfInBounds i true).getD j false = true := funext fun j => propext (hset j).symm
              rwa [e] at this
            refine ih _ _ w' y hsz' hfu' hcl' htl' hlaid2 hS' fun j V' hj hN => ?_
            rw [hset] at hj
            by_cases e : j = i
            · subst e
              rw [hn] at hN
              cases hN
              rw [yi]
              exact hst.2 x y w' v (fun m hm => (yo m (hirr m (hus m hm))).symm) hVv
            · have hj' := hj.resolve_right e
              rw [yo j e]
              have hlo := hNw j V' hj' hN
              have hlt' : j < ops.size := by
                by_cases h : j < ops.size
                · exact h
                · rw [Array.getD_eq_getD_getElem?, Array.getElem?_eq_none (by omega)] at hj'; cases hj'
              obtain ⟨Uj, _, hsj⟩ := hspec j ops[j] (Nat.zero_le _) (by rw [htn]; have := lt_of_listed j hj'; omega) (Array.getElem?_eq_getElem hlt')
              rcases hsj with ⟨_, _, h0⟩ | ⟨_, _, _, h0, _⟩ | ⟨us2, V2, _, hus2, h0, _, hst2, _⟩
              · rw [h0] at hN; cases hN
              · rw [h0] at hN; cases hN
              · rw [h0] at hN
                cases hN
                exact hst2.2 x y w' _ (fun m hm => (yo m fun e => by
                  subst e
                  have := reach_listed (L := fun j => listed.getD j false = true) hcl ops.size j (fun q hq e he hb => hcl j hj' q hq e he hb) m (hus2 m hm)
                  rw [this] at hun; cases hun).symm) (hst2.1 _ _ _ _ hlo hT)
          · refine Oper.wp_mono ?_ (hop x w hSw (know us hus))
            rintro a' w' ⟨v, h1, h2, h3, h4⟩
            exact ⟨v, h1, h2, h3, h4⟩
      rw [show fuel + 1 + (ops.size - n) = (fuel + (ops.size - n)) + 1 by omega]
      refine ⟨fun hr => ?_, step⟩
      exfalso
      have hall : ∀ i, i < ops.size → listed.getD i false = true := by
        intro i
        induction i using Nat.strongRecOn with
        | _ i ihi =>
          intro hi
          by_cases hn : listed.getD i false = true
          · exact hn
          · have hli : i < listed.size := by omega
            have : i ∈ Region.ready .any ops listed := mem_ready.2 ⟨by
                simp only [Array.getD_eq_getD_getElem?, Array.getElem?_eq_getElem hli, Option.getD_some, Bool.not_eq_true] at hn ⊢
                exact hn, ops[i], Array.getElem?_eq_getElem hi, fun e he hb => ihi e.on (c2 i _ (Array.getElem?_eq_getElem hi) e he hb) (by have := c2 i _ (Array.getElem?_eq_getElem hi) e he hb; omega)⟩
            rw [hr] at this; simp at this
      have h1 := hall j0 (by omega)
      rw [getD_both hj0.2] at h1
      cases h1
  have hcount : (unlistedTo n (Array.replicate ops.size false)).length = n := by
    unfold unlistedTo
    rw [List.filter_eq_self.2, List.length_range]
    intro i hi
    have hi' : i < ops.size := by have := List.mem_range.1 hi; omega
    simp [hi']
  have := main n _ a0 w0 (fun _ => undef) (by simp) hcount (fun i hi => ?_) (fun t _ ht => getD_in (by simpa using ht) (getD_replicate_false _ _)) ⟨rfl, rfl, fun i t hi => ?_, fun _ _ => rfl⟩ hS (fun i V hi => ?_)
  · rwa [show n + (ops.size - n) = ops.size by omega] at this
  all_goals
    exfalso
    rw [getD_replicate_false] at hi
    cases hi

theorem wp_region_rs {id : Nat} {a : Act} {w : World} (S : World → Prop) (T : World → World → Prop) (hm : P.follows .mixedOrders = true) (hc : regOk ops = true) (hS : S w.drew) (h : RS P ops T S Q 0 ops.toList (fun _ => a) []) : (Code.region id ops true).wp P Q a w :=
  wp_region_any hm (RS.any hc h hS)
end

/-! ### The same, where nothing old turns: S is 'as at the start W but for new blocks' -/
section
variable {P : Program} {ops : Array Oper} {W : World} {Q : Exit → Act → World → Prop} {k : Nat} {o : Oper} {rest : List Oper} {F : (Nat → Value) → Act} {U : List (Nat × ((Nat → Value) → World → Value → Prop))}
abbrev Kept : World → World → Prop := Mod (fun _ => False)
theorem RM.done (h : ∀ x w, Kept W w → (∀ u ∈ U, u.2 x w (x u.1)) → Q .normal (F x) w) : RS P ops Kept (Kept W) Q k [] F U := RS.done h
theorem RM.skip (hw : ∀ x, Region.wanted o (yielded ops (F x).tmps) = false) (h : RS P ops Kept (Kept W) Q (k + 1) rest (fun x => (F x).put o.dst undef) U) : RS P ops Kept (Kept W) Q k (o :: rest) F U := RS.skip hw h
theorem wp_of_run {a : Act} {w : World} {v : Value} {K : Act → World → Prop} (h : (execOp a.eval o).run P w = .ok (.value v) w) (hK : K (a.put o.dst v) w) : o.wp P a w K Q := by
  unfold Oper.wp
  rw [h]
  exact hK
theorem wp_of_enter {a : Act} {w : World} {f : FuncId} {args : Array Value} {K : Act → World → Prop} {R : Ending → World → Prop} (h : (execOp a.eval o).run P w = .ok (.enter f args) w) (hc : Calls P f args w R) (hK : ∀ e w', R e w' → ∃ v, e = .returned v ∧ K (a.put o.dst v) w') : o.wp P a w K Q := by
  unfold Oper.wp
  rw [h, Oper.upon_enter]
  refine hc.mono fun e w' hr => ?_
  obtain ⟨v, rfl, h2⟩ := hK e w' hr
  exact h2
/-- A copy, an address, arithmetic, a load of what stands. -/
theorem RM.const {v : Value} (hw : ∀ x, Region.wanted o (yielded ops (F x).tmps) = true) (ho : ∀ x w, Kept W w → (execOp (F x).eval o).run P w = .ok (.value v) w)
    (h : RS P ops Kept (Kept W) Q (k + 1) rest (fun x => (F x).put o.dst v) U) : RS P ops Kept (Kept W) Q k (o :: rest) F U :=
  RS.val [] (fun _ => v) rfl (fun _ _ _ => rfl) hw (fun x w hS _ => wp_of_run (ho x w hS) ⟨rfl, hS, Mod.refl _ _⟩) h
/-- A value that hangs on what earlier calls of the region handed back. -/
theorem RM.val (us : List Nat) (g : (Nat → Value) → Value) (hus : (us.all fun i => (reach ops ops.size k).contains i) = true) (hg : ∀ x y, (∀ i ∈ us, x i = y i) → g x = g y) (hw : ∀ x, Region.wanted o (yielded ops (F x).tmps) = true)
    (ho : ∀ x w, Kept W w → (∀ u ∈ U, u.1 ∈ us → u.2 x w (x u.1)) → (execOp (F x).eval o).run P w = .ok (.value (g x)) w)
    (h : RS P ops Kept (Kept W) Q (k + 1) rest (fun x => (F x).put o.dst (g x)) U) : RS P ops Kept (Kept W) Q k (o :: rest) F U :=
  RS.val us g hus hg hw (fun x w hS hK => wp_of_run (ho x w hS hK) ⟨rfl, hS, Mod.refl _ _⟩) h
/-- A call whose answer is known. -/
theorem RM.call {v : Value} {f : FuncId} {args : (Nat → Value) → Array Value} (us : List Nat) (hus : (us.all fun i => (reach ops ops.size k).contains i) = true) (hw : ∀ x, Region.wanted o (yielded ops (F x).tmps) = true)
    (hr : ∀ x w, Kept W w → (execOp (F x).eval o).run P w = .ok (.enter f (args x)) w)
    (hc : ∀ x w, Kept W w → (∀ u ∈ U, u.1 ∈ us → u.2 x w (x u.1)) → Calls P f (args x) w fun e w' => e = .returned v ∧ Kept w w')
    (h : RS P ops Kept (Kept W) Q (k + 1) rest (fun x => (F x).put o.dst v) U) : RS P ops Kept (Kept W) Q k (o :: rest) F U :=
  RS.val us (fun _ => v) hus (fun _ _ _ => rfl) hw (fun x w hS hK => wp_of_enter (hr x w hS) (hc x w hS hK) fun _ _ ⟨he, hm⟩ => ⟨v, he, rfl, hS.thenNone hm, hm⟩) h
/-- A call that makes memory: what it hands back is told by V. -/
theorem RM.new {f : FuncId} {args : (Nat → Value) → Array Value} (us : List Nat) (V : World → Value → Prop) (hus : (us.all fun i => (reach ops ops.size k).contains i) = true) (hV : ∀ w w' v, V w v → Kept w w' → V w' v) (hw : ∀ x, Region.wanted o (yielded ops (F x).tmps) = true)
    (hr : ∀ x w, Kept W w → (execOp (F x).eval o).run P w = .ok (.enter f (args x)) w)
    (hc : ∀ x w, Kept W w → (∀ u ∈ U, u.1 ∈ us → u.2 x w (x u.1)) → Calls P f (args x) w fun e w' => ∃ v, e = .returned v ∧ V w' v ∧ Kept w w')
    (h : RS P ops Kept (Kept W) Q (k + 1) rest (fun x => (F x).put o.dst (x k)) ((k, fun _ => V) :: U)) : RS P ops Kept (Kept W) Q k (o :: rest) F U :=
  RS.new us V id (fun _ _ _ => rfl) hus hV hw (fun x w hS hK => wp_of_enter (hr x w hS) (hc x w hS hK) fun _ _ ⟨v, he, h1, hm⟩ => ⟨v, he, v, rfl, h1, hS.thenNone hm, hm⟩) h
theorem Calls.kept {f : FuncId} {args : Array Value} {w : World} {r : Ending} (h : Calls P f args w fun e w' => e = r ∧ w = w') : Calls P f args w fun e w' => e = r ∧ Kept w w' :=
  h.mono fun _ _ ⟨he, hw⟩ => ⟨he, hw ▸ Mod.refl _ _⟩
/-- What a cell holds at the start, as a rule for all worlds of the region. -/
theorem hold {a : Addr} {v : Value} (h : W.cell? a = some v) : ∀ w, Kept W w → w.cell? a = some v := fun _ hm => hm.keep a v h
/-- A new block with known cells, laid behind W: what a slice literal is. -/
def LitAt (W : World) (e : TypeId) (n : Nat) (vals : Array Value) (w : World) (v : Value) : Prop :=
  ∃ g, v = .slice (some ⟨g, 0, none⟩) n n ∧ W.heap.size ≤ g ∧ w.heap[g]? = some (.cells vals e (0, 0))
theorem RM.lit {e : TypeId} {n : Nat} {vals : Array Value} (hw : ∀ x, Region.wanted o (yielded ops (F x).tmps) = true)
    (hr : ∀ x w, Kept W w → (execOp (F x).eval o).run P w = .ok (.value (.slice (some ⟨w.heap.size, 0, none⟩) n n)) (w.alloc (.cells vals e)))
    (h : RS P ops Kept (Kept W) Q (k + 1) rest (fun x => (F x).put o.dst (x k)) ((k, fun _ => LitAt W e n vals) :: U)) : RS P ops Kept (Kept W) Q k (o :: rest) F U :=
  RS.new [] (LitAt W e n vals) id (fun _ _ _ => rfl) rfl (fun w w' v ⟨g, h1, h2, h3⟩ hm => ⟨g, h1, h2, hm.blk h3 (fun f => f)⟩) hw
    (fun x w hS _ => by
      unfold Oper.wp
      rw [hr x w hS]
      exact ⟨_, rfl, ⟨_, rfl, hS.size, heap_alloc_new w _⟩, hS.alloc _, (Mod.refl _ w).alloc _⟩) h
theorem LitAt.cells {e : TypeId} {n : Nat} {vals : Array Value} {w : World} {v : Value} (h : LitAt W e n vals w v) : ∃ g, v = .slice (some ⟨g, 0, none⟩) n n ∧ W.heap.size ≤ g ∧ g < w.heap.size ∧ ∀ j u, vals.toList[j]? = some u → w.cell? ((⟨g, 0, none⟩ : Addr).add j) = some u := by
  obtain ⟨g, h1, h2, h3⟩ := h
  refine ⟨g, h1, h2, (Array.getElem?_eq_some_iff.1 h3).1, fun j u hu => ?_⟩
  have ea : (⟨g, 0, none⟩ : Addr).add j = ⟨g, j, none⟩ := by unfold Addr.add; split <;> simp_all
  rw [ea]
  exact blk_cell (l := vals.toList) h3 hu
end

end Go.Proofs.Ythffgbhphjkdeaa
namespace Go.Proofs.Ythffgbhphjkdeaa
open Go.RowKit

theorem info_ints : (Try.prog.info? 3).map (fun i => (i.zero, i.size, i.bytes)) = some (some (.int .i64 0), 1, 8) := by kernel_rfl
theorem szIntS_any (n c : Nat) (a : Option Addr) (left : Int) (h0 : 0 ≤ left) (h1 : left ≤ 1048576) (hn : n ≤ 9223372036854775807) (w : World) : Calls Try.prog 147 #[.slice a n c, .int .i64 left] w fun e w' => e = .returned (.int .i64 (if left < n then -1 else left - n)) ∧ w = w' := by
  by_cases h : left < n
  · rw [if_pos h]
    have h2 : left - n < 0 := by omega
    have h3 : -9223372036854775807 ≤ left - n := by omega
    go_enter Try.func147, Try.ntmps147
    go_wp2
    go_ret
    exact ⟨rfl, rfl⟩
  · rw [if_neg h]
    have h2 : 0 ≤ left - n := by omega
    go_enter Try.func147, Try.ntmps147
    go_wp2
    go_ret
    exact ⟨rfl, rfl⟩

set_option maxRecDepth 100000 in
set_option maxHeartbeats 1000000 in
theorem eqIntS_any (l m : List Int) (a a' : Option Addr) (c c' : Nat) (R S : Nat → Prop) (w : World) (hl : l.length ≤ 9223372036854775807) (_hm : m.length ≤ 9223372036854775807) (h : IntSlice R w a l) (h' : IntSlice S w a' m) :
    Calls Try.prog 155 #[.slice a l.length c, .slice a' m.length c'] w fun e w' => e = .returned (.bool (decide (l = m))) ∧ Mod (fun _ => False) w w' := by
  have H := hid h
  have H' := hid h'
  clear h h'
  by_cases hlen : l.length = m.length
  · have hn0 : ((l.length : Int) != (m.length : Int)) = false := by simp [hlen]
    have hn1 : l.length ≤ m.length := by omega
    have hn2 : m.length ≤ l.length := by omega
    clear hlen
    go_enter Try.func155, Try.ntmps155
    go_wp2
    go_loopw [5] (fun i wr => ∃ k : Nat, k ≤ l.length ∧ i = .int .i64 k ∧ SameTo l m k ∧ Mod (fun _ => False) w wr) (fun i _ => l.length - (intOf i).toNat)
    case atStart => exact ⟨0, by omega, rfl, rfl, Mod.refl _ _⟩
    case round =>
      obtain ⟨k, hk, rfl, hsame, hmod⟩ := hrel
      by_cases hlt : k < l.length
      · obtain ⟨b, o, x, rfl, _, hbw, hx, c0⟩ := IntSlice.get (H.out.flatKeep hmod) hlt
        obtain ⟨b', o', y, rfl, _, hbw', hy, d0⟩ := IntSlice.get (H'.out.flatKeep hmod) (show k < m.length by omega)
        have hlt2 : k < m.length := by omega
        by_cases hxy : x = y
        · subst hxy
          go_wp2
          go_quiet (fail)
          go_wp2
          go_roundw
          case rel => exact ⟨k + 1, by omega, by go_num, hsame.succ hx hy, hmod.drewN _⟩
          case measure => simp [intOf]; omega
        · have hd : (x != y) = true := by simpa using hxy
          have Hxy := hid hxy
          clear hxy
          go_wp2
          go_quiet (fail)
          go_wp2
          go_ret
          exact ⟨ret_bool (decide_eq_false (ne_at hx hy Hxy.out)).symm, hmod.drewN _⟩
      · go_wp2
        go_ret
        exact ⟨ret_bool (decide_eq_true (hsame.all (by omega) (by omega))).symm, hmod⟩
  · have hn0 : ((l.length : Int) != (m.length : Int)) = true := by simp; omega
    have hne : l ≠ m := fun h => hlen (by rw [h])
    clear hlen
    go_enter Try.func155, Try.ntmps155
    go_wp2
    go_ret
    exact ⟨ret_bool (decide_eq_false hne).symm, Mod.refl _ _⟩

/-- The cells of marks from q on. -/
def IntM.marks (q : Int) : Nat → List Value
  | 0 => []
  | k + 1 => IntM.marks q k ++ icell (q + k)
theorem IntM.marks_length (q : Int) (k : Nat) : (IntM.marks q k).length = k := by
  induction k with
  | zero => simp [IntM.marks]
  | succ k ih => simp [IntM.marks, icell, ih]

set_option maxRecDepth 100000 in
set_option maxHeartbeats 1000000 in
theorem markIntS_any (n c : Nat) (a : Option Addr) (g N : Nat) (w : World) (q0 : Int) (hq0 : 1 ≤ q0) (hq1 : q0 ≤ 1000000000000000) (hn : n ≤ 1048577) (h : n = 0 ∨ a = some ⟨g, 0, none⟩ ∧ n * 1 ≤ N ∧ Filled g 3 N w []) :
    Calls Try.prog 137 #[.slice a n c, .int .i64 q0] w fun e w' => e = .returned (.int .i64 (q0 + n)) ∧ Mod (fun k => k = g) w w' ∧ (n = 0 ∨ Filled g 3 N w' (IntM.marks q0 n)) := by
  have H := hid h
  clear h
  have hgs : n = 0 ∨ g < w.heap.size := by
    rcases H.out with h | ⟨_, _, h⟩
    · exact .inl h
    · exact .inr h.size
  go_enter Try.func137, Try.ntmps137
  go_wp2
  go_loopw [1, 5] (fun z i wr => ∃ (k : Nat) (q : Int), k ≤ n ∧ z = .int .i64 q ∧ Hid (q = q0 + k) ∧ 1 ≤ q ∧ q ≤ 10000000000000000 ∧ i = .int .i64 k ∧ Mod (fun k => k = g) w wr ∧ (n = 0 ∨ Filled g 3 N wr (IntM.marks q0 k))) (fun _ i _ => n - (intOf i).toNat)
  case atStart =>
    refine ⟨0, q0, by omega, rfl, by show q0 = q0 + _; omega, by omega, by omega, rfl, Mod.refl _ _, ?_⟩
    rcases H.out with h | ⟨_, _, h⟩
    · exact .inl h
    · exact .inr h
  case round =>
    obtain ⟨k, q, hk, rfl, hq, q1, q2, rfl, hM, hF0⟩ := hrel
    by_cases hlt : k < n
    · rcases H.out with h | ⟨rfl, hN, _⟩
      · omega
      have hF := hF0.resolve_left (by omega)
      clear hF0
      have hF1 := hF
      have hM1 := hM
      have hl0 := IntM.marks_length q0 k
      obtain ⟨v0, d0⟩ := hF1.cell (off := k) (by omega)
      have z0 := hF1.free k
      have HF := hid hF1
      have Hl0 := hid hl0
      clear hF hF1 hl0 hM
      go_wp2
      go_roundw
      case rel =>
        have hq' := hq.out
        refine ⟨k + 1, q + 1, by omega, rfl, by show q + 1 = _; omega, by omega, by omega, by go_num, by (repeat (first | with_reducible exact Mod.refl _ _ | with_reducible refine Mod.drewN ?_ _ | with_reducible refine Mod.drew ?_ | with_reducible refine Mod.alloc ?_ _ | ((with_reducible refine Mod.setNew ?_ ?_ _ _ _); (rotate_left; omega)) | with_reducible refine Mod.setAt ?_ _ _ _ | with_reducible exact hM1 | with_reducible refine Mod.thenNone ?_ hM1 )), .inr ?_⟩
        have e : IntM.marks q0 (k + 1) = IntM.marks q0 k ++ [.int .i64 q] := by
          simp [IntM.marks, icell, ← hq']
        rw [e]
        exact HF.out.push (by simp [Hl0.out]) (by omega) _
      case measure => simp [intOf]; omega
    · have hk' : k = n := by omega
      subst hk'
      go_wp2
      go_ret
      exact ⟨ret_int hq.out, hM, hF0⟩

theorem IntM.marks_at (q0 : Int) (n k : Nat) (hk : k < n) : (IntM.marks q0 n)[k]? = some (.int .i64 (q0 + k)) := by
  induction n with
  | zero => omega
  | succ n ih =>
    have hl := IntM.marks_length q0 n
    unfold IntM.marks
    by_cases e : k = n
    · subst e
      rw [List.getElem?_append_right (by omega), hl, Nat.sub_self]
      rfl
    · rw [List.getElem?_append_left (by rw [hl]; omega)]
      exact ih (by omega)

set_option maxRecDepth 100000 in
set_option maxHeartbeats 1000000 in
theorem toIntS_any (l : List Int) (a : Option Addr) (c : Nat) (R : Nat → Prop) (w : World) (hl : l.length ≤ 1048576) (h : IntSlice R w a l) :
    Calls Try.prog 150 #[.slice a l.length c] w (NewRows 3 w l.length (l.map icell).flatten) := by
  have H := hid h
  clear h
  obtain ⟨i0, hi, hz0, hz1, hz2⟩ := info_parts info_ints
  have hmk : ∀ W : World, (Instr.makeSlice 84 (.int .i64 (l.length : Int)) (.int .i64 (l.length : Int))).run Try.prog W = .ok (.slice (some ⟨W.heap.size, 0, none⟩) l.length l.length) (W.alloc (.cells (madeCells (Value.cells (.int .i64 0)) (l.length * 1)) 3)) := by
    intro W
    have := run_make (P := Try.prog) W 84 3 i0 _ Try.underlying84 hi hz0 .i64 .i64 l.length l.length (by omega) (by omega) (by rw [hz2]; omega) (by omega)
    simpa [hz1] using this
  clear hz0 hz1 hz2 hi
  go_enter Try.func150, Try.ntmps150
  go_wp2
  go_loopw [4] (fun i wr => ∃ k : Nat, k ≤ l.length ∧ i = .int .i64 k ∧ Filled w.heap.size 3 l.length wr ((l.take k).map icell).flatten ∧ Mod (fun _ => False) w wr) (fun i _ => l.length - (intOf i).toNat)
  case atStart => exact ⟨0, by omega, rfl, Filled.made w _ _ _ (size_madeCells _ _), (Mod.refl _ w).alloc _⟩
  case round =>
    obtain ⟨k, hk, rfl, hF, hM⟩ := hrel
    clear hmk
    by_cases hlt : k < l.length
    · obtain ⟨b, o, x, rfl, _, hbw, hx, c0⟩ := IntSlice.get (H.out.flatKeep hM) hlt
      obtain ⟨v0, d0⟩ := hF.cell (off := k) (by omega)
      have z0 := hF.free k
      have HF := hid hF
      clear hF
      go_wp2
      go_roundw
      case rel =>
        refine ⟨k + 1, by omega, by go_num, ?_, ?_⟩
        · have hl0 := icells_length (l.take k)
          rw [take_length_of_lt hk] at hl0
          rw [flat_succ hx]
          exact HF.out.push (by rw [hl0]; omega) (by omega) _
        · (repeat (first | with_reducible exact Mod.refl _ _ | with_reducible refine Mod.drewN ?_ _ | with_reducible refine Mod.drew ?_ | with_reducible refine Mod.alloc ?_ _ | ((with_reducible refine Mod.setNew ?_ ?_ _ _ _); (rotate_left; omega)) | with_reducible refine Mod.setAt ?_ _ _ _ | with_reducible exact hM | with_reducible refine Mod.thenNone ?_ hM ))
      case measure => simp [intOf]; omega
    · have hk' : k = l.length := by omega
      subst hk'
      go_wp2
      go_ret
      refine ⟨w.heap.size, rfl, Nat.le_refl _, ?_, hM⟩
      rw [List.take_length] at hF
      exact hF.full (by rw [icells_length, Nat.mul_one])

end Go.Proofs.Ythffgbhphjkdeaa
namespace Go.Proofs.Ythffgbhphjkdeaa
open Go.RowKit

structure Node where
  up : Int
  kids : List Int
  style : Style
  measured : Bool
  rules : List Rule
  deriving DecidableEq, Inhabited
/-- A node's cells: two slices among them. -/
def nodeRow (up : Int) (k : Option Addr) (n c : Nat) (s : Style) (m : Bool) (t : Option Addr) (n' c' : Nat) : List Value := [.int .i64 up, .slice k n c] ++ s.cells ++ [.bool m, .slice t n' c']

section
variable (up : Int) (k : Option Addr) (n c : Nat) (s : Style) (m : Bool) (t : Option Addr) (n' c' : Nat)
theorem nodeRow_len : (nodeRow up k n c s m t n' c').length = 64 := rfl
theorem nodeRow_ones : (nodeRow up k n c s m t n' c').toArray.all (·.oneCell') = true := by simp [nodeRow, Style.cells, Value.oneCell']
@[go_sem] theorem nodeRow_0 : (nodeRow up k n c s m t n' c')[0]? = some (.int .i64 up) := rfl
@[go_sem] theorem nodeRow_1 : (nodeRow up k n c s m t n' c')[1]? = some (.slice k n c) := rfl
@[go_sem] theorem nodeRow_62 : (nodeRow up k n c s m t n' c')[62]? = some (.bool m) := rfl
@[go_sem] theorem nodeRow_63 : (nodeRow up k n c s m t n' c')[63]? = some (.slice t n' c') := rfl
@[go_sem] theorem nodeRow_a0 : (nodeRow up k n c s m t n' c').toArray[0]? = some (.int .i64 up) := rfl
@[go_sem] theorem nodeRow_a1 : (nodeRow up k n c s m t n' c').toArray[1]? = some (.slice k n c) := rfl
@[go_sem] theorem nodeRow_a62 : (nodeRow up k n c s m t n' c').toArray[62]? = some (.bool m) := rfl
@[go_sem] theorem nodeRow_a63 : (nodeRow up k n c s m t n' c').toArray[63]? = some (.slice t n' c') := rfl
@[go_sem] theorem nodeRow_set0 (v : Int) : (nodeRow up k n c s m t n' c').set 0 (.int .i64 v) = nodeRow v k n c s m t n' c' := rfl
@[go_sem] theorem nodeRow_set1 (a : Option Addr) (p q : Nat) : (nodeRow up k n c s m t n' c').set 1 (.slice a p q) = nodeRow up a p q s m t n' c' := rfl
@[go_sem] theorem nodeRow_set62 (b : Bool) : (nodeRow up k n c s m t n' c').set 62 (.bool b) = nodeRow up k n c s b t n' c' := rfl
@[go_sem] theorem nodeRow_set63 (a : Option Addr) (p q : Nat) : (nodeRow up k n c s m t n' c').set 63 (.slice a p q) = nodeRow up k n c s m a p q := rfl
theorem nodeRow_style : ((nodeRow up k n c s m t n' c').drop 2).take 60 = s.cells := rfl
end

/-- A list written over an array from a place on. -/
theorem nodeRow_put {w : World} {b T : Nat} {up : Int} {k : Option Addr} {n c : Nat} {s s' : Style} {m : Bool} {t : Option Addr} {n' c' : Nat} (h : w.heap[b]? = some (.cells (nodeRow up k n c s m t n' c').toArray T (0, 0))) :
    (w.setCells b 2 s'.cells).heap[b]? = some (.cells (nodeRow up k n c s' m t n' c').toArray T (0, 0)) := by
  rw [setCells_heap b _ 2 w _ T (0, 0) h]
  have e := spl_mid [.int .i64 up, .slice k n c] s.cells [.bool m, .slice t n' c'] s'.cells (by rw [Style.len, Style.len])
  unfold nodeRow
  rw [← e]
  rfl
/-- A part of a block that is known whole. -/

@[go_sem] theorem cell_style_apart (w : World) (b o j : Nat) (s : Style) (h : o + 60 ≤ j) : (w.setCells b o s.cells).cell? ⟨b, j, none⟩ = w.cell? ⟨b, j, none⟩ := cell_setCells_apart b o j _ (.inr (by rw [Style.len]; exact h))

/-- Whole loads and stores of nodes and styles, as the walk meets them. -/
@[go_sem ↓] theorem exec_load_lNode (ρ : Operand → Value) (d : Option Tmp) (x : Operand) (ty : TypeId) (pos : String) (af : Array Edge) (g : Option (Nat × Bool)) (w : World) :
    (execOp ρ { dst := d, op := .load 167 x, type := ty, pos, after := af, guard := g }).run Try.prog w = LoadS Try.prog 167 (ρ x) w := rfl
@[go_sem ↓] theorem exec_load_iNode (ρ : Operand → Value) (d : Option Tmp) (x : Operand) (ty : TypeId) (pos : String) (af : Array Edge) (g : Option (Nat × Bool)) (w : World) :
    (execOp ρ { dst := d, op := .load 86 x, type := ty, pos, after := af, guard := g }).run Try.prog w = LoadS Try.prog 86 (ρ x) w := rfl
@[go_sem ↓] theorem exec_store_iNode (ρ : Operand → Value) (d : Option Tmp) (x y : Operand) (ty : TypeId) (pos : String) (af : Array Edge) (g : Option (Nat × Bool)) (w : World) :
    (execOp ρ { dst := d, op := .store 86 x y, type := ty, pos, after := af, guard := g }).run Try.prog w = StoreS Try.prog 86 (ρ x) (ρ y) w := rfl
@[go_sem] theorem LoadS_lNode {w : World} {b o : Nat} (h : hasRow w b o 64 = true) : LoadS Try.prog 167 (.pointer (some ⟨b, o, none⟩)) w = .ok (.value (.agg (rowOf w b o 64))) w := LoadS_row Try.underlying167 rfl (by kernel_rfl) h
@[go_sem] theorem LoadS_iNode {w : World} {b o : Nat} (h : hasRow w b o 64 = true) : LoadS Try.prog 86 (.pointer (some ⟨b, o, none⟩)) w = .ok (.value (.agg (rowOf w b o 64))) w := LoadS_row Try.underlying86 rfl (by kernel_rfl) h
@[go_sem] theorem StoreS_iNode {w : World} {b o : Nat} {up : Int} {k : Option Addr} {n c : Nat} {s : Style} {m : Bool} {t : Option Addr} {n' c' : Nat} (h : hasRow w b o 64 = true) (hz : openRow w b = true) :
    StoreS Try.prog 86 (.pointer (some ⟨b, o, none⟩)) (.agg (nodeRow up k n c s m t n' c').toArray) w = .ok .skip (w.setCells b o (nodeRow up k n c s m t n' c')) := StoreS_row (by kernel_rfl) h hz rfl (nodeRow_ones _ _ _ _ _ _ _ _ _)

theorem toStyle_row (x : Style) (w : World) : Calls Try.prog 151 #[.agg x.cells.toArray] w fun e w' => e = .returned (.agg x.cells.toArray) ∧ Mod (fun _ => False) w w' := toStyle_any x w
theorem eqStyle_row (x : Style) (w : World) : Calls Try.prog 156 #[.agg x.cells.toArray, .agg x.cells.toArray] w fun e w' => e = .returned (.bool true) ∧ Mod (fun _ => False) w w' := eqStyle_same x w
/-- A type's zero value, as a walk asks it. -/
theorem zero_as {P : Program} {t : TypeId} {v : Value} {n : Nat} (h : (P.info? t).map (fun i => (i.zero, i.size)) = some (some v, n)) (w : World) : (zeroValue t).run P w = .ok v w := by
  cases hq : P.info? t with
  | none => simp [hq] at h
  | some i =>
    simp [hq] at h
    simp [zeroValue, typeInfo, hq, h.1]
def Style.zero : Style := default
theorem zero_node : (Try.prog.info? 86).map (fun i => (i.zero, i.size)) = some (some (.agg (nodeRow 0 none 0 0 Style.zero false none 0 0).toArray), 64) := by kernel_rfl

end Go.Proofs.Ythffgbhphjkdeaa
namespace Go.Proofs.Ythffgbhphjkdeaa
open Go.RowKit

/-- A slice's block may be written. -/
def Wr (e sz : Nat) (R : Nat → Prop) (w : World) (a : Option Addr) (n : Nat) : Prop := n = 0 ∨ ∃ g N, a = some ⟨g, 0, none⟩ ∧ R g ∧ n * sz ≤ N ∧ Filled g e N w []
theorem Wr.mod {e sz : Nat} {R S : Nat → Prop} {w w' : World} {a : Option Addr} {n : Nat} (h : Wr e sz R w a n) (hm : Mod S w w') (hs : ∀ k, R k → ¬ S k) : Wr e sz R w' a n := by
  rcases h with h | ⟨g, N, h1, h2, h3, h4⟩
  · exact .inl h
  · exact .inr ⟨g, N, h1, h2, h3, h4.mod hm (hs g h2)⟩
theorem Wr.weaken {e sz : Nat} {R S : Nat → Prop} {w : World} {a : Option Addr} {n : Nat} (h : Wr e sz R w a n) (hs : ∀ k, k < w.heap.size → R k → S k) : Wr e sz S w a n := by
  rcases h with h | ⟨g, N, h1, h2, h3, h4⟩
  · exact .inl h
  · exact .inr ⟨g, N, h1, hs g h4.size h2, h3, h4⟩
theorem wr_of_blk {g e n sz : Nat} {w : World} {xs : List Value} {R : Nat → Prop} (hb : w.heap[g]? = some (.cells xs.toArray e (0, 0))) (hn : xs.length = n * sz) (hR : R g) : Wr e sz R w (some ⟨g, 0, none⟩) n :=
  .inr ⟨g, n * sz, rfl, hR, Nat.le_refl _, _, hb, by simpa using hn, by simp⟩
theorem Filled.none {g e N : Nat} {w : World} {xs : List Value} (h : Filled g e N w xs) : Filled g e N w [] := by
  obtain ⟨cur, h1, h2, _⟩ := h
  exact ⟨cur, h1, h2, by simp⟩
theorem Filled.ne {g g' e e' N N' : Nat} {w : World} {xs ys : List Value} (h : Filled g e N w xs) (h' : Filled g' e' N' w ys) (he : e ≠ e') : g ≠ g' := by
  rintro rfl
  obtain ⟨cur, h1, _⟩ := h
  obtain ⟨cur', h1', _⟩ := h'
  rw [h1] at h1'
  simp only [Option.some.injEq, Obj.cells.injEq] at h1'
  exact he h1'.2.1
/-- A written block stays one: a cell of it, or of another. -/
theorem Filled.set {g e N : Nat} {w : World} (h : Filled g e N w []) (b j : Nat) (s : Option Nat) (v : Value) : Filled g e N (w.setCell ⟨b, j, s⟩ v) [] := by
  obtain ⟨cur, h1, h2, _⟩ := h
  by_cases e' : g = b
  · subst e'
    cases s with
    | none => exact ⟨cur.setIfInBounds j v, by simp [World.setCell, Array.getElem?_modify, h1], by simpa using h2, by simp⟩
    | some s => exact ⟨_, by simp only [World.setCell, Array.getElem?_modify, h1]; rfl, by simp; exact h2, by simp⟩
  · exact ⟨cur, (Below.heap_setCell _ _ _ _ e').trans h1, h2, by simp⟩
theorem Wr.set {e sz : Nat} {R : Nat → Prop} {w : World} {a : Option Addr} {n : Nat} (h : Wr e sz R w a n) (b j : Nat) (s : Option Nat) (v : Value) : Wr e sz R (w.setCell ⟨b, j, s⟩ v) a n := by
  rcases h with h | ⟨g, N, h1, h2, h3, h4⟩
  · exact .inl h
  · exact .inr ⟨g, N, h1, h2, h3, h4.set b j s v⟩
/-- Behind a callee that wrote one block, and left it one that may be written. -/
theorem Filled.after {g e N n h e' N' : Nat} {w w' : World} {xs : List Value} (hf : Filled g e N w []) (hh : n = 0 ∨ Filled h e' N' w []) (hm : Mod (fun k => k = h) w w') (hp : n = 0 ∨ Filled h e' N' w' xs) (h0 : n = 0 → w = w') : Filled g e N w' [] := by
  by_cases hg : g = h
  · subst hg
    rcases hp with hp | hp
    · rw [← h0 hp]; exact hf
    · obtain ⟨cur, h1, h2, _⟩ := hf
      rcases hh with hn | ⟨cur2, h3, h4, _⟩
      · rw [← h0 hn]; exact ⟨cur, h1, h2, by simp⟩
      · rw [h1] at h3
        simp only [Option.some.injEq, Obj.cells.injEq] at h3
        obtain ⟨rfl, rfl, _⟩ := h3
        obtain ⟨cur3, h5, h6, _⟩ := hp
        exact ⟨cur3, h5, by omega, by simp⟩
  · exact hf.mod hm hg

theorem SliceAt.wide {α : Type} {cells : α → List Value} {sz : Nat} {R S : Nat → Prop} {w : World} {a : Option Addr} {l : List α} (h : SliceAt (Flat cells) sz R w a l) (hs : ∀ k, k < w.heap.size → R k → S k) : SliceAt (Flat cells) sz S w a l := by
  obtain ⟨rows, h1, h2, h3⟩ := h
  exact ⟨rows, h1.weaken hs, h2, h3⟩

theorem Filled.row {g e N : Nat} {w : World} {xs : List Value} (h : Filled g e N w xs) (off sz : Nat) (hn : off + sz ≤ N) : hasRow w g off sz = true := by
  obtain ⟨cur, h1, h2, _⟩ := h
  simp [hasRow, h1, h2, hn]
theorem Filled.open {g e N : Nat} {w : World} {xs : List Value} (h : Filled g e N w xs) : openRow w g = true := by
  obtain ⟨cur, h1, _⟩ := h
  simp [openRow, h1]
theorem Filled.pushRow {g e N : Nat} : ∀ (r : List Value) {w : World} {xs : List Value} (_ : Filled g e N w xs) {off : Nat} (_ : off = xs.length) (_ : off + r.length ≤ N), Filled g e N (w.setCells g off r) (xs ++ r)
  | [], w, xs, h, _, _, _ => by rw [List.append_nil]; exact h
  | v :: r, w, xs, h, off, ho, hn => by
    simp only [List.length_cons] at hn
    have h1 := h.push ho (by omega) v
    have h2 := Filled.pushRow r h1 (off := off + 1) (by simp [ho]) (by omega)
    have e : xs ++ v :: r = (xs ++ [v]) ++ r := by simp
    rw [e]
    exact h2

/-- What a copy of structs that hold slices hands back: its rows, each reading as its element in new blocks behind the rows' own. -/
def NewNest {α : Type} (rep : (Nat → Prop) → World → List Value → α → Prop) (e sz : Nat) (w : World) (l : List α) (en : Ending) (w' : World) : Prop :=
  ∃ g, ∃ rows : List (List Value), en = .returned (.slice (some ⟨g, 0, none⟩) l.length l.length) ∧ w.heap.size ≤ g ∧ w'.heap[g]? = some (.cells rows.flatten.toArray e (0, 0)) ∧ rows.length = l.length ∧ (∀ r ∈ rows, r.length = sz) ∧
    (∀ (i : Nat) (r : List Value) (x : α), rows[i]? = some r → l[i]? = some x → rep (fun b => w.heap.size ≤ b) w' r x) ∧ Mod (fun _ => False) w w'
theorem nest_of_blk {α : Type} {rep : World → List Value → α → Prop} {e sz g : Nat} {R : Nat → Prop} {w : World} {l : List α} {rows : List (List Value)} (hb : w.heap[g]? = some (.cells rows.flatten.toArray e (0, 0))) (hl : rows.length = l.length) (hr : ∀ r ∈ rows, r.length = sz)
    (h : ∀ (i : Nat) (r : List Value) (x : α), rows[i]? = some r → l[i]? = some x → rep w r x) (hR : R g) : SliceAt rep sz R w (some ⟨g, 0, none⟩) l :=
  ⟨rows, rowsAt_of_blk hb hr hR, hl, h⟩
/-- One row more. -/
theorem rows_succ {α : Type} {rep : World → List Value → α → Prop} {w : World} {l : List α} {k : Nat} {x : α} {rows : List (List Value)} {r : List Value} (hx : Hid (l[k]? = some x)) (hl : rows.length = k)
    (h : ∀ (i : Nat) (r : List Value) (x : α), rows[i]? = some r → l[i]? = some x → rep w r x) (hr : rep w r x) : ∀ (i : Nat) (r' : List Value) (y : α), (rows ++ [r])[i]? = some r' → l[i]? = some y → rep w r' y := by
  intro i r' y h1 h2
  by_cases hi : i < rows.length
  · rw [List.getElem?_append_left hi] at h1
    exact h i r' y h1 h2
  · have hi2 : i < (rows ++ [r]).length := (List.getElem?_eq_some_iff.1 h1).1
    simp only [List.length_append, List.length_singleton] at hi2
    have hik : i = k := by omega
    subst hik
    rw [hx.out] at h2
    simp only [Option.some.injEq] at h2
    subst h2
    rw [List.getElem?_append_right (by omega), hl, Nat.sub_self] at h1
    simp only [List.getElem?_cons_zero, Option.some.injEq] at h1
    subst h1
    exact hr
theorem lens_succ {rows : List (List Value)} {r : List Value} {sz : Nat} (h : ∀ r ∈ rows, r.length = sz) (hr : r.length = sz) : ∀ r' ∈ rows ++ [r], r'.length = sz := by
  intro r' h1
  simp only [List.mem_append, List.mem_singleton] at h1
  rcases h1 with h1 | rfl
  · exact h r' h1
  · exact hr
theorem rows_map {α : Type} {rep rep' : World → List Value → α → Prop} {w w' : World} {l : List α} {rows : List (List Value)} (h : ∀ (i : Nat) (r : List Value) (x : α), rows[i]? = some r → l[i]? = some x → rep w r x) (hr : ∀ r x, rep w r x → rep' w' r x) :
    ∀ (i : Nat) (r : List Value) (x : α), rows[i]? = some r → l[i]? = some x → rep' w' r x := fun i r x h1 h2 => hr r x (h i r x h1 h2)

/-- What a count hands back. -/
def szRes (left : Int) (n : Nat) : Int := if left < n then -1 else left - n
theorem szRes_less {left : Int} {n : Nat} (h : left < n) : szRes left n = -1 := if_pos h
theorem szRes_more {left : Int} {n : Nat} (h : (n : Int) ≤ left) : szRes left n = left - n := if_neg (by omega)
/-- Costs of the first elements. -/
def costs {α : Type} (f : α → Nat) (l : List α) : Nat := (l.map f).sum
theorem costs_succ {α : Type} (f : α → Nat) {l : List α} {k : Nat} {x : α} (hx : Hid (l[k]? = some x)) : costs f (l.take (k + 1)) = costs f (l.take k) + f x := by
  unfold costs
  rw [List.take_add_one, hx.out]
  simp
theorem costs_take {α : Type} (f : α → Nat) (l : List α) (k : Nat) : costs f (l.take k) ≤ costs f l := by
  have e : costs f l = costs f (l.take k) + costs f (l.drop k) := by
    unfold costs
    rw [← List.sum_append_nat, ← List.map_append, List.take_append_drop]
  omega
theorem costs_mem {α : Type} (f : α → Nat) {l : List α} {x : α} (h : x ∈ l) : f x ≤ costs f l := by
  unfold costs
  induction l with
  | nil => cases h
  | cons y l ih =>
    simp only [List.map_cons, List.sum_cons]
    rcases List.mem_cons.1 h with rfl | h
    · omega
    · have := ih h
      omega

/-- Blocks that may be written stay so; those whose type is not in P are as they were. -/
def KeepB (P : Nat → Prop) (w w' : World) : Prop := ∀ g e N, Filled g e N w [] → Filled g e N w' [] ∧ (¬ P e → w'.heap[g]? = w.heap[g]?)
theorem KeepB.refl (P : Nat → Prop) (w : World) : KeepB P w w := fun _ _ _ h => ⟨h, fun _ => rfl⟩
theorem KeepB.trans {P : Nat → Prop} {a b c : World} (h : KeepB P a b) (k : KeepB P b c) : KeepB P a c := fun g e N hf => by
  obtain ⟨h1, h2⟩ := h g e N hf
  obtain ⟨h3, h4⟩ := k g e N h1
  exact ⟨h3, fun hp => (h4 hp).trans (h2 hp)⟩
theorem KeepB.mono {P Q : Nat → Prop} {a b : World} (h : KeepB P a b) (hq : ∀ e, P e → Q e) : KeepB Q a b := fun g e N hf => ⟨(h g e N hf).1, fun hn => (h g e N hf).2 fun hp => hn (hq e hp)⟩
theorem KeepB.none {P : Nat → Prop} {a b : World} (h : Mod (fun _ => False) a b) : KeepB P a b := fun g _ _ hf => ⟨hf.mod h (fun f => f), fun _ => h.block g hf.size (fun f => f)⟩
theorem KeepB.set {P : Nat → Prop} {a w : World} (h : KeepB P a w) {b e N : Nat} (hb : Filled b e N a []) (he : P e) (j : Nat) (s : Option Nat) (v : Value) : KeepB P a (w.setCell ⟨b, j, s⟩ v) := fun g e' N' hf => by
  refine ⟨(h g e' N' hf).1.set b j s v, fun hn => ?_⟩
  have hg : g ≠ b := by
    rintro rfl
    refine hf.ne (g' := g) hb ?_ rfl
    rintro rfl
    exact hn he
  rw [Below.heap_setCell _ _ _ _ hg]
  exact (h g e' N' hf).2 hn
theorem Wr.keep {P : Nat → Prop} {e sz : Nat} {R : Nat → Prop} {w w' : World} {a : Option Addr} {n : Nat} (h : Wr e sz R w a n) (hk : KeepB P w w') : Wr e sz R w' a n := by
  rcases h with h | ⟨g, N, h1, h2, h3, h4⟩
  · exact .inl h
  · exact .inr ⟨g, N, h1, h2, h3, (hk g e N h4).1⟩
/-- A mark of a flat slice, told by what it leaves. -/
theorem mark_wr {P : Program} {f : FuncId} {args : Array Value} {E : Ending} {e sz n : Nat} {R : Nat → Prop} {w : World} {a : Option Addr} {ms : List Value} (h : Wr e sz R w a n)
    (hc : ∀ g N, (n = 0 ∨ a = some ⟨g, 0, none⟩ ∧ n * sz ≤ N ∧ Filled g e N w []) → Calls P f args w fun en w' => en = E ∧ Mod (fun k => k = g) w w' ∧ (n = 0 ∨ Filled g e N w' ms)) :
    Calls P f args w fun en w' => en = E ∧ Mod R w w' ∧ KeepB (fun t => t = e) w w' := by
  by_cases hn : n = 0
  · refine (hc w.heap.size 0 (.inl hn)).mono ?_
    rintro en w' ⟨he, hm, _⟩
    have hm' : Mod (fun _ => False) w w' := hm.mono (fun k hk (e : k = w.heap.size) => by omega)
    exact ⟨he, hm'.mono (fun _ _ f => f.elim), KeepB.none hm'⟩
  · rcases h with h | ⟨g, N, h1, h2, h3, h4⟩
    · exact (hn h).elim
    · refine (hc g N (.inr ⟨h1, h3, h4⟩)).mono ?_
      rintro en w' ⟨he, hm, hp⟩
      have hp' := hp.resolve_left hn
      refine ⟨he, hm.mono (fun k _ (e : k = g) => e ▸ h2), fun g' e' N' hf => ?_⟩
      by_cases hg : g' = g
      · subst hg
        obtain ⟨c1, q1, q2, _⟩ := hf
        obtain ⟨c2, q3, q4, _⟩ := h4
        rw [q1] at q3
        simp only [Option.some.injEq, Obj.cells.injEq] at q3
        obtain ⟨rfl, rfl, _⟩ := q3
        obtain ⟨c3, q5, q6, _⟩ := hp'
        exact ⟨⟨c3, q5, by omega, by simp⟩, fun hne => (hne rfl).elim⟩
      · exact ⟨hf.mod hm hg, fun _ => hm.block g' hf.size hg⟩
theorem SliceAt.wideBy {α : Type} {rep rep' : World → List Value → α → Prop} {sz : Nat} {R S : Nat → Prop} {w : World} {a : Option Addr} {l : List α} (h : SliceAt rep sz R w a l) (hs : ∀ k, k < w.heap.size → R k → S k) (hr : ∀ r x, rep w r x → rep' w r x) : SliceAt rep' sz S w a l := by
  obtain ⟨rows, h1, h2, h3⟩ := h
  exact ⟨rows, h1.weaken hs, h2, rows_map h3 hr⟩
/-- A copy, as the calls behind it use it. -/
theorem NewNest.use {α : Type} {rep : (Nat → Prop) → World → List Value → α → Prop} {e sz : Nat} {w w' : World} {l : List α} {en : Ending} (h : NewNest rep e sz w l en w') :
    ∃ g, en = .returned (.slice (some ⟨g, 0, none⟩) l.length l.length) ∧ w.heap.size ≤ g ∧ SliceAt (rep (fun b => w.heap.size ≤ b)) sz (fun b => w.heap.size ≤ b) w' (some ⟨g, 0, none⟩) l ∧ Wr e sz (fun b => w.heap.size ≤ b) w' (some ⟨g, 0, none⟩) l.length ∧ Mod (fun _ => False) w w' := by
  obtain ⟨g, rows, he, hg, hb, hl, hr, hrep, hm⟩ := h
  exact ⟨g, he, hg, nest_of_blk hb hl hr hrep hg, wr_of_blk hb (by rw [flatten_length hr, hl]) hg, hm⟩
theorem NewRows.wr {α : Type} {cells : α → List Value} {e sz : Nat} {w w' : World} {l : List α} {en : Ending} (h : NewRows e w l.length (l.map cells).flatten en w') (hc : ∀ x, (cells x).length = sz) :
    ∃ g, en = .returned (.slice (some ⟨g, 0, none⟩) l.length l.length) ∧ w.heap.size ≤ g ∧ SliceAt (Flat cells) sz (fun b => w.heap.size ≤ b) w' (some ⟨g, 0, none⟩) l ∧ Wr e sz (fun b => w.heap.size ≤ b) w' (some ⟨g, 0, none⟩) l.length ∧ Mod (fun _ => False) w w' := by
  obtain ⟨g, he, hg, hb, hm⟩ := h
  exact ⟨g, he, hg, (flat_of_blk hb hc).wide (fun k _ (hk : k = g) => hk ▸ hg), wr_of_blk hb (flat_length hc l) hg, hm⟩
theorem SliceAt.split2 {α : Type} {rep : World → List Value → α → Prop} {p : α → Prop} {sz : Nat} {R : Nat → Prop} {w : World} {a : Option Addr} {l : List α} (h : SliceAt (fun w r x => rep w r x ∧ p x) sz R w a l) : SliceAt rep sz R w a l ∧ ∀ x ∈ l, p x := by
  obtain ⟨rows, h1, h2, h3⟩ := h
  refine ⟨⟨rows, h1, h2, fun i r x hr hx => (h3 i r x hr hx).1⟩, fun x hx => ?_⟩
  obtain ⟨i, hi, rfl⟩ := List.mem_iff_getElem.1 hx
  have hr : rows[i]? = some (rows[i]'(by omega)) := List.getElem?_eq_getElem (by omega)
  exact (h3 i _ _ hr (List.getElem?_eq_getElem hi)).2

end Go.Proofs.Ythffgbhphjkdeaa
namespace Go.Proofs.Ythffgbhphjkdeaa
open Go.RowKit
attribute [local irreducible] Style.cells nodeRow

/-- A node's cells read as the node; o: its slices may be written. -/
def NodeIn (o : Bool) (R : Nat → Prop) (w : World) (cs : List Value) (x : Node) : Prop :=
  ∃ k c t c', cs = nodeRow x.up k x.kids.length c x.style x.measured t x.rules.length c' ∧ IntSlice R w k x.kids ∧ SliceAt (Flat Rule.cells) 3 R w t x.rules ∧ (o = true → Wr 3 1 R w k x.kids.length ∧ Wr 152 3 R w t x.rules.length)
theorem NodeIn.mod {o : Bool} {R S : Nat → Prop} {w w' : World} {cs : List Value} {x : Node} (h : NodeIn o R w cs x) (hm : Mod S w w') (hs : ∀ k, R k → ¬ S k) : NodeIn o R w' cs x := by
  obtain ⟨k, c, t, c', h1, h2, h3, h4⟩ := h
  exact ⟨k, c, t, c', h1, h2.flatMod hm hs, h3.flatMod hm hs, fun ho => ⟨(h4 ho).1.mod hm hs, (h4 ho).2.mod hm hs⟩⟩
theorem NodeIn.keep {o : Bool} {R : Nat → Prop} {w w' : World} {cs : List Value} {x : Node} (h : NodeIn o R w cs x) (hm : Mod (fun _ => False) w w') : NodeIn o R w' cs x := h.mod hm fun _ _ f => f
theorem NodeIn.wide {o : Bool} {R S : Nat → Prop} {w : World} {cs : List Value} {x : Node} (h : NodeIn o R w cs x) (hs : ∀ k, k < w.heap.size → R k → S k) : NodeIn o S w cs x := by
  obtain ⟨k, c, t, c', h1, h2, h3, h4⟩ := h
  exact ⟨k, c, t, c', h1, SliceAt.wide h2 hs, SliceAt.wide h3 hs, fun ho => ⟨(h4 ho).1.weaken hs, (h4 ho).2.weaken hs⟩⟩
theorem NodeIn.len {o : Bool} {R : Nat → Prop} {w : World} {cs : List Value} {x : Node} (h : NodeIn o R w cs x) : cs.length = 64 := by
  obtain ⟨k, c, t, c', rfl, _⟩ := h
  exact nodeRow_len _ _ _ _ _ _ _ _ _

set_option maxRecDepth 100000 in
set_option maxHeartbeats 4000000 in
theorem toNode_any (x : Node) (o : Bool) (cs : List Value) (R : Nat → Prop) (w : World) (hk : x.kids.length ≤ 1048576) (hr : x.rules.length ≤ 1048576) (h : NodeIn o R w cs x) :
    Calls Try.prog 132 #[.agg cs.toArray] w fun e w' => ∃ cs', e = .returned (.agg cs'.toArray) ∧ NodeIn true (fun b => w.heap.size ≤ b) w' cs' x ∧ Mod (fun _ => False) w w' := by
  obtain ⟨ka, kc, ra, rc, rfl, h1, h2, _⟩ := h
  have H1 := hid h1
  have H2 := hid h2
  clear h1 h2
  have hz := zero_as zero_node
  go_enter Try.func132, Try.ntmps132
  go_wp2_with fail
  refine (toIntS_any x.kids _ _ R _ hk (H1.out.flatKeep (by (repeat (first | with_reducible exact Mod.refl _ _ | with_reducible refine Mod.drewN ?_ _ | with_reducible refine Mod.drew ?_ | with_reducible refine Mod.alloc ?_ _ | ((with_reducible refine Mod.setNew ?_ ?_ _ _ _); (rotate_left; omega)) | with_reducible refine Mod.setAt ?_ _ _ _ ))))).mono ?_
  rintro e w1 ⟨g1, rfl, hg1, hb1, hm1⟩
  have hM1 : Mod (fun _ => False) w w1 := by (repeat (first | with_reducible exact Mod.refl _ _ | with_reducible refine Mod.drewN ?_ _ | with_reducible refine Mod.drew ?_ | with_reducible refine Mod.alloc ?_ _ | ((with_reducible refine Mod.setNew ?_ ?_ _ _ _); (rotate_left; omega)) | with_reducible refine Mod.setAt ?_ _ _ _ | with_reducible exact hm1 | with_reducible refine Mod.thenNone ?_ hm1 ))
  have hA1 : w1.heap[w.heap.size]? = some (.cells (nodeRow x.up ka x.kids.length kc x.style x.measured ra x.rules.length rc).toArray 167 (0, 0)) := hm1.blk (al3a _ _ _ _) (fun f => f)
  have hC1 : w1.heap[w.heap.size + 1]? = some (.cells (nodeRow 0 none 0 0 Style.zero false none 0 0).toArray 86 (0, 0)) := hm1.blk (al3b _ _ _ _) (fun f => f)
  have hD1 : w1.heap[w.heap.size + 1 + 1]? = some (.cells (nodeRow x.up none 0 0 Style.zero false none 0 0).toArray 86 (0, 0)) := hm1.blk (al3c _ _ _ _) (fun f => f)
  simp only [World.size_alloc] at hg1
  have hgA : w.heap.size + 1 + 1 < g1 := by omega
  obtain ⟨hr1, ho1, _⟩ := row_blk hA1 2 60 (by rw [nodeRow_len]; omega)
  rw [nodeRow_style] at ho1
  have d1 := blk_cell hD1 (nodeRow_1 _ _ _ _ _ _ _ _ _)
  have z1 := blk_free hD1 1
  have hr1_0 : w.heap.size < w1.heap.size := (Array.getElem?_eq_some_iff.1 hA1).1
  have hr1_1 : w.heap.size + 1 < w1.heap.size := (Array.getElem?_eq_some_iff.1 hC1).1
  have hr1_2 : w.heap.size + 1 + 1 < w1.heap.size := (Array.getElem?_eq_some_iff.1 hD1).1
  have hD1' := set_in (j := 1) (v := .slice (some ⟨g1, 0, none⟩) x.kids.length x.kids.length) hD1
  rw [nodeRow_set1] at hD1'
  have hA1' := set_far (c := w.heap.size + 1 + 1) (j := 1) (v := .slice (some ⟨g1, 0, none⟩) x.kids.length x.kids.length) hA1 (by omega)
  have hC1' := set_far (c := w.heap.size + 1 + 1) (j := 1) (v := .slice (some ⟨g1, 0, none⟩) x.kids.length x.kids.length) hC1 (by omega)
  have hb1' := set_far (c := w.heap.size + 1 + 1) (j := 1) (v := .slice (some ⟨g1, 0, none⟩) x.kids.length x.kids.length) hb1 (by omega)
  have hM1' : Mod (fun _ => False) w (w1.setCell ⟨w.heap.size + 1 + 1, 1, none⟩ (.slice (some ⟨g1, 0, none⟩) x.kids.length x.kids.length)) := hM1.setNew (by omega) _ _ _
  have HA := hid hA1'
  have HC := hid hC1'
  have HD := hid hD1'
  have HB := hid hb1'
  have HM := hid hM1'
  clear hm1 hg1 hA1 hC1 hD1 hb1 hM1 hA1' hC1' hD1' hb1' hM1'
  go_wp2_with fail
  rw [rowOf_setCell _ _ _ _ _ _ _ (by omega), ho1]
  refine (toStyle_row x.style _).mono ?_
  rintro e w2 ⟨rfl, hm2⟩
  have hA2 := hm2.blk HA.out (fun f => f)
  have hC2 := hm2.blk HC.out (fun f => f)
  have hD2 := hm2.blk HD.out (fun f => f)
  have hb2 := hm2.blk HB.out (fun f => f)
  have hM2 := HM.out.thenNone hm2
  clear HA HC HD HB HM hm2 hr1 ho1 d1 z1 hr1_0 hr1_1 hr1_2
  obtain ⟨hr3, _, hw3⟩ := row_blk hD2 2 60 (by rw [nodeRow_len]; omega)
  have hr2_0 : w.heap.size < w2.heap.size := (Array.getElem?_eq_some_iff.1 hA2).1
  have hr2_1 : w.heap.size + 1 < w2.heap.size := (Array.getElem?_eq_some_iff.1 hC2).1
  have hr2_2 : w.heap.size + 1 + 1 < w2.heap.size := (Array.getElem?_eq_some_iff.1 hD2).1
  have c62 := blk_cell hA2 (nodeRow_62 _ _ _ _ _ _ _ _ _)
  have c63 := blk_cell hA2 (nodeRow_63 _ _ _ _ _ _ _ _ _)
  have d62 := blk_cell hD2 (nodeRow_62 _ _ _ _ _ _ _ _ _)
  have z62 := blk_free hD2 62
  have e62 := (cell_setCells (w := w2) (w.heap.size + 1 + 1) 2 w.heap.size 62 x.style.cells (by omega)).trans c62
  have e63 := (cell_setCells (w := w2) (w.heap.size + 1 + 1) 2 w.heap.size 63 x.style.cells (by omega)).trans c63
  have f62 := (cell_style_apart w2 (w.heap.size + 1 + 1) 2 62 x.style (by omega)).trans d62
  clear c62 c63 d62
  have hD2' := set_in (j := 62) (v := .bool x.measured) (nodeRow_put (s' := x.style) hD2)
  rw [nodeRow_set62] at hD2'
  have hC2' : ((w2.setCells (w.heap.size + 1 + 1) 2 x.style.cells).setCell ⟨w.heap.size + 1 + 1, 62, none⟩ (.bool x.measured)).heap[w.heap.size + 1]? = _ := (set_far (c := w.heap.size + 1 + 1) ((setCells_far _ (by omega) _ _ _).trans hC2) (by omega))
  have hb2' : ((w2.setCells (w.heap.size + 1 + 1) 2 x.style.cells).setCell ⟨w.heap.size + 1 + 1, 62, none⟩ (.bool x.measured)).heap[g1]? = _ := (set_far (c := w.heap.size + 1 + 1) ((setCells_far _ (by omega) _ _ _).trans hb2) (by omega))
  have hM2' : Mod (fun _ => False) w ((w2.setCells (w.heap.size + 1 + 1) 2 x.style.cells).setCell ⟨w.heap.size + 1 + 1, 62, none⟩ (.bool x.measured)) := (hM2.setCellsNew (by omega) _ _).setNew (by omega) _ _ _
  have HC := hid hC2'
  have HD := hid hD2'
  have HB := hid hb2'
  have HM := hid hM2'
  clear hA2 hC2 hD2 hb2 hM2 hC2' hD2' hb2' hM2'
  go_wp2_with fail
  refine (toTable_any x.rules ra rc R _ hr (H2.out.flatKeep HM.out)).mono ?_
  rintro e w3 ⟨g2, rfl, hg2, hb3, hm3⟩
  have hC3 := hm3.blk HC.out (fun f => f)
  have hD3 := hm3.blk HD.out (fun f => f)
  have hB3 := hm3.blk HB.out (fun f => f)
  have hM3 := HM.out.thenNone hm3
  simp only [World.size_setCell, setCells_size] at hg2
  clear HC HD HB HM hm3 hr3 hw3 hr2_0 hr2_1 e62 e63 f62 z62
  obtain ⟨hq0, hq1, _⟩ := row_blk hD3 0 64 (by rw [nodeRow_len]; omega)
  rw [List.drop_zero, List.take_of_length_le (by rw [nodeRow_len]; omega)] at hq1
  obtain ⟨hq2, _, hq3⟩ := row_blk hC3 0 64 (by rw [nodeRow_len]; omega)
  have d63 := blk_cell hD3 (nodeRow_63 _ _ _ _ _ _ _ _ _)
  have z63 := blk_free hD3 63
  have HB := hid hB3
  have HB' := hid hb3
  have HM := hid hM3
  clear hC3 hD3 hB3 hb3 hM3
  dsimp only
  repeat (go_step)
  have hfin : ∀ b, b ≠ w.heap.size + 1 → b ≠ w.heap.size + 1 + 1 → (((w3.setCell ⟨w.heap.size + 1 + 1, 63, none⟩ (.slice (some ⟨g2, 0, none⟩) x.rules.length x.rules.length)).setCells (w.heap.size + 1) 0 (nodeRow x.up (some ⟨g1, 0, none⟩) x.kids.length x.kids.length x.style x.measured (some ⟨g2, 0, none⟩) x.rules.length x.rules.length))).heap[b]? = w3.heap[b]? := fun b h1 h2 =>
    (setCells_far _ h1 _ _ _).trans (Below.heap_setCell _ _ _ _ h2)
  have hB := (hfin g1 (by omega) (by omega)).trans HB.out
  have hB' := (hfin g2 (by omega) (by omega)).trans HB'.out
  refine bodyPost_ret (v := .agg (nodeRow x.up (some ⟨g1, 0, none⟩) x.kids.length x.kids.length x.style x.measured (some ⟨g2, 0, none⟩) x.rules.length x.rules.length).toArray) ?_ ?_ ?_
  · refine results_row (b := w.heap.size + 1) Try.results132 ?_ Try.underlying86 rfl (by kernel_rfl) ?_
    · rfl
    · refine range_setCells ?_
      simp only [hasRow_setCell, nodeRow_len, hq2]
  · rfl
  · refine ⟨_, rfl, ⟨_, _, _, _, rfl, ?_, ?_, fun _ => ⟨?_, ?_⟩⟩, ?_⟩
    · exact SliceAt.wide (flat_of_blk (sz := 1) hB (fun _ => rfl)) (fun k _ (hk : k = g1) => by show w.heap.size ≤ k; omega)
    · exact SliceAt.wide (flat_of_blk (sz := 3) hB' (fun _ => rfl)) (fun k _ (hk : k = g2) => by show w.heap.size ≤ k; omega)
    · exact wr_of_blk hB (icells_length _) (by show w.heap.size ≤ g1; omega)
    · exact wr_of_blk hB' (flat_length (cells := Rule.cells) (sz := 3) (fun _ => rfl) _) (by show w.heap.size ≤ g2; omega)
    · refine Mod.setCellsNew ?_ (by omega) _ _
      refine Mod.setNew ?_ (by omega) _ _ _
      exact HM.out

set_option maxRecDepth 100000 in
set_option maxHeartbeats 4000000 in
theorem eqNode_same (x : Node) (o o' : Bool) (cs cs' : List Value) (R S : Nat → Prop) (w : World) (hk : x.kids.length ≤ 1048576) (hr : x.rules.length ≤ 1048576) (h : NodeIn o R w cs x) (h' : NodeIn o' S w cs' x) :
    Calls Try.prog 135 #[.agg cs.toArray, .agg cs'.toArray] w fun e w' => e = .returned (.bool true) ∧ Mod (fun _ => False) w w' := by
  obtain ⟨ka, kc, ra, rc, rfl, h1, h2, _⟩ := h
  obtain ⟨ka', kc', ra', rc', rfl, h1', h2', _⟩ := h'
  have H1 := hid h1
  have H2 := hid h2
  have H1' := hid h1'
  have H2' := hid h2'
  clear h1 h2 h1' h2'
  go_enter Try.func135, Try.ntmps135
  go_wp2_with fail
  refine (eqIntS_any x.kids x.kids _ _ _ _ R S _ (by omega) (by omega) (H1.out.flatKeep (by (repeat (first | with_reducible exact Mod.refl _ _ | with_reducible refine Mod.drewN ?_ _ | with_reducible refine Mod.drew ?_ | with_reducible refine Mod.alloc ?_ _ | ((with_reducible refine Mod.setNew ?_ ?_ _ _ _); (rotate_left; omega)) | with_reducible refine Mod.setAt ?_ _ _ _ )))) (H1'.out.flatKeep (by (repeat (first | with_reducible exact Mod.refl _ _ | with_reducible refine Mod.drewN ?_ _ | with_reducible refine Mod.drew ?_ | with_reducible refine Mod.alloc ?_ _ | ((with_reducible refine Mod.setNew ?_ ?_ _ _ _); (rotate_left; omega)) | with_reducible refine Mod.setAt ?_ _ _ _ ))))).mono ?_
  rintro e w1 ⟨rfl, hm1⟩
  rw [decide_eq_true rfl]
  have hM1 : Mod (fun _ => False) w w1 := by (repeat (first | with_reducible exact Mod.refl _ _ | with_reducible refine Mod.drewN ?_ _ | with_reducible refine Mod.drew ?_ | with_reducible refine Mod.alloc ?_ _ | ((with_reducible refine Mod.setNew ?_ ?_ _ _ _); (rotate_left; omega)) | with_reducible refine Mod.setAt ?_ _ _ _ | with_reducible exact hm1 | with_reducible refine Mod.thenNone ?_ hm1 ))
  have hA1 : w1.heap[w.heap.size]? = some (.cells (nodeRow x.up ka x.kids.length kc x.style x.measured ra x.rules.length rc).toArray 86 (0, 0)) := hm1.blk (al2a _ _ _) (fun f => f)
  have hB1 : w1.heap[w.heap.size + 1]? = some (.cells (nodeRow x.up ka' x.kids.length kc' x.style x.measured ra' x.rules.length rc').toArray 86 (0, 0)) := hm1.blk (al2b _ _ _) (fun f => f)
  obtain ⟨hr1, ho1, _⟩ := row_blk hA1 2 60 (by rw [nodeRow_len]; omega)
  rw [nodeRow_style] at ho1
  obtain ⟨hr2, ho2, _⟩ := row_blk hB1 2 60 (by rw [nodeRow_len]; omega)
  rw [nodeRow_style] at ho2
  have HA := hid hA1
  have HB := hid hB1
  have HM := hid hM1
  clear hm1 hA1 hB1 hM1
  go_wp2_with fail
  refine (eqStyle_row x.style _).mono ?_
  rintro e w2 ⟨rfl, hm2⟩
  have hA2 := hm2.blk HA.out (fun f => f)
  have hB2 := hm2.blk HB.out (fun f => f)
  have hM2 := HM.out.thenNone hm2
  clear HA HB HM hm2 hr1 ho1 hr2 ho2
  have c62 := blk_cell hA2 (nodeRow_62 _ _ _ _ _ _ _ _ _)
  have c63 := blk_cell hA2 (nodeRow_63 _ _ _ _ _ _ _ _ _)
  have d62 := blk_cell hB2 (nodeRow_62 _ _ _ _ _ _ _ _ _)
  have d63 := blk_cell hB2 (nodeRow_63 _ _ _ _ _ _ _ _ _)
  have HM := hid hM2
  clear hA2 hB2 hM2
  go_wp2_with fail
  refine (eqTable_any x.rules x.rules _ _ _ _ R S _ (by omega) (by omega) (H2.out.flatKeep HM.out) (H2'.out.flatKeep HM.out)).mono ?_
  rintro e w3 ⟨rfl, hm3⟩
  rw [decide_eq_true rfl]
  go_wp2
  go_ret
  exact ⟨rfl, HM.out.thenNone hm3⟩

/-- What a node counts besides itself. -/
def Node.cost (x : Node) : Nat := x.kids.length + x.rules.length
set_option maxRecDepth 100000 in
set_option maxHeartbeats 4000000 in
theorem szNode_any (x : Node) (o : Bool) (cs : List Value) (R : Nat → Prop) (left : Int) (w : World) (h0 : 0 ≤ left) (h1 : left ≤ 1048576) (hk : x.kids.length ≤ 9223372036854775807) (hr : x.rules.length ≤ 9223372036854775807) (h : NodeIn o R w cs x) :
    Calls Try.prog 130 #[.agg cs.toArray, .int .i64 left] w fun e w' => e = .returned (.int .i64 (szRes left x.cost)) ∧ Mod (fun _ => False) w w' := by
  obtain ⟨ka, kc, ra, rc, rfl, _, _, _⟩ := h
  go_enter Try.func130, Try.ntmps130
  go_wp2_with fail
  refine (szIntS_any _ _ _ _ h0 h1 hk _).mono ?_
  rintro e w1 ⟨rfl, hw1⟩
  have hA : w1.heap[w.heap.size]? = some (.cells (nodeRow x.up ka x.kids.length kc x.style x.measured ra x.rules.length rc).toArray 167 (0, 0)) := by
    rw [← hw1]
    exact heap_alloc_new _ _
  have hM : Mod (fun _ => False) w w1 := by
    rw [← hw1]
    (repeat (first | with_reducible exact Mod.refl _ _ | with_reducible refine Mod.drewN ?_ _ | with_reducible refine Mod.drew ?_ | with_reducible refine Mod.alloc ?_ _ | ((with_reducible refine Mod.setNew ?_ ?_ _ _ _); (rotate_left; omega)) | with_reducible refine Mod.setAt ?_ _ _ _ ))
  have c63 := blk_cell hA (nodeRow_63 _ _ _ _ _ _ _ _ _)
  clear hA hw1
  by_cases hs : left < x.kids.length
  · rw [if_pos hs]
    have hc := hid (szRes_less (left := left) (n := x.cost) (by unfold Node.cost; omega))
    go_wp2
    go_ret
    exact ⟨ret_int hc.out.symm, hM⟩
  · rw [if_neg hs]
    have h2 : 0 ≤ left - x.kids.length := by omega
    go_wp2_with fail
    refine (szTable_any _ _ _ _ h2 (by omega) hr _).mono ?_
    rintro e w2 ⟨rfl, hm2⟩
    by_cases hs2 : left - x.kids.length < x.rules.length
    · rw [if_pos hs2]
      have hc := hid (szRes_less (left := left) (n := x.cost) (by unfold Node.cost; omega))
      go_wp2
      go_ret
      exact ⟨ret_int hc.out.symm, hM.thenNone hm2⟩
    · rw [if_neg hs2]
      have h3 : 0 ≤ left - x.kids.length - x.rules.length := by omega
      have hc := hid (show left - x.kids.length - x.rules.length = szRes left x.cost by rw [szRes_more (by unfold Node.cost; omega)]; unfold Node.cost; omega)
      go_wp2
      go_ret
      exact ⟨ret_int hc.out, hM.thenNone hm2⟩

end Go.Proofs.Ythffgbhphjkdeaa
