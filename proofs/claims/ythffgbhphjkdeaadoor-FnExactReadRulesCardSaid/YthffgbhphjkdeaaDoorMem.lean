/-
  PROVED: words on memory for the walks of this seat (a frame around some blocks; a cursor over the drawn bytes). No program in sight.
-/
import Derived.WalkKit
import Derived.Below
import Derived.Lib.Hide
import Derived.Deep.Quiet
namespace Go.Proofs.YthffgbhphjkdeaaDoor
open Go.RowKit

abbrev I64 (n : Int) : Prop := -9223372036854775808 ≤ n ∧ n ≤ 9223372036854775807
/-- Only the blocks in R, and new blocks, have turned. -/
structure Mod (R : Nat → Prop) (w w' : World) : Prop where
  os : w'.os = w.os
  tape : w'.tape = w.tape
  output : w'.output = w.output
  size : w.heap.size ≤ w'.heap.size
  block : ∀ k, k < w.heap.size → ¬ R k → w'.heap[k]? = w.heap[k]?

theorem Mod.refl (R : Nat → Prop) (w : World) : Mod R w w := ⟨rfl, rfl, rfl, Nat.le_refl _, fun _ _ _ => rfl⟩
theorem Mod.trans {R : Nat → Prop} {a b c : World} (h : Mod R a b) (k : Mod R b c) : Mod R a c :=
  ⟨k.os.trans h.os, k.tape.trans h.tape, k.output.trans h.output, Nat.le_trans h.size k.size, fun i hi hr => (k.block i (Nat.lt_of_lt_of_le hi h.size) hr).trans (h.block i hi hr)⟩
theorem Mod.mono {R R' : Nat → Prop} {w w' : World} (h : Mod R w w') (hr : ∀ k, k < w.heap.size → R k → R' k) : Mod R' w w' :=
  ⟨h.os, h.tape, h.output, h.size, fun k hk hn => h.block k hk fun h' => hn (hr k hk h')⟩
theorem Mod.below {R : Nat → Prop} {w w' : World} (h : Mod R w w') {B : Nat} (hB : B ≤ w.heap.size) (hr : ∀ k, k < B → ¬ R k) : Below B w w' :=
  ⟨h.os, h.tape, h.output, h.size, fun k hk => h.block k (by omega) (hr k hk)⟩
theorem Mod.drew {R : Nat → Prop} {a w : World} (h : Mod R a w) : Mod R a w.drew := ⟨h.os, h.tape, h.output, h.size, h.block⟩
theorem Mod.drewN {R : Nat → Prop} {a w : World} (h : Mod R a w) (n : Nat) : Mod R a (w.drewN n) := ⟨h.os, h.tape, h.output, h.size, h.block⟩
theorem Mod.alloc {R : Nat → Prop} {a w : World} (h : Mod R a w) (o : Obj) : Mod R a (w.alloc o) :=
  h.trans ⟨rfl, rfl, rfl, by simp, fun k hk _ => Below.heap_alloc _ _ _ hk⟩
theorem Mod.setCell {R : Nat → Prop} {a w : World} (h : Mod R a w) {p : Addr} (hp : p.block < w.heap.size → R p.block ∨ a.heap.size ≤ p.block) (u : Value) : Mod R a (w.setCell p u) := by
  refine ⟨h.os, h.tape, h.output, by have := h.size; simpa [World.setCell] using this, fun k hk hr => ?_⟩
  by_cases e : k = p.block
  · subst e
    rcases hp (Nat.lt_of_lt_of_le hk h.size) with h' | h'
    · exact (hr h').elim
    · omega
  · rw [Below.heap_setCell _ _ _ _ e]; exact h.block k hk hr
theorem Mod.setAt {g : Nat} {a w : World} (h : Mod (fun k => k = g) a w) (j : Nat) (s : Option Nat) (u : Value) : Mod (fun k => k = g) a (w.setCell ⟨g, j, s⟩ u) :=
  Mod.setCell h (p := ⟨g, j, s⟩) (fun _ => .inl rfl) u
theorem Mod.setNew {R : Nat → Prop} {g : Nat} {a w : World} (h : Mod R a w) (hg : a.heap.size ≤ g) (j : Nat) (s : Option Nat) (u : Value) : Mod R a (w.setCell ⟨g, j, s⟩ u) :=
  Mod.setCell h (p := ⟨g, j, s⟩) (fun _ => .inr hg) u
theorem Mod.cell {R : Nat → Prop} {w w' : World} (h : Mod R w w') {a : Addr} (hb : a.block < w.heap.size) (hr : ¬ R a.block) : w'.cell? a = w.cell? a :=
  World.cell?_of_block (h.block a.block hb hr)

/-- The bytes of a slice that came in, as the walk reads them: all below block B. -/
def Bytes (B : Nat) (w : World) (a : Option Addr) (len : Nat) : Prop :=
  len = 0 ∨ ∃ b off, a = some ⟨b, off, none⟩ ∧ b < B ∧ ∀ i, i < len → ∃ n : Int, 0 ≤ n ∧ n ≤ 255 ∧ w.cell? ⟨b, off + i, none⟩ = some (.int .u8 n)

theorem Bytes.same {B : Nat} {w w' : World} {a : Option Addr} {len : Nat} (h : Bytes B w a len) (hs : ∀ k, k < B → w'.heap[k]? = w.heap[k]?) : Bytes B w' a len := by
  rcases h with h | ⟨b, off, rfl, hb, hc⟩
  · exact .inl h
  · refine .inr ⟨b, off, rfl, hb, fun i hi => ?_⟩
    obtain ⟨n, h0, h1, h2⟩ := hc i hi
    exact ⟨n, h0, h1, by rw [World.cell?_of_block (w := w) (hs b hb)]; exact h2⟩

/-- A cursor at block g: the drawn bytes, a place in them, a number. -/
def CurAt (B : Nat) (T : TypeId) (w : World) (g : Nat) (a : Option Addr) (len cap i : Nat) (h : Int) : Prop :=
  B ≤ g ∧ w.heap[g]? = some (.cells #[.slice a len cap, .int .i64 (i : Int), .int .i64 h] T (0, 0)) ∧ i ≤ len ∧ len ≤ 1048576 ∧ Bytes B w a len
def Cur (B : Nat) (T : TypeId) (w : World) (g : Nat) : Prop := ∃ a len cap i h, CurAt B T w g a len cap i h

theorem Cur.size {B T w g} (h : Cur B T w g) : g < w.heap.size := by
  obtain ⟨a, len, cap, i, h, _, hg, _⟩ := h
  exact (Array.getElem?_eq_some_iff.1 hg).1
theorem Cur.base {B T w g} (h : Cur B T w g) : B ≤ g := by
  obtain ⟨a, len, cap, i, h, hb, _⟩ := h
  exact hb
/-- A cursor outlives what turns neither it nor the bytes. -/
theorem Cur.same {B T w w' g} (h : Cur B T w g) (hg : w'.heap[g]? = w.heap[g]?) (hs : ∀ k, k < B → w'.heap[k]? = w.heap[k]?) : Cur B T w' g := by
  obtain ⟨a, len, cap, i, h, hb, hc, hi, hl, hy⟩ := h
  exact ⟨a, len, cap, i, h, hb, hg.trans hc, hi, hl, hy.same hs⟩

theorem hid {p : Prop} (h : p) : Hid p := h

theorem and255 (x : Int) : 0 ≤ bits .and .i64 x 255 ∧ bits .and .i64 x 255 ≤ 255 := by
  have h : (BitVec.ofInt IntKind.i64.bits x &&& BitVec.ofInt IntKind.i64.bits 255).toNat ≤ 255 := by
    have e : (BitVec.ofInt IntKind.i64.bits 255).toNat = 255 := by decide
    rw [BitVec.toNat_and, e]
    exact Nat.and_le_right
  unfold bits
  simp only []
  have e : ∀ n : Nat, n ≤ 255 → IntKind.i64.wrap (n : Int) = n := by
    intro n hn
    simp [IntKind.wrap, IntKind.bits, IntKind.signed]
    omega
  rw [e _ h]
  omega

/-- What a draw leaves: a number with a property; the cursor stands; nothing else has turned. -/
def Drew (B : Nat) (T : TypeId) (g : Nat) (w : World) (p : Int → Prop) (e : Ending) (w' : World) : Prop :=
  ∃ x : Int, p x ∧ e = .returned (.int .i64 x) ∧ Cur B T w' g ∧ Mod (fun k => k = g) w w'

/-- The same, out of its parts: the bytes are kept by the frame. -/
theorem drew_mk {B : Nat} {T : TypeId} {g : Nat} {w w' : World} {p : Int → Prop} {x : Int} (hp : p x)
    (hc : ∃ a len cap i h, B ≤ g ∧ w'.heap[g]? = some (.cells #[.slice a len cap, .int .i64 ((i : Nat) : Int), .int .i64 h] T (0, 0)) ∧ i ≤ len ∧ len ≤ 1048576 ∧ Bytes B w a len)
    (hm : Mod (fun k => k = g) w w') : Drew B T g w p (.returned (.int .i64 x)) w' := by
  obtain ⟨a, len, cap, i, h, hb, hg, hi, hl, hy⟩ := hc
  refine ⟨x, hp, rfl, ⟨a, len, cap, i, h, hb, hg, hi, hl, ?_⟩, hm⟩
  rcases hy with hy | ⟨b, off, rfl, hbB, hc⟩
  · exact .inl hy
  · refine .inr ⟨b, off, rfl, hbB, fun i hi => ?_⟩
    obtain ⟨n, h0, h1, h2⟩ := hc i hi
    refine ⟨n, h0, h1, ?_⟩
    rw [hm.cell (a := ⟨b, off + i, none⟩) (World.block_lt_of_cell? w _ h2) (by show ¬ b = g; omega)]
    exact h2

/-- A row of ints at block b from place o on. -/
def Ints (w : World) (b o : Nat) (l : List Int) : Prop := ∀ i, i < l.length → w.cell? ⟨b, o + i, none⟩ = some (.int .i64 (l.getD i 0))

theorem Ints.mod {R : Nat → Prop} {w w' : World} {b o : Nat} {l : List Int} (h : Ints w b o l) (hm : Mod R w w') (hr : ¬ R b) : Ints w' b o l := by
  intro i hi
  rw [hm.cell (a := ⟨b, o + i, none⟩) (World.block_lt_of_cell? w _ (h i hi)) hr]
  exact h i hi

theorem getD_mem {l : List Int} {k : Nat} (h : k < l.length) : l.getD k 0 ∈ l := by
  simp [List.getD, h]

/-- A callee that only computes, met inside a region that draws its order and only reads. -/
theorem quiet_same {P : Program} {f : FuncId} {args : Array Value} {w : World} {n : Nat} {v : Value}
    (h : Calls P f args (w.drewN n) fun e w' => e = .returned v ∧ w.drewN n = w') : Calls P f args (w.drewN n) fun e w'' => e = .returned v ∧ ∃ m, w'' = w.drewN m :=
  h.mono fun _ _ ⟨he, hm⟩ => ⟨he, n, hm.symm⟩

/-- A slice of ints reads as the list l. -/
def IntsAt (w : World) (a : Option Addr) (l : List Int) : Prop := l = [] ∨ ∃ b o, a = some ⟨b, o, none⟩ ∧ Ints w b o l
/-- .. and its memory lies in blocks of R. -/
def InR (R : Nat → Prop) (a : Option Addr) : Prop := ∀ x, a = some x → R x.block
theorem IntsAt.mod {R : Nat → Prop} {w w' : World} {a : Option Addr} {l : List Int} (h : IntsAt w a l) (hm : Mod R w w') (hr : InR (fun k => ¬ R k) a) : IntsAt w' a l := by
  rcases h with h | ⟨b, o, rfl, h⟩
  · exact .inl h
  · exact .inr ⟨b, o, rfl, h.mod hm (hr _ rfl)⟩

theorem Ints.get {w : World} {b o : Nat} {l : List Int} (h : Ints w b o l) {k : Nat} (hk : k < l.length) : ∃ x, Hid (l[k]? = some x) ∧ w.cell? ⟨b, o + k, none⟩ = some (.int .i64 x) :=
  ⟨l[k], List.getElem?_eq_getElem hk, by have := h k hk; simpa [List.getD, hk] using this⟩
theorem IntsAt.get {w : World} {a : Option Addr} {l : List Int} (h : IntsAt w a l) {k : Nat} (hk : k < l.length) : ∃ b o x, a = some ⟨b, o, none⟩ ∧ Hid (l[k]? = some x) ∧ w.cell? ⟨b, o + k, none⟩ = some (.int .i64 x) := by
  rcases h with rfl | ⟨b, o, rfl, h⟩
  · simp at hk
  · obtain ⟨x, h1, h2⟩ := h.get hk
    exact ⟨b, o, x, rfl, h1, h2⟩
/-- The first k elements are the same. -/
def SameTo {α : Type} (l m : List α) (k : Nat) : Prop := l.take k = m.take k
theorem SameTo.succ {α : Type} {l m : List α} {k : Nat} {x : α} (h : SameTo l m k) (hl : Hid (l[k]? = some x)) (hm : Hid (m[k]? = some x)) : SameTo l m (k + 1) := by
  unfold SameTo at *
  rw [List.take_add_one, List.take_add_one, h, hl.out, hm.out]
theorem SameTo.all {α : Type} {l m : List α} {k : Nat} (h : SameTo l m k) (hl : l.length ≤ k) (hm : m.length ≤ k) : l = m := by
  unfold SameTo at h
  rwa [List.take_of_length_le hl, List.take_of_length_le hm] at h
theorem ne_at {α : Type} {l m : List α} {k : Nat} {x y : α} (hl : Hid (l[k]? = some x)) (hm : Hid (m[k]? = some y)) (h : x ≠ y) : l ≠ m := by
  rintro rfl
  have := hl.out.symm.trans hm.out
  simp at this
  exact h this

theorem ret_bool {a b : Bool} (h : a = b) : Ending.returned (.bool a) = .returned (.bool b) := by rw [h]
theorem ret_int {k : IntKind} {a b : Int} (h : a = b) : Ending.returned (.int k a) = .returned (.int k b) := by rw [h]

theorem Mod.then {R S : Nat → Prop} {a b c : World} (h : Mod R a b) (k : Mod S b c) (hs : ∀ i, i < a.heap.size → S i → R i) : Mod R a c :=
  ⟨k.os.trans h.os, k.tape.trans h.tape, k.output.trans h.output, Nat.le_trans h.size k.size, fun i hi hr => (k.block i (Nat.lt_of_lt_of_le hi h.size) fun h' => hr (hs i hi h')).trans (h.block i hi hr)⟩
theorem Mod.thenNew {R : Nat → Prop} {g : Nat} {a b c : World} (h : Mod R a b) (k : Mod (fun k => k = g) b c) (hg : a.heap.size ≤ g) : Mod R a c :=
  h.then k fun i hi (e : i = g) => by omega
theorem Mod.thenNone {R : Nat → Prop} {a b c : World} (h : Mod R a b) (k : Mod (fun _ => False) b c) : Mod R a c :=
  h.then k fun _ _ f => f.elim
theorem Cur.mod {B T w w' g} {R : Nat → Prop} (hc : Cur B T w g) (hm : Mod R w w') (hg : ¬ R g) (hb : ∀ k, k < B → ¬ R k) : Cur B T w' g := by
  have h1 := hc.size
  have h2 := hc.base
  exact hc.same (hm.block g h1 hg) fun k hk => hm.block k (by omega) (hb k hk)
theorem Cur.none {B T w w' g} (hc : Cur B T w g) (hm : Mod (fun _ => False) w w') : Cur B T w' g := hc.mod hm (fun h => h) fun _ _ h => h
theorem Cur.other {B T w w' g k} (hc : Cur B T w g) (hm : Mod (fun i => i = k) w w') (hk : k ≠ g) (hb : B ≤ k) : Cur B T w' g :=
  hc.mod hm (fun (e : g = k) => hk e.symm) fun i hi (e : i = k) => by omega
theorem Cur.alloc {B T w g} (hc : Cur B T w g) (o : Obj) : Cur B T (w.alloc o) g := hc.none ((Mod.refl _ w).alloc o)
/-- A block known whole. -/
theorem blk_cell {w : World} {b : Nat} {l : List Value} {T : TypeId} {fr : Nat × Nat} (h : w.heap[b]? = some (.cells l.toArray T fr)) {j : Nat} {v : Value} (hv : l[j]? = some v) : w.cell? ⟨b, j, none⟩ = some v := by
  simp [World.cell?, h, hv]
theorem blk_free {w : World} {b : Nat} {c : Array Value} {T : TypeId} (h : w.heap[b]? = some (.cells c T (0, 0))) (j : Nat) : w.frozen? ⟨b, j, none⟩ = false := by
  simp [World.frozen?, h]
theorem Mod.blk {R : Nat → Prop} {w w' : World} (h : Mod R w w') {b : Nat} {o : Obj} (hb : w.heap[b]? = some o) (hr : ¬ R b) : w'.heap[b]? = some o := by
  rw [h.block b (Array.getElem?_eq_some_iff.1 hb).1 hr]; exact hb

/-- A new cursor. -/
def NewCur (B : Nat) (T : TypeId) (w : World) (e : Ending) (w' : World) : Prop :=
  ∃ g, w.heap.size ≤ g ∧ e = .returned (.pointer (some ⟨g, 0, none⟩)) ∧ Cur B T w' g ∧ Mod (fun _ => False) w w'

theorem Mod.keep {w w' : World} (h : Mod (fun _ => False) w w') (a : Addr) (v : Value) (hc : w.cell? a = some v) : w'.cell? a = some v := by
  rw [h.cell (World.block_lt_of_cell? w a hc) (fun f => f)]; exact hc

/-- What the row's frame hands over of a slice of bytes, in the walk's words. -/
theorem bytes_of_row {w : World} {a : Option Addr} {len cap : Nat} {zs : List Int}
    (h : (a = none ∧ len = 0 ∧ cap = 0 ∧ zs = []) ∨ ∃ x, a = some x ∧ len ≤ cap ∧ cap ≤ maxLen ∧ zs.length = cap ∧ (∀ i, i < zs.length → w.cell? (x.add i) = some (.int .u8 (zs.getD i 0))) ∧ ∀ n ∈ zs, (Lit.int .u8 n).wf = true) :
    len ≤ 9223372036854775807 ∧ Bytes w.heap.size w a len := by
  rcases h with ⟨_, rfl, _, _⟩ | ⟨x, rfl, hlc, hc, hz, hcell, hwf⟩
  · exact ⟨by omega, .inl rfl⟩
  · unfold maxLen at hc
    refine ⟨by omega, ?_⟩
    by_cases hl : len = 0
    · exact .inl hl
    · obtain ⟨b, off, spot⟩ := x
      have h0 := hcell 0 (by omega)
      have hs : spot = none := by simpa [Addr.add] using World.cell?_spot h0
      subst hs
      have hb : b < w.heap.size := by simpa [Addr.add] using World.block_lt_of_cell? w _ h0
      refine .inr ⟨b, off, rfl, hb, fun i hi => ?_⟩
      have hi' : i < zs.length := by omega
      have hw := hwf (zs.getD i 0) (by simp [hi'])
      have e : (⟨b, off, none⟩ : Addr).add i = ⟨b, off + i, none⟩ := by unfold Addr.add; split <;> simp_all
      refine ⟨zs.getD i 0, ?_, ?_, by rw [← e]; exact hcell i hi'⟩ <;>
        (simp only [Lit.wf, IntKind.min, IntKind.max, IntKind.signed, IntKind.bits] at hw; simp at hw ⊢; omega)

end Go.Proofs.YthffgbhphjkdeaaDoor
