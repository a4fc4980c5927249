/-
  PROVED: how slices of structs read in memory (rows of cells); that they outlive what does not touch them. No program in sight.
-/
import Derived.Test.YthffgbhphjkdeaaDoorMem
namespace Go.Proofs.YthffgbhphjkdeaaDoor
open Go.RowKit

/-- The rows of a slice: element i lies at place o + i * sz of block b. -/
def RowsAt (sz : Nat) (R : Nat → Prop) (w : World) (a : Option Addr) (rows : List (List Value)) : Prop :=
  rows = [] ∨ ∃ b o, a = some ⟨b, o, none⟩ ∧ R b ∧ b < w.heap.size ∧ ∀ (i : Nat) (r : List Value), rows[i]? = some r → r.length = sz ∧ ∀ (j : Nat) (v : Value), r[j]? = some v → w.cell? ⟨b, o + i * sz + j, none⟩ = some v

theorem RowsAt.nil {sz R w a} : RowsAt sz R w a [] := .inl rfl
theorem RowsAt.mod {sz : Nat} {R S : Nat → Prop} {w w' : World} {a : Option Addr} {rows : List (List Value)} (h : RowsAt sz R w a rows) (hm : Mod S w w') (hs : ∀ k, R k → ¬ S k) : RowsAt sz R w' a rows := by
  rcases h with h | ⟨b, o, rfl, hR, hb, h⟩
  · exact .inl h
  · refine .inr ⟨b, o, rfl, hR, Nat.lt_of_lt_of_le hb hm.size, fun i r hr => ⟨(h i r hr).1, fun j v hv => ?_⟩⟩
    rw [hm.cell (a := ⟨b, o + i * sz + j, none⟩) hb (hs b hR)]
    exact (h i r hr).2 j v hv
theorem RowsAt.keep {sz : Nat} {R : Nat → Prop} {w w' : World} {a : Option Addr} {rows : List (List Value)} (h : RowsAt sz R w a rows) (hm : Mod (fun _ => False) w w') : RowsAt sz R w' a rows := h.mod hm fun _ _ f => f
theorem RowsAt.drewN {sz R w a rows} (h : RowsAt sz R w a rows) (n : Nat) : RowsAt sz R (w.drewN n) a rows := h.keep ((Mod.refl _ w).drewN n)
theorem RowsAt.weaken {sz : Nat} {R S : Nat → Prop} {w : World} {a : Option Addr} {rows : List (List Value)} (h : RowsAt sz R w a rows) (hs : ∀ k, k < w.heap.size → R k → S k) : RowsAt sz S w a rows := by
  rcases h with h | ⟨b, o, rfl, hR, hb, h⟩
  · exact .inl h
  · exact .inr ⟨b, o, rfl, hs b hb hR, hb, h⟩
theorem RowsAt.get {sz : Nat} {R : Nat → Prop} {w : World} {a : Option Addr} {rows : List (List Value)} (h : RowsAt sz R w a rows) {k : Nat} {r : List Value} (hk : rows[k]? = some r) :
    ∃ b o, a = some ⟨b, o, none⟩ ∧ R b ∧ b < w.heap.size ∧ r.length = sz ∧ ∀ j v, r[j]? = some v → w.cell? ⟨b, o + k * sz + j, none⟩ = some v := by
  rcases h with rfl | ⟨b, o, rfl, hR, hb, h⟩
  · simp at hk
  · exact ⟨b, o, rfl, hR, hb, h k r hk⟩

/-- A slice reads as the list l: each row stands for its element. -/
def SliceAt {α : Type} (rep : World → List Value → α → Prop) (sz : Nat) (R : Nat → Prop) (w : World) (a : Option Addr) (l : List α) : Prop :=
  ∃ rows : List (List Value), RowsAt sz R w a rows ∧ rows.length = l.length ∧ ∀ (i : Nat) (r : List Value) (x : α), rows[i]? = some r → l[i]? = some x → rep w r x

theorem SliceAt.nil {α : Type} {rep : World → List Value → α → Prop} {sz R w a} : SliceAt rep sz R w a ([] : List α) := ⟨[], .inl rfl, rfl, fun _ _ _ h => by simp at h⟩
theorem SliceAt.mod {α : Type} {rep : World → List Value → α → Prop} {sz : Nat} {R S : Nat → Prop} {w w' : World} {a : Option Addr} {l : List α} (h : SliceAt rep sz R w a l) (hm : Mod S w w') (hs : ∀ k, R k → ¬ S k)
    (hr : ∀ r x, rep w r x → rep w' r x) : SliceAt rep sz R w' a l := by
  obtain ⟨rows, h1, h2, h3⟩ := h
  exact ⟨rows, h1.mod hm hs, h2, fun i r x a b => hr _ _ (h3 i r x a b)⟩
theorem SliceAt.get {α : Type} {rep : World → List Value → α → Prop} {sz : Nat} {R : Nat → Prop} {w : World} {a : Option Addr} {l : List α} (h : SliceAt rep sz R w a l) {k : Nat} (hk : k < l.length) :
    ∃ b o x r, a = some ⟨b, o, none⟩ ∧ R b ∧ b < w.heap.size ∧ Hid (l[k]? = some x) ∧ rep w r x ∧ r.length = sz ∧ ∀ j v, r[j]? = some v → w.cell? ⟨b, o + k * sz + j, none⟩ = some v := by
  obtain ⟨rows, h1, h2, h3⟩ := h
  have e1 := List.getElem?_eq_getElem hk
  have e2 := List.getElem?_eq_getElem (l := rows) (i := k) (by omega)
  obtain ⟨b, o, rfl, hR, hb, hl, hc⟩ := h1.get e2
  exact ⟨b, o, _, _, rfl, hR, hb, e1, h3 _ _ _ e2 e1, hl, hc⟩

/-- Flat structs: the row is told by the element. -/
def Flat {α : Type} (cells : α → List Value) (_w : World) (r : List Value) (x : α) : Prop := r = cells x

theorem flatten_at {rows : List (List Value)} {sz : Nat} (h : ∀ r ∈ rows, r.length = sz) {i : Nat} {r : List Value} (hi : rows[i]? = some r) {j : Nat} {v : Value} (hj : r[j]? = some v) :
    rows.flatten[i * sz + j]? = some v := by
  induction rows generalizing i with
  | nil => simp at hi
  | cons r0 rest ih =>
    have h0 : r0.length = sz := h r0 (by simp)
    cases i with
    | zero =>
      simp at hi
      subst hi
      have : j < r0.length := (List.getElem?_eq_some_iff.1 hj).1
      simp [List.getElem?_append_left this, hj]
    | succ i =>
      simp at hi
      have e : (i + 1) * sz + j = r0.length + (i * sz + j) := by rw [h0, Nat.add_mul]; omega
      rw [List.flatten_cons, e, List.getElem?_append_right (by omega), Nat.add_sub_cancel_left]
      exact ih (fun r hr => h r (by simp [hr])) hi
theorem flatten_length {rows : List (List Value)} {sz : Nat} (h : ∀ r ∈ rows, r.length = sz) : rows.flatten.length = rows.length * sz := by
  induction rows with
  | nil => simp
  | cons r rest ih => rw [List.flatten_cons, List.length_append, h r (by simp), ih (fun r hr => h r (by simp [hr])), List.length_cons, Nat.add_mul]; omega

/-- What a call owns (the kit's word) reads as rows. -/
theorem rowsAt_of_own {w : World} {base e sz n c : Nat} {a : Option Addr} {rows : List (List Value)} (h : w.ownsRow base e sz (.slice a n c) n rows.flatten) (hr : ∀ r ∈ rows, r.length = sz) (hsz : sz ≠ 0) :
    RowsAt sz (fun k => base ≤ k) w a rows := by
  rcases h.2 with ⟨hv, hn⟩ | ⟨g, cap, cur, hv, hb, hh, hnc, _, hcs, ht⟩
  · have h1 := h.1
    have hl := flatten_length hr
    by_cases hz : rows = []
    · exact .inl hz
    · have : rows.length * sz = 0 := by rw [← hl, h1, hn, Nat.zero_mul]
      have : rows.length = 0 := by
        rcases Nat.mul_eq_zero.1 this with h | h
        · exact h
        · exact (hsz h).elim
      exact (hz (List.eq_nil_of_length_eq_zero this)).elim
  · injection hv with ha _ _
    subst ha
    refine .inr ⟨g, 0, rfl, hb, (Array.getElem?_eq_some_iff.1 hh).1, fun i r hi => ⟨hr r (List.mem_of_getElem? hi), fun j v hj => ?_⟩⟩
    have e1 := flatten_at hr hi hj
    rw [← ht, List.getElem?_take] at e1
    split at e1
    · rw [Nat.zero_add, cell_of_row w g _ cur e (0, 0) hh]
      simpa using e1
    · cases e1

/-- Behind a callee that made memory: the old cells and marks, as rules of the walk. -/
theorem mcell {w w1 : World} (h : Mod (fun _ => False) w w1) : (∀ b o, b < w.heap.size → w1.cell? ⟨b, o, none⟩ = w.cell? ⟨b, o, none⟩) ∧ (∀ b o, b < w.heap.size → w1.frozen? ⟨b, o, none⟩ = w.frozen? ⟨b, o, none⟩) :=
  ⟨fun b o hb => h.cell (a := ⟨b, o, none⟩) hb (fun f => f), fun b _ hb => World.frozen?_of_block (h.block b hb (fun f => f))⟩

/-- A block of n cells of the call's own, filled up to xs. -/
def Filled (g : Nat) (e : TypeId) (n : Nat) (w : World) (xs : List Value) : Prop :=
  ∃ cur, w.heap[g]? = some (.cells cur e (0, 0)) ∧ cur.size = n ∧ cur.toList.take xs.length = xs
theorem Filled.size {g e n w xs} (h : Filled g e n w xs) : g < w.heap.size := by
  obtain ⟨cur, h1, _⟩ := h
  exact (Array.getElem?_eq_some_iff.1 h1).1
theorem Filled.made (w : World) (e n : Nat) (cur : Array Value) (h : cur.size = n) : Filled w.heap.size e n (w.alloc (.cells cur e)) [] := ⟨cur, heap_alloc_new w _, h, by simp⟩
theorem Filled.mod {g e n : Nat} {w w' : World} {xs : List Value} {R : Nat → Prop} (h : Filled g e n w xs) (hm : Mod R w w') (hr : ¬ R g) : Filled g e n w' xs := by
  obtain ⟨cur, h1, h2⟩ := h
  exact ⟨cur, hm.blk h1 hr, h2⟩
theorem Filled.push {g e n : Nat} {w : World} {xs : List Value} (h : Filled g e n w xs) {off : Nat} (ho : off = xs.length) (hn : off < n) (v : Value) : Filled g e n (w.setCell ⟨g, off, none⟩ v) (xs ++ [v]) := by
  obtain ⟨cur, h1, h2, h3⟩ := h
  subst ho
  refine ⟨cur.setIfInBounds xs.length v, ?_, by simpa using h2, ?_⟩
  · simp [World.setCell, Array.getElem?_modify, h1]
  · have hl : xs.length < cur.toList.length := by simpa [h2] using hn
    rw [Array.toList_setIfInBounds, List.length_append, List.length_singleton, List.take_add_one, List.take_set_of_le (Nat.le_refl _), h3]
    rw [List.getElem?_set_self hl]
    rfl
theorem Filled.cell {g e n : Nat} {w : World} {xs : List Value} (h : Filled g e n w xs) {off : Nat} (hn : off < n) : ∃ v, w.cell? ⟨g, off, none⟩ = some v := by
  obtain ⟨cur, h1, h2, _⟩ := h
  rw [cell_of_row w g off cur e (0, 0) h1]
  exact ⟨_, Array.getElem?_eq_getElem (by omega)⟩
theorem Filled.read {g e n : Nat} {w : World} {xs : List Value} (h : Filled g e n w xs) {i : Nat} {v : Value} (hv : xs[i]? = some v) : w.cell? ⟨g, i, none⟩ = some v := by
  obtain ⟨cur, h1, h2, h3⟩ := h
  rw [cell_of_row w g i cur e (0, 0) h1]
  rw [← h3, List.getElem?_take] at hv
  split at hv
  · simpa using hv
  · cases hv
theorem Filled.free {g e n : Nat} {w : World} {xs : List Value} (h : Filled g e n w xs) (off : Nat) : w.frozen? ⟨g, off, none⟩ = false := by
  obtain ⟨cur, h1, _⟩ := h
  simp [World.frozen?, h1]
theorem Filled.full {g e n : Nat} {w : World} {xs : List Value} (h : Filled g e n w xs) (hl : xs.length = n) : w.heap[g]? = some (.cells xs.toArray e (0, 0)) := by
  obtain ⟨cur, h1, h2, h3⟩ := h
  rw [h1]
  have : cur.toList = xs := by rw [← h3, List.take_of_length_le (by simp; omega)]
  rw [← this]

/-- A new slice that owns its rows: what a copy hands back. -/
def NewRows (e : TypeId) (w : World) (n : Nat) (xs : List Value) (en : Ending) (w' : World) : Prop :=
  ∃ g, en = .returned (.slice (some ⟨g, 0, none⟩) n n) ∧ w.heap.size ≤ g ∧ w'.heap[g]? = some (.cells xs.toArray e (0, 0)) ∧ Mod (fun _ => False) w w'

/-- A block whose cells are the rows' reads as rows. -/
theorem rowsAt_of_blk {w : World} {g e sz : Nat} {rows : List (List Value)} {R : Nat → Prop} (h : w.heap[g]? = some (.cells rows.flatten.toArray e (0, 0))) (hr : ∀ r ∈ rows, r.length = sz) (hR : R g) : RowsAt sz R w (some ⟨g, 0, none⟩) rows :=
  .inr ⟨g, 0, rfl, hR, (Array.getElem?_eq_some_iff.1 h).1, fun i r hi => ⟨hr r (List.mem_of_getElem? hi), fun j v hj => by
    rw [Nat.zero_add]
    exact blk_cell h (flatten_at hr hi hj)⟩⟩

theorem flat_length {α : Type} {cells : α → List Value} {sz : Nat} (h : ∀ x, (cells x).length = sz) (l : List α) : (l.map cells).flatten.length = l.length * sz := by
  rw [flatten_length (sz := sz) (by intro r hr; obtain ⟨x, _, rfl⟩ := List.mem_map.1 hr; exact h x), List.length_map]
theorem flat_succ {α : Type} {cells : α → List Value} {l : List α} {k : Nat} {x : α} (h : Hid (l[k]? = some x)) : ((l.take (k + 1)).map cells).flatten = ((l.take k).map cells).flatten ++ cells x := by
  rw [List.take_add_one, h.out]
  simp
theorem take_length_of_lt {α : Type} {l : List α} {k : Nat} (h : k ≤ l.length) : (l.take k).length = k := by simp; omega

/-- A new slice of the call's own: what an append loop, or a copy, hands back. -/
def NewSlice (e sz : Nat) (w : World) (n : Nat) (xs : List Value) (en : Ending) (w' : World) : Prop :=
  ∃ a c, en = .returned (.slice a n c) ∧ w'.ownsRow w.heap.size e sz (.slice a n c) n xs ∧ Mod (fun _ => False) w w'
theorem NewRows.slice {e sz : Nat} {w w' : World} {n : Nat} {xs : List Value} {en : Ending} (h : NewRows e w n xs en w') (hl : xs.length = n * sz) (hn : n ≤ maxLen) : NewSlice e sz w n xs en w' := by
  obtain ⟨g, he, hg, hb, hm⟩ := h
  exact ⟨_, _, he, ⟨hl, .inr ⟨g, n, xs.toArray, rfl, hg, hb, Nat.le_refl _, hn, by simpa using hl, by simp [← hl]⟩⟩, hm⟩
/-- An owned row can be marked. -/
theorem own_filled {w : World} {base e sz n c : Nat} {a : Option Addr} {xs : List Value} (h : w.ownsRow base e sz (.slice a n c) n xs) : n = 0 ∨ ∃ g N, a = some ⟨g, 0, none⟩ ∧ base ≤ g ∧ n * sz ≤ N ∧ Filled g e N w [] := by
  rcases h.2 with ⟨_, hn⟩ | ⟨g, cap, cur, hv, hb, hh, hnc, _, hcs, _⟩
  · exact .inl hn
  · injection hv with ha _ _
    exact .inr ⟨g, cap * sz, ha, hb, Nat.mul_le_mul_right _ hnc, cur, hh, hcs, by simp⟩
theorem own_mod {w w' : World} {base e sz n c : Nat} {a : Option Addr} {xs : List Value} {R : Nat → Prop} (h : w.ownsRow base e sz (.slice a n c) n xs) (hm : Mod R w w') (hr : ∀ k, base ≤ k → ¬ R k) : w'.ownsRow base e sz (.slice a n c) n xs := by
  refine ⟨h.1, ?_⟩
  rcases h.2 with h2 | ⟨g, cap, cur, hv, hb, hh, hrest⟩
  · exact .inl h2
  · exact .inr ⟨g, cap, cur, hv, hb, hm.blk hh (hr g hb), hrest⟩
theorem own_slice {α : Type} {cells : α → List Value} {w : World} {base e sz n c : Nat} {a : Option Addr} {l : List α} (h : w.ownsRow base e sz (.slice a n c) n (l.map cells).flatten) (hc : ∀ x, (cells x).length = sz) (hsz : sz ≠ 0) :
    SliceAt (Flat cells) sz (fun k => base ≤ k) w a l :=
  ⟨l.map cells, rowsAt_of_own h (by intro r hr; obtain ⟨x, _, rfl⟩ := List.mem_map.1 hr; exact hc x) hsz, by simp, by
    intro i r x h1 h2
    rw [List.getElem?_map, h2] at h1
    simpa [Flat] using h1.symm⟩
/-- Behind an append: what is below the base is as it was. -/
theorem Mod.grownBy {R : Nat → Prop} {w w' : World} {row : Option Nat} {W : World} (h : Mod R W w) (hg : w.grownBy w' row) (hr : ∀ k, row = some k → W.heap.size ≤ k) : Mod R W w' :=
  ⟨hg.os.trans h.os, hg.tape.trans h.tape, hg.output.trans h.output, Nat.le_trans h.size hg.size, fun k hk hn => (hg.block k (Nat.lt_of_lt_of_le hk h.size) (fun e => by have := hr k e.symm; omega)).trans (h.block k hk hn)⟩

theorem cells_new (w : World) (vals : List Value) (e : TypeId) : ∀ j u, vals[j]? = some u → (w.alloc (.cells vals.toArray e)).cell? ((⟨w.heap.size, 0, none⟩ : Addr).add j) = some u := by
  intro j u hu
  have ea : (⟨w.heap.size, 0, none⟩ : Addr).add j = ⟨w.heap.size, j, none⟩ := by unfold Addr.add; split <;> simp_all
  rw [ea]
  exact blk_cell (heap_alloc_new w _) hu
theorem cells_new1 (w : World) (o : Obj) (vals : List Value) (e : TypeId) : ∀ j u, vals[j]? = some u → ((w.alloc o).alloc (.cells vals.toArray e)).cell? ((⟨w.heap.size + 1, 0, none⟩ : Addr).add j) = some u := by
  have h := cells_new (w.alloc o) vals e
  rwa [World.size_alloc] at h
theorem ones_of {vals : List Value} (h : vals.all Value.oneCell' = true) : ∀ u ∈ vals, u.oneCell' = true := List.all_eq_true.1 h
theorem own_room {R : Nat → Prop} {w wr : World} (h : Mod R w wr) (o : Obj) : w.heap.size ≤ (wr.alloc o).heap.size := by have := h.size; simp; omega
/-- Behind an append: the value's form. -/
theorem own_form {w : World} {base e sz n : Nat} {v : Value} {xs : List Value} (h : w.ownsRow base e sz v n xs) : ∃ a c, v = .slice a n c := by
  rcases h.2 with ⟨hv, hn⟩ | ⟨g, cap, cur, hv, _⟩
  · exact ⟨_, _, by rw [hv, hn]⟩
  · exact ⟨_, _, hv⟩
theorem Mod.appended {R : Nat → Prop} {W w w' : World} {base e sz n : Nat} {v : Value} {xs : List Value} {o : Obj} (h : Mod R W w) (ho : w.ownsRow base e sz v n xs) (hb : W.heap.size ≤ base) (hg : (w.alloc o).grownBy w' v.ownBlock) : Mod R W w' :=
  (h.alloc o).grownBy hg fun k hk => by have := ho.lt k hk; omega

/-- A slice's memory lies below the heap's end: so told, it outlives what is written later. -/
theorem SliceAt.low {α : Type} {rep : World → List Value → α → Prop} {sz : Nat} {R : Nat → Prop} {w : World} {a : Option Addr} {l : List α} (h : SliceAt rep sz R w a l) : SliceAt rep sz (fun k => k < w.heap.size) w a l := by
  obtain ⟨rows, h1, h2⟩ := h
  exact ⟨rows, h1.weaken fun _ hk _ => hk, h2⟩
theorem SliceAt.flatMod {α : Type} {cells : α → List Value} {sz : Nat} {R S : Nat → Prop} {w w' : World} {a : Option Addr} {l : List α} (h : SliceAt (Flat cells) sz R w a l) (hm : Mod S w w') (hs : ∀ k, R k → ¬ S k) : SliceAt (Flat cells) sz R w' a l :=
  h.mod hm hs fun _ _ h => h
theorem SliceAt.flatKeep {α : Type} {cells : α → List Value} {sz : Nat} {R : Nat → Prop} {w w' : World} {a : Option Addr} {l : List α} (h : SliceAt (Flat cells) sz R w a l) (hm : Mod (fun _ => False) w w') : SliceAt (Flat cells) sz R w' a l :=
  h.flatMod hm fun _ _ f => f
/-- What a copy hands back, told as a slice and as a block to be marked. -/
theorem NewRows.use {α : Type} {cells : α → List Value} {e sz : Nat} {w w' : World} {l : List α} {en : Ending} (h : NewRows e w l.length (l.map cells).flatten en w') (hc : ∀ x, (cells x).length = sz) :
    ∃ g, en = .returned (.slice (some ⟨g, 0, none⟩) l.length l.length) ∧ w.heap.size ≤ g ∧ g < w'.heap.size ∧ SliceAt (Flat cells) sz (fun k => k = g) w' (some ⟨g, 0, none⟩) l ∧ Filled g e (l.length * sz) w' [] ∧ Mod (fun _ => False) w w' := by
  obtain ⟨g, he, hg, hb, hm⟩ := h
  refine ⟨g, he, hg, (Array.getElem?_eq_some_iff.1 hb).1, ⟨l.map cells, rowsAt_of_blk hb (by intro r hr; obtain ⟨x, _, rfl⟩ := List.mem_map.1 hr; exact hc x) rfl, by simp, ?_⟩, ⟨_, hb, by simpa using flat_length hc l, by simp⟩, hm⟩
  intro i r x h1 h2
  rw [List.getElem?_map, h2] at h1
  simpa [Flat] using h1.symm
/-- What an append loop hands back, likewise. Where it is empty any later block serves as the one that is marked. -/
theorem NewSlice.use {α : Type} {cells : α → List Value} {e sz : Nat} {w w' : World} {l : List α} {en : Ending} (h : NewSlice e sz w l.length (l.map cells).flatten en w') (hc : ∀ x, (cells x).length = sz) (hsz : sz ≠ 0) :
    ∃ a c g N, en = .returned (.slice a l.length c) ∧ w.heap.size ≤ g ∧ SliceAt (Flat cells) sz (fun k => w.heap.size ≤ k) w' a l ∧ (l.length = 0 ∨ a = some ⟨g, 0, none⟩ ∧ l.length * sz ≤ N ∧ Filled g e N w' []) ∧ Mod (fun _ => False) w w' := by
  obtain ⟨a, c, he, ho, hm⟩ := h
  rcases own_filled ho with h0 | ⟨g, N, h1, h2, h3, h4⟩
  · exact ⟨a, c, w.heap.size, 0, he, Nat.le_refl _, own_slice ho hc hsz, .inl h0, hm⟩
  · exact ⟨a, c, g, N, he, h2, own_slice ho hc hsz, .inr ⟨h1, h3, h4⟩, hm⟩

theorem Mod.appendedAt {R : Nat → Prop} {W w w' : World} {base e sz n : Nat} {v : Value} {xs : List Value} (h : Mod R W w) (ho : w.ownsRow base e sz v n xs) (hb : W.heap.size ≤ base) (hg : w.grownBy w' v.ownBlock) : Mod R W w' :=
  h.grownBy hg fun k hk => by have := ho.lt k hk; omega
theorem grown_blk {w w' : World} {base e sz n b : Nat} {v : Value} {xs : List Value} {ob : Obj} (ho : w.ownsRow base e sz v n xs) (hg : w.grownBy w' v.ownBlock) (hb : w.heap[b]? = some ob) (hlt : b < base) : w'.heap[b]? = some ob := by
  rw [hg.block b (Array.getElem?_eq_some_iff.1 hb).1 (fun e => by have := ho.lt b e.symm; omega)]
  exact hb
theorem Cur.appendedAt {B T : Nat} {w w' : World} {g base e sz n : Nat} {v : Value} {xs : List Value} (hc : Cur B T w g) (ho : w.ownsRow base e sz v n xs) (hb : g < base) (hg : w.grownBy w' v.ownBlock) : Cur B T w' g := by
  have h1 := hc.size
  have h2 := hc.base
  have hne : ∀ k, k ≤ g → some k ≠ v.ownBlock := fun k hk e => by have := ho.lt k e.symm; omega
  exact hc.same (hg.block g h1 (hne g (Nat.le_refl _))) fun k hk => hg.block k (by omega) (hne k (by omega))
/-- A block's one cell, written. -/
theorem set_blk {w : World} {b : Nat} {u v : Value} {T : TypeId} {fr : Nat × Nat} (h : w.heap[b]? = some (.cells [u].toArray T fr)) : (w.setCell ⟨b, 0, none⟩ v).heap[b]? = some (.cells [v].toArray T fr) := by
  simp [World.setCell, Array.getElem?_modify, h]
theorem set_far {w : World} {b c : Nat} {v : Value} {ob : Obj} {j : Nat} (h : w.heap[b]? = some ob) (hb : b ≠ c) : (w.setCell ⟨c, j, none⟩ v).heap[b]? = some ob := by
  rw [Below.heap_setCell _ _ _ _ hb]; exact h
/-- An owned row that is not empty: its block, its cells, and that they may be written. -/
theorem own_parts {w : World} {base e sz n c : Nat} {a : Option Addr} {xs : List Value} (h : w.ownsRow base e sz (.slice a n c) n xs) : n = 0 ∨ ∃ b, a = some ⟨b, 0, none⟩ ∧ base ≤ b ∧ b < w.heap.size ∧ (∀ off v, xs[off]? = some v → w.cell? ⟨b, off, none⟩ = some v) ∧ (∀ off, w.frozen? ⟨b, off, none⟩ = false) ∧
    ∀ off v, off < xs.length → (w.setCell ⟨b, off, none⟩ v).ownsRow base e sz (.slice a n c) n (xs.set off v) := by
  rcases h.2 with ⟨_, hn⟩ | ⟨g, cap, cur, hv, hb, hh, hnc, hcm, hcs, ht⟩
  · exact .inl hn
  · injection hv with ha h1 h2
    subst ha h2
    refine .inr ⟨g, rfl, hb, (Array.getElem?_eq_some_iff.1 hh).1, fun off v hv => ?_, fun off => by simp [World.frozen?, hh], fun off v ho => ⟨by rw [List.length_set]; exact h.1, .inr ⟨g, _, cur.setIfInBounds off v, rfl, hb, ?_, hnc, hcm, by simpa using hcs, ?_⟩⟩⟩
    · rw [← ht, List.getElem?_take] at hv
      split at hv
      · simp [World.cell?, hh]; simpa using hv
      · cases hv
    · simp [World.setCell, Array.getElem?_modify, hh]
    · rw [Array.toList_setIfInBounds, List.take_set, ht]
theorem own_base {w : World} {base B e sz n : Nat} {v : Value} {xs : List Value} (h : w.ownsRow base e sz v n xs) (hb : B ≤ base) : w.ownsRow B e sz v n xs := by
  refine ⟨h.1, ?_⟩
  rcases h.2 with h2 | ⟨g, cap, cur, hv, hbg, hrest⟩
  · exact .inl h2
  · exact .inr ⟨g, cap, cur, hv, Nat.le_trans hb hbg, hrest⟩
theorem blk_far {g b : Nat} (h : g ≠ b) (w : World) (j : Nat) (s : Option Nat) (v : Value) : (w.setCell ⟨b, j, s⟩ v).heap[g]? = w.heap[g]? := Below.heap_setCell _ _ _ _ h

theorem flat_of_blk {α : Type} {cells : α → List Value} {sz g e : Nat} {w : World} {l : List α} (hb : w.heap[g]? = some (.cells (l.map cells).flatten.toArray e (0, 0))) (hc : ∀ x, (cells x).length = sz) : SliceAt (Flat cells) sz (fun k => k = g) w (some ⟨g, 0, none⟩) l :=
  ⟨l.map cells, rowsAt_of_blk hb (by intro r hr; obtain ⟨y, _, rfl⟩ := List.mem_map.1 hr; exact hc y) rfl, by simp, by
    intro i r y h1 h2
    rw [List.getElem?_map, h2] at h1
    simpa [Flat] using h1.symm⟩

end Go.Proofs.YthffgbhphjkdeaaDoor
