/-
  PROVED: words on slices of structs that hold slices themselves: how they read, what a copy of them hands back, that they may be written. No program in sight.
-/
import Derived.Test.YtcolkidnjojlmaaDoorRow
import Derived.Test.YtcolkidnjojlmaaDoorRep2
namespace Go.Proofs.YtcolkidnjojlmaaDoor
open Go.RowKit

/-- A slice's block may be written. -/
def Wr (e sz : Nat) (R : Nat → Prop) (w : World) (a : Option Addr) (n : Nat) : Prop := n = 0 ∨ ∃ g N, a = some ⟨g, 0, none⟩ ∧ R g ∧ n * sz ≤ N ∧ Filled g e N w []
theorem Wr.mod {e sz : Nat} {R S : Nat → Prop} {w w' : World} {a : Option Addr} {n : Nat} (h : Wr e sz R w a n) (hm : Mod S w w') (hs : ∀ k, R k → ¬ S k) : Wr e sz R w' a n := by
  rcases h with h | ⟨g, N, h1, h2, h3, h4⟩
  · exact .inl h
  · exact .inr ⟨g, N, h1, h2, h3, h4.mod hm (hs g h2)⟩
theorem Wr.weaken {e sz : Nat} {R S : Nat → Prop} {w : World} {a : Option Addr} {n : Nat} (h : Wr e sz R w a n) (hs : ∀ k, k < w.heap.size → R k → S k) : Wr e sz S w a n := by
  rcases h with h | ⟨g, N, h1, h2, h3, h4⟩
  · exact .inl h
  · exact .inr ⟨g, N, h1, hs g h4.size h2, h3, h4⟩
theorem wr_of_blk {g e n sz : Nat} {w : World} {xs : List Value} {R : Nat → Prop} (hb : w.heap[g]? = some (.cells xs.toArray e (0, 0))) (hn : xs.length = n * sz) (hR : R g) : Wr e sz R w (some ⟨g, 0, none⟩) n :=
  .inr ⟨g, n * sz, rfl, hR, Nat.le_refl _, _, hb, by simpa using hn, by simp⟩
theorem Filled.none {g e N : Nat} {w : World} {xs : List Value} (h : Filled g e N w xs) : Filled g e N w [] := by
  obtain ⟨cur, h1, h2, _⟩ := h
  exact ⟨cur, h1, h2, by simp⟩
theorem Filled.ne {g g' e e' N N' : Nat} {w : World} {xs ys : List Value} (h : Filled g e N w xs) (h' : Filled g' e' N' w ys) (he : e ≠ e') : g ≠ g' := by
  rintro rfl
  obtain ⟨cur, h1, _⟩ := h
  obtain ⟨cur', h1', _⟩ := h'
  rw [h1] at h1'
  simp only [Option.some.injEq, Obj.cells.injEq] at h1'
  exact he h1'.2.1
/-- A written block stays one: a cell of it, or of another. -/
theorem Filled.set {g e N : Nat} {w : World} (h : Filled g e N w []) (b j : Nat) (s : Option Nat) (v : Value) : Filled g e N (w.setCell ⟨b, j, s⟩ v) [] := by
  obtain ⟨cur, h1, h2, _⟩ := h
  by_cases e' : g = b
  · subst e'
    cases s with
    | none => exact ⟨cur.setIfInBounds j v, by simp [World.setCell, Array.getElem?_modify, h1], by simpa using h2, by simp⟩
    | some s => exact ⟨_, by simp only [World.setCell, Array.getElem?_modify, h1]; rfl, by simp; exact h2, by simp⟩
  · exact ⟨cur, (Below.heap_setCell _ _ _ _ e').trans h1, h2, by simp⟩
theorem Wr.set {e sz : Nat} {R : Nat → Prop} {w : World} {a : Option Addr} {n : Nat} (h : Wr e sz R w a n) (b j : Nat) (s : Option Nat) (v : Value) : Wr e sz R (w.setCell ⟨b, j, s⟩ v) a n := by
  rcases h with h | ⟨g, N, h1, h2, h3, h4⟩
  · exact .inl h
  · exact .inr ⟨g, N, h1, h2, h3, h4.set b j s v⟩
/-- Behind a callee that wrote one block, and left it one that may be written. -/
theorem Filled.after {g e N n h e' N' : Nat} {w w' : World} {xs : List Value} (hf : Filled g e N w []) (hh : n = 0 ∨ Filled h e' N' w []) (hm : Mod (fun k => k = h) w w') (hp : n = 0 ∨ Filled h e' N' w' xs) (h0 : n = 0 → w = w') : Filled g e N w' [] := by
  by_cases hg : g = h
  · subst hg
    rcases hp with hp | hp
    · rw [← h0 hp]; exact hf
    · obtain ⟨cur, h1, h2, _⟩ := hf
      rcases hh with hn | ⟨cur2, h3, h4, _⟩
      · rw [← h0 hn]; exact ⟨cur, h1, h2, by simp⟩
      · rw [h1] at h3
        simp only [Option.some.injEq, Obj.cells.injEq] at h3
        obtain ⟨rfl, rfl, _⟩ := h3
        obtain ⟨cur3, h5, h6, _⟩ := hp
        exact ⟨cur3, h5, by omega, by simp⟩
  · exact hf.mod hm hg

theorem SliceAt.wide {α : Type} {cells : α → List Value} {sz : Nat} {R S : Nat → Prop} {w : World} {a : Option Addr} {l : List α} (h : SliceAt (Flat cells) sz R w a l) (hs : ∀ k, k < w.heap.size → R k → S k) : SliceAt (Flat cells) sz S w a l := by
  obtain ⟨rows, h1, h2, h3⟩ := h
  exact ⟨rows, h1.weaken hs, h2, h3⟩

theorem Filled.row {g e N : Nat} {w : World} {xs : List Value} (h : Filled g e N w xs) (off sz : Nat) (hn : off + sz ≤ N) : hasRow w g off sz = true := by
  obtain ⟨cur, h1, h2, _⟩ := h
  simp [hasRow, h1, h2, hn]
theorem Filled.open {g e N : Nat} {w : World} {xs : List Value} (h : Filled g e N w xs) : openRow w g = true := by
  obtain ⟨cur, h1, _⟩ := h
  simp [openRow, h1]
theorem Filled.pushRow {g e N : Nat} : ∀ (r : List Value) {w : World} {xs : List Value} (_ : Filled g e N w xs) {off : Nat} (_ : off = xs.length) (_ : off + r.length ≤ N), Filled g e N (w.setCells g off r) (xs ++ r)
  | [], w, xs, h, _, _, _ => by rw [List.append_nil]; exact h
  | v :: r, w, xs, h, off, ho, hn => by
    simp only [List.length_cons] at hn
    have h1 := h.push ho (by omega) v
    have h2 := Filled.pushRow r h1 (off := off + 1) (by simp [ho]) (by omega)
    have e : xs ++ v :: r = (xs ++ [v]) ++ r := by simp
    rw [e]
    exact h2

/-- What a copy of structs that hold slices hands back: its rows, each reading as its element in new blocks behind the rows' own. -/
def NewNest {α : Type} (rep : (Nat → Prop) → World → List Value → α → Prop) (e sz : Nat) (w : World) (l : List α) (en : Ending) (w' : World) : Prop :=
  ∃ g, ∃ rows : List (List Value), en = .returned (.slice (some ⟨g, 0, none⟩) l.length l.length) ∧ w.heap.size ≤ g ∧ w'.heap[g]? = some (.cells rows.flatten.toArray e (0, 0)) ∧ rows.length = l.length ∧ (∀ r ∈ rows, r.length = sz) ∧
    (∀ (i : Nat) (r : List Value) (x : α), rows[i]? = some r → l[i]? = some x → rep (fun b => w.heap.size ≤ b) w' r x) ∧ Mod (fun _ => False) w w'
theorem nest_of_blk {α : Type} {rep : World → List Value → α → Prop} {e sz g : Nat} {R : Nat → Prop} {w : World} {l : List α} {rows : List (List Value)} (hb : w.heap[g]? = some (.cells rows.flatten.toArray e (0, 0))) (hl : rows.length = l.length) (hr : ∀ r ∈ rows, r.length = sz)
    (h : ∀ (i : Nat) (r : List Value) (x : α), rows[i]? = some r → l[i]? = some x → rep w r x) (hR : R g) : SliceAt rep sz R w (some ⟨g, 0, none⟩) l :=
  ⟨rows, rowsAt_of_blk hb hr hR, hl, h⟩
/-- One row more. -/
theorem rows_succ {α : Type} {rep : World → List Value → α → Prop} {w : World} {l : List α} {k : Nat} {x : α} {rows : List (List Value)} {r : List Value} (hx : Hid (l[k]? = some x)) (hl : rows.length = k)
    (h : ∀ (i : Nat) (r : List Value) (x : α), rows[i]? = some r → l[i]? = some x → rep w r x) (hr : rep w r x) : ∀ (i : Nat) (r' : List Value) (y : α), (rows ++ [r])[i]? = some r' → l[i]? = some y → rep w r' y := by
  intro i r' y h1 h2
  by_cases hi : i < rows.length
  · rw [List.getElem?_append_left hi] at h1
    exact h i r' y h1 h2
  · have hi2 : i < (rows ++ [r]).length := (List.getElem?_eq_some_iff.1 h1).1
    simp only [List.length_append, List.length_singleton] at hi2
    have hik : i = k := by omega
    subst hik
    rw [hx.out] at h2
    simp only [Option.some.injEq] at h2
    subst h2
    rw [List.getElem?_append_right (by omega), hl, Nat.sub_self] at h1
    simp only [List.getElem?_cons_zero, Option.some.injEq] at h1
    subst h1
    exact hr
theorem lens_succ {rows : List (List Value)} {r : List Value} {sz : Nat} (h : ∀ r ∈ rows, r.length = sz) (hr : r.length = sz) : ∀ r' ∈ rows ++ [r], r'.length = sz := by
  intro r' h1
  simp only [List.mem_append, List.mem_singleton] at h1
  rcases h1 with h1 | rfl
  · exact h r' h1
  · exact hr
theorem rows_map {α : Type} {rep rep' : World → List Value → α → Prop} {w w' : World} {l : List α} {rows : List (List Value)} (h : ∀ (i : Nat) (r : List Value) (x : α), rows[i]? = some r → l[i]? = some x → rep w r x) (hr : ∀ r x, rep w r x → rep' w' r x) :
    ∀ (i : Nat) (r : List Value) (x : α), rows[i]? = some r → l[i]? = some x → rep' w' r x := fun i r x h1 h2 => hr r x (h i r x h1 h2)

/-- What a count hands back. -/
def szRes (left : Int) (n : Nat) : Int := if left < n then -1 else left - n
theorem szRes_less {left : Int} {n : Nat} (h : left < n) : szRes left n = -1 := if_pos h
theorem szRes_more {left : Int} {n : Nat} (h : (n : Int) ≤ left) : szRes left n = left - n := if_neg (by omega)
/-- Costs of the first elements. -/
def costs {α : Type} (f : α → Nat) (l : List α) : Nat := (l.map f).sum
theorem costs_succ {α : Type} (f : α → Nat) {l : List α} {k : Nat} {x : α} (hx : Hid (l[k]? = some x)) : costs f (l.take (k + 1)) = costs f (l.take k) + f x := by
  unfold costs
  rw [List.take_add_one, hx.out]
  simp
theorem costs_take {α : Type} (f : α → Nat) (l : List α) (k : Nat) : costs f (l.take k) ≤ costs f l := by
  have e : costs f l = costs f (l.take k) + costs f (l.drop k) := by
    unfold costs
    rw [← List.sum_append_nat, ← List.map_append, List.take_append_drop]
  omega
theorem costs_mem {α : Type} (f : α → Nat) {l : List α} {x : α} (h : x ∈ l) : f x ≤ costs f l := by
  unfold costs
  induction l with
  | nil => cases h
  | cons y l ih =>
    simp only [List.map_cons, List.sum_cons]
    rcases List.mem_cons.1 h with rfl | h
    · omega
    · have := ih h
      omega

/-- Blocks that may be written stay so; those whose type is not in P are as they were. -/
def KeepB (P : Nat → Prop) (w w' : World) : Prop := ∀ g e N, Filled g e N w [] → Filled g e N w' [] ∧ (¬ P e → w'.heap[g]? = w.heap[g]?)
theorem KeepB.refl (P : Nat → Prop) (w : World) : KeepB P w w := fun _ _ _ h => ⟨h, fun _ => rfl⟩
theorem KeepB.trans {P : Nat → Prop} {a b c : World} (h : KeepB P a b) (k : KeepB P b c) : KeepB P a c := fun g e N hf => by
  obtain ⟨h1, h2⟩ := h g e N hf
  obtain ⟨h3, h4⟩ := k g e N h1
  exact ⟨h3, fun hp => (h4 hp).trans (h2 hp)⟩
theorem KeepB.mono {P Q : Nat → Prop} {a b : World} (h : KeepB P a b) (hq : ∀ e, P e → Q e) : KeepB Q a b := fun g e N hf => ⟨(h g e N hf).1, fun hn => (h g e N hf).2 fun hp => hn (hq e hp)⟩
theorem KeepB.none {P : Nat → Prop} {a b : World} (h : Mod (fun _ => False) a b) : KeepB P a b := fun g _ _ hf => ⟨hf.mod h (fun f => f), fun _ => h.block g hf.size (fun f => f)⟩
theorem KeepB.set {P : Nat → Prop} {a w : World} (h : KeepB P a w) {b e N : Nat} (hb : Filled b e N a []) (he : P e) (j : Nat) (s : Option Nat) (v : Value) : KeepB P a (w.setCell ⟨b, j, s⟩ v) := fun g e' N' hf => by
  refine ⟨(h g e' N' hf).1.set b j s v, fun hn => ?_⟩
  have hg : g ≠ b := by
    rintro rfl
    refine hf.ne (g' := g) hb ?_ rfl
    rintro rfl
    exact hn he
  rw [Below.heap_setCell _ _ _ _ hg]
  exact (h g e' N' hf).2 hn
theorem Wr.keep {P : Nat → Prop} {e sz : Nat} {R : Nat → Prop} {w w' : World} {a : Option Addr} {n : Nat} (h : Wr e sz R w a n) (hk : KeepB P w w') : Wr e sz R w' a n := by
  rcases h with h | ⟨g, N, h1, h2, h3, h4⟩
  · exact .inl h
  · exact .inr ⟨g, N, h1, h2, h3, (hk g e N h4).1⟩
/-- A mark of a flat slice, told by what it leaves. -/
theorem mark_wr {P : Program} {f : FuncId} {args : Array Value} {E : Ending} {e sz n : Nat} {R : Nat → Prop} {w : World} {a : Option Addr} {ms : List Value} (h : Wr e sz R w a n)
    (hc : ∀ g N, (n = 0 ∨ a = some ⟨g, 0, none⟩ ∧ n * sz ≤ N ∧ Filled g e N w []) → Calls P f args w fun en w' => en = E ∧ Mod (fun k => k = g) w w' ∧ (n = 0 ∨ Filled g e N w' ms)) :
    Calls P f args w fun en w' => en = E ∧ Mod R w w' ∧ KeepB (fun t => t = e) w w' := by
  by_cases hn : n = 0
  · refine (hc w.heap.size 0 (.inl hn)).mono ?_
    rintro en w' ⟨he, hm, _⟩
    have hm' : Mod (fun _ => False) w w' := hm.mono (fun k hk (e : k = w.heap.size) => by omega)
    exact ⟨he, hm'.mono (fun _ _ f => f.elim), KeepB.none hm'⟩
  · rcases h with h | ⟨g, N, h1, h2, h3, h4⟩
    · exact (hn h).elim
    · refine (hc g N (.inr ⟨h1, h3, h4⟩)).mono ?_
      rintro en w' ⟨he, hm, hp⟩
      have hp' := hp.resolve_left hn
      refine ⟨he, hm.mono (fun k _ (e : k = g) => e ▸ h2), fun g' e' N' hf => ?_⟩
      by_cases hg : g' = g
      · subst hg
        obtain ⟨c1, q1, q2, _⟩ := hf
        obtain ⟨c2, q3, q4, _⟩ := h4
        rw [q1] at q3
        simp only [Option.some.injEq, Obj.cells.injEq] at q3
        obtain ⟨rfl, rfl, _⟩ := q3
        obtain ⟨c3, q5, q6, _⟩ := hp'
        exact ⟨⟨c3, q5, by omega, by simp⟩, fun hne => (hne rfl).elim⟩
      · exact ⟨hf.mod hm hg, fun _ => hm.block g' hf.size hg⟩
theorem filled_of_blk {g e : Nat} {w : World} {xs : List Value} {N : Nat} (hb : w.heap[g]? = some (.cells xs.toArray e (0, 0))) (hn : xs.length = N) : Filled g e N w [] := ⟨_, hb, by simpa using hn, by simp⟩

theorem SliceAt.wideBy {α : Type} {rep rep' : World → List Value → α → Prop} {sz : Nat} {R S : Nat → Prop} {w : World} {a : Option Addr} {l : List α} (h : SliceAt rep sz R w a l) (hs : ∀ k, k < w.heap.size → R k → S k) (hr : ∀ r x, rep w r x → rep' w r x) : SliceAt rep' sz S w a l := by
  obtain ⟨rows, h1, h2, h3⟩ := h
  exact ⟨rows, h1.weaken hs, h2, rows_map h3 hr⟩
/-- A copy, as the calls behind it use it. -/
theorem NewNest.use {α : Type} {rep : (Nat → Prop) → World → List Value → α → Prop} {e sz : Nat} {w w' : World} {l : List α} {en : Ending} (h : NewNest rep e sz w l en w') :
    ∃ g, en = .returned (.slice (some ⟨g, 0, none⟩) l.length l.length) ∧ w.heap.size ≤ g ∧ SliceAt (rep (fun b => w.heap.size ≤ b)) sz (fun b => w.heap.size ≤ b) w' (some ⟨g, 0, none⟩) l ∧ Wr e sz (fun b => w.heap.size ≤ b) w' (some ⟨g, 0, none⟩) l.length ∧ Mod (fun _ => False) w w' := by
  obtain ⟨g, rows, he, hg, hb, hl, hr, hrep, hm⟩ := h
  exact ⟨g, he, hg, nest_of_blk hb hl hr hrep hg, wr_of_blk hb (by rw [flatten_length hr, hl]) hg, hm⟩
theorem NewRows.wr {α : Type} {cells : α → List Value} {e sz : Nat} {w w' : World} {l : List α} {en : Ending} (h : NewRows e w l.length (l.map cells).flatten en w') (hc : ∀ x, (cells x).length = sz) :
    ∃ g, en = .returned (.slice (some ⟨g, 0, none⟩) l.length l.length) ∧ w.heap.size ≤ g ∧ SliceAt (Flat cells) sz (fun b => w.heap.size ≤ b) w' (some ⟨g, 0, none⟩) l ∧ Wr e sz (fun b => w.heap.size ≤ b) w' (some ⟨g, 0, none⟩) l.length ∧ Mod (fun _ => False) w w' := by
  obtain ⟨g, he, hg, hb, hm⟩ := h
  exact ⟨g, he, hg, (flat_of_blk hb hc).wide (fun k _ (hk : k = g) => hk ▸ hg), wr_of_blk hb (flat_length hc l) hg, hm⟩
theorem SliceAt.split2 {α : Type} {rep : World → List Value → α → Prop} {p : α → Prop} {sz : Nat} {R : Nat → Prop} {w : World} {a : Option Addr} {l : List α} (h : SliceAt (fun w r x => rep w r x ∧ p x) sz R w a l) : SliceAt rep sz R w a l ∧ ∀ x ∈ l, p x := by
  obtain ⟨rows, h1, h2, h3⟩ := h
  refine ⟨⟨rows, h1, h2, fun i r x hr hx => (h3 i r x hr hx).1⟩, fun x hx => ?_⟩
  obtain ⟨i, hi, rfl⟩ := List.mem_iff_getElem.1 hx
  have hr : rows[i]? = some (rows[i]'(by omega)) := List.getElem?_eq_getElem (by omega)
  exact (h3 i _ _ hr (List.getElem?_eq_getElem hi)).2

end Go.Proofs.YtcolkidnjojlmaaDoor
