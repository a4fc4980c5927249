/-
  PROVED: words on whole structs in memory: the cells of a block from a place on, read and written as one. No program in sight.
-/
import Derived.Test.YthffgbhphjkdeaaDoorRep
import Derived.Deep.MidRow
namespace Go.Proofs.YthffgbhphjkdeaaDoor
open Go.RowKit

/-- The n cells from place o of block b on. -/
def rowOf (w : World) (b o n : Nat) : Array Value :=
  match w.heap[b]? with
  | some (.cells cs _ _) => cs.extract o (o + n)
  | _ => #[]
/-- They are there. -/
def hasRow (w : World) (b o n : Nat) : Bool :=
  match w.heap[b]? with
  | some (.cells cs _ _) => decide (o + n ≤ cs.size)
  | _ => false
/-- The block may be written. -/
def openRow (w : World) (b : Nat) : Bool :=
  match w.heap[b]? with
  | some (.cells _ _ fr) => fr == (0, 0)
  | _ => false

section
variable {w : World}
@[simp] theorem rowOf_drew (b o n : Nat) : rowOf w.drew b o n = rowOf w b o n := rfl
@[simp] theorem rowOf_drewN (k b o n : Nat) : rowOf (w.drewN k) b o n = rowOf w b o n := rfl
@[simp] theorem hasRow_drew (b o n : Nat) : hasRow w.drew b o n = hasRow w b o n := rfl
@[simp] theorem hasRow_drewN (k b o n : Nat) : hasRow (w.drewN k) b o n = hasRow w b o n := rfl
@[simp] theorem openRow_drew (b : Nat) : openRow w.drew b = openRow w b := rfl
@[simp] theorem openRow_drewN (k b : Nat) : openRow (w.drewN k) b = openRow w b := rfl

theorem rowOf_of {w w' : World} {b : Nat} (h : w'.heap[b]? = w.heap[b]?) (o n : Nat) : rowOf w' b o n = rowOf w b o n := by unfold rowOf; rw [h]
theorem hasRow_of {w w' : World} {b : Nat} (h : w'.heap[b]? = w.heap[b]?) (o n : Nat) : hasRow w' b o n = hasRow w b o n := by unfold hasRow; rw [h]
theorem openRow_of {w w' : World} {b : Nat} (h : w'.heap[b]? = w.heap[b]?) : openRow w' b = openRow w b := by unfold openRow; rw [h]

@[go_sem] theorem rowOf_alloc_at (c : Array Value) (t : TypeId) (b o n : Nat) (h : b = w.heap.size) : rowOf (w.alloc (.cells c t)) b o n = c.extract o (o + n) := by
  subst h; unfold rowOf; rw [heap_alloc_new]
@[go_sem] theorem hasRow_alloc_at (c : Array Value) (t : TypeId) (b o n : Nat) (h : b = w.heap.size) : hasRow (w.alloc (.cells c t)) b o n = decide (o + n ≤ c.size) := by
  subst h; unfold hasRow; rw [heap_alloc_new]
@[go_sem] theorem openRow_alloc_at (c : Array Value) (t : TypeId) (b : Nat) (h : b = w.heap.size) : openRow (w.alloc (.cells c t)) b = true := by
  subst h; unfold openRow; rw [heap_alloc_new]; rfl
@[go_sem] theorem rowOf_alloc_past (ob : Obj) (b o n : Nat) (h : b < w.heap.size) : rowOf (w.alloc ob) b o n = rowOf w b o n := rowOf_of (heap_alloc_old _ _ h) o n
@[go_sem] theorem hasRow_alloc_past (ob : Obj) (b o n : Nat) (h : b < w.heap.size) : hasRow (w.alloc ob) b o n = hasRow w b o n := hasRow_of (heap_alloc_old _ _ h) o n
@[go_sem] theorem openRow_alloc_past (ob : Obj) (b : Nat) (h : b < w.heap.size) : openRow (w.alloc ob) b = openRow w b := openRow_of (heap_alloc_old _ _ h)
@[go_sem] theorem rowOf_setCell (b o n b' j : Nat) (s : Option Nat) (v : Value) (h : b ≠ b') : rowOf (w.setCell ⟨b', j, s⟩ v) b o n = rowOf w b o n := rowOf_of (Below.heap_setCell _ _ _ _ h) o n
@[go_sem] theorem hasRow_setCell (b o n b' j : Nat) (s : Option Nat) (v : Value) : hasRow (w.setCell ⟨b', j, s⟩ v) b o n = hasRow w b o n := by
  by_cases h : b = b'
  · subst h
    unfold hasRow
    cases hb : w.heap[b]? with
    | none => simp [World.setCell, Array.getElem?_modify, hb]
    | some ob => cases ob <;> cases s <;> simp [World.setCell, Array.getElem?_modify, hb]
  · exact hasRow_of (Below.heap_setCell _ _ _ _ h) o n
@[go_sem] theorem openRow_setCell (b b' j : Nat) (s : Option Nat) (v : Value) : openRow (w.setCell ⟨b', j, s⟩ v) b = openRow w b := by
  by_cases h : b = b'
  · subst h
    unfold openRow
    cases hb : w.heap[b]? with
    | none => simp [World.setCell, Array.getElem?_modify, hb]
    | some ob => cases ob <;> simp [World.setCell, Array.getElem?_modify, hb]
  · exact openRow_of (Below.heap_setCell _ _ _ _ h)
/-- A cell of a row, written. -/
@[go_sem] theorem rowOf_setCell_in (b o n j : Nat) (v : Value) (h1 : o ≤ j) (h2 : j < o + n) : rowOf (w.setCell ⟨b, j, none⟩ v) b o n = (rowOf w b o n).setIfInBounds (j - o) v := by
  unfold rowOf
  cases hb : w.heap[b]? with
  | none => simp [World.setCell, Array.getElem?_modify, hb]
  | some ob =>
    cases ob with
    | cells cs t fr =>
      simp only [World.setCell, Array.getElem?_modify, hb]
      apply Array.ext_getElem?
      intro i
      simp only [if_true, Option.map_some, Option.isSome_none, Bool.false_eq_true, if_false, Array.getElem?_extract, Array.getElem?_setIfInBounds, Array.size_extract, Array.size_setIfInBounds]
      repeat' split
      all_goals first | rfl | omega | (exfalso; omega) | (rw [Array.getElem?_eq_none (by omega)]) | (symm; rw [Array.getElem?_eq_none (by omega)])
    | _ => simp [World.setCell, Array.getElem?_modify, hb]

theorem cell_of_rowOf {b o n : Nat} (h : hasRow w b o n = true) {j : Nat} (hj : j < n) : w.cell? ⟨b, o + j, none⟩ = (rowOf w b o n)[j]? := by
  unfold hasRow at h; unfold rowOf World.cell?
  cases hb : w.heap[b]? with
  | none => simp [hb] at h
  | some ob =>
    cases ob with
    | cells cs t fr =>
      simp only [hb, decide_eq_true_eq] at h
      simp only [Option.isSome_none, Bool.false_eq_true, if_false, Array.getElem?_extract]
      rw [if_pos (by omega)]
    | _ => simp [hb] at h
theorem rowOf_range {b o n : Nat} (h : hasRow w b o n = true) : w.rangeAt b o (rowOf w b o n).toList ∧ (rowOf w b o n).size = n := by
  have hs : (rowOf w b o n).size = n := by
    unfold hasRow at h; unfold rowOf
    cases hb : w.heap[b]? with
    | none => simp [hb] at h
    | some ob => cases ob <;> simp [hb] at h ⊢; omega
  refine ⟨fun j v hj => ?_, hs⟩
  have hjn : j < n := by
    have := (List.getElem?_eq_some_iff.1 hj).1
    simpa [hs] using this
  rw [cell_of_rowOf h hjn]
  simpa using hj
/-- A row that is told cell by cell is told as one. -/
theorem rowOf_told {b o : Nat} {r : List Value} (hn : 0 < r.length) (h : ∀ j v, r[j]? = some v → w.cell? ⟨b, o + j, none⟩ = some v) : hasRow w b o r.length = true ∧ rowOf w b o r.length = r.toArray := by
  have hl := h (r.length - 1) _ (List.getElem?_eq_getElem (by omega))
  unfold World.cell? at hl
  cases hb : w.heap[b]? with
  | none => simp [hb] at hl
  | some ob =>
    cases ob with
    | cells cs t fr =>
      have hsz : o + r.length ≤ cs.size := by
        simp only [hb] at hl
        have : o + (r.length - 1) < cs.size := by
          by_cases hlt : o + (r.length - 1) < cs.size
          · exact hlt
          · simp [Array.getElem?_eq_none (Nat.le_of_not_lt hlt)] at hl
        omega
      refine ⟨by simp [hasRow, hb, hsz], ?_⟩
      apply Array.ext_getElem?
      intro j
      unfold rowOf
      rw [hb]
      simp only [Array.getElem?_extract, List.getElem?_toArray]
      by_cases hj : j < r.length
      · have e1 := List.getElem?_eq_getElem hj
        have h1 := h j _ e1
        simp only [World.cell?, hb] at h1
        rw [if_pos (by omega), e1]
        simpa using h1
      · rw [if_neg (by omega), List.getElem?_eq_none (by omega)]
    | _ => simp [hb] at hl

theorem run_load_row {P : Program} {ty : TypeId} {d : TypeDesc} {n : Nat} (hu : P.underlying ty = some d) (hd : d.isRow = true) (hi : (P.info? ty).map (·.size) = some n) {b o : Nat} (h : hasRow w b o n = true) :
    (Instr.loadAt ty (.pointer (some ⟨b, o, none⟩))).run P w = .ok (.agg (rowOf w b o n)) w := by
  obtain ⟨h1, h2⟩ := rowOf_range h
  rw [run_loadAt_mid w b o ty _ d h1 hu hd (by rw [hi]; simp [h2])]

theorem run_store_row {P : Program} {ty : TypeId} {n : Nat} (hi : (P.info? ty).map (·.size) = some n) {b o : Nat} {S : Array Value} (h : hasRow w b o n = true) (hz : openRow w b = true) (hs : S.size = n) (h1 : S.all (·.oneCell') = true) :
    (Instr.storeAt ty (.pointer (some ⟨b, o, none⟩)) (.agg S)).run P w = .ok () (w.setCells b o S.toList) := by
  refine run_storeAt_mid w b o ty S (fun j hj => ?_) (by rw [hi, hs]) h1
  rw [hs] at hj
  obtain ⟨h2, h3⟩ := rowOf_range h
  refine ⟨?_, ?_⟩
  · rw [cell_of_rowOf h hj]
    simp [Array.getElem?_eq_getElem (show j < (rowOf w b o n).size by omega)]
  · unfold openRow at hz
    unfold World.frozen?
    cases hb : w.heap[b]? with
    | none => simp [hb] at hz
    | some ob => cases ob <;> simp [hb] at hz ⊢; simp [hz]
end

/-- An array with a list written over it from a place on. -/
def spl (c : Array Value) : Nat → List Value → Array Value
  | _, [] => c
  | o, v :: r => spl (c.setIfInBounds o v) (o + 1) r
@[simp] theorem spl_nil (c : Array Value) (o : Nat) : spl c o [] = c := rfl
@[simp] theorem spl_cons (c : Array Value) (o : Nat) (v : Value) (r : List Value) : spl c o (v :: r) = spl (c.setIfInBounds o v) (o + 1) r := rfl
@[simp] theorem spl_size (c : Array Value) (o : Nat) (r : List Value) : (spl c o r).size = c.size := by
  induction r generalizing c o with
  | nil => rfl
  | cons v r ih => simp [ih]

theorem setCells_heap (b : Nat) : ∀ (r : List Value) (o : Nat) (w : World) (c : Array Value) (t : TypeId) (fr : Nat × Nat), w.heap[b]? = some (.cells c t fr) → (w.setCells b o r).heap[b]? = some (.cells (spl c o r) t fr)
  | [], _, _, _, _, _, h => h
  | v :: r, o, w, c, t, fr, h => by
    refine setCells_heap b r (o + 1) _ _ t fr ?_
    simp [World.setCell, Array.getElem?_modify, h]
theorem setCells_far {g : Nat} (b : Nat) (h : g ≠ b) : ∀ (r : List Value) (o : Nat) (w : World), (w.setCells b o r).heap[g]? = w.heap[g]?
  | [], _, _ => rfl
  | v :: r, o, w => (setCells_far b h r (o + 1) _).trans (Below.heap_setCell _ _ _ _ h)
@[simp] theorem setCells_size (b : Nat) : ∀ (r : List Value) (o : Nat) (w : World), (w.setCells b o r).heap.size = w.heap.size
  | [], _, _ => rfl
  | v :: r, o, w => (setCells_size b r (o + 1) _).trans (World.size_setCell _ _ _)

section
variable {w : World}
@[go_sem] theorem setCells_alloc_at (c : Array Value) (t : TypeId) (n o : Nat) (r : List Value) (hn : n = w.heap.size) : (w.alloc (.cells c t)).setCells n o r = w.alloc (.cells (spl c o r) t) := by
  induction r generalizing c o with
  | nil => rfl
  | cons v r ih =>
    show ((w.alloc (.cells c t)).setCell ⟨n, o, none⟩ v).setCells n (o + 1) r = _
    rw [World.setCell_alloc_at c t n o v hn, ih]
    rfl
@[go_sem] theorem setCells_alloc_past (ob : Obj) (n o : Nat) (r : List Value) (hn : n < w.heap.size) : (w.alloc ob).setCells n o r = (w.setCells n o r).alloc ob := by
  induction r generalizing w o with
  | nil => rfl
  | cons v r ih =>
    show ((w.alloc ob).setCell ⟨n, o, none⟩ v).setCells n (o + 1) r = _
    rw [World.setCell_alloc_past ob n o v hn, ih (o + 1) (by simpa using hn)]
    rfl
@[go_sem] theorem setCells_drew (n o : Nat) (r : List Value) : w.drew.setCells n o r = (w.setCells n o r).drew := by
  induction r generalizing w o with
  | nil => rfl
  | cons v r ih => exact ih (w := w.setCell ⟨n, o, none⟩ v) (o + 1)
@[go_sem] theorem cell_setCells (b o n j : Nat) (r : List Value) (h : n ≠ b) : (w.setCells b o r).cell? ⟨n, j, none⟩ = w.cell? ⟨n, j, none⟩ := World.cell?_of_block (setCells_far b h r o w)
@[go_sem] theorem frozen_setCells (b o : Nat) (r : List Value) (x : Addr) : (w.setCells b o r).frozen? x = w.frozen? x := World.frozen?_setCells b r o w x
@[go_sem] theorem rowOf_setCells (b o n b' p : Nat) (r : List Value) (h : b ≠ b') : rowOf (w.setCells b' p r) b o n = rowOf w b o n := rowOf_of (setCells_far b' h r p w) o n
@[go_sem] theorem hasRow_setCells (b o n b' p : Nat) (r : List Value) : hasRow (w.setCells b' p r) b o n = hasRow w b o n := by
  induction r generalizing w p with
  | nil => rfl
  | cons v r ih => exact (ih (p + 1)).trans (hasRow_setCell ..)
@[go_sem] theorem openRow_setCells (b b' p : Nat) (r : List Value) : openRow (w.setCells b' p r) b = openRow w b := by
  induction r generalizing w p with
  | nil => rfl
  | cons v r ih => exact (ih (p + 1)).trans (openRow_setCell ..)
/-- A cell before or behind what was written. -/
theorem cell_setCells_apart (b o j : Nat) (r : List Value) (h : j < o ∨ o + r.length ≤ j) : (w.setCells b o r).cell? ⟨b, j, none⟩ = w.cell? ⟨b, j, none⟩ := by
  rw [World.cell?_setCells_out b r o w ⟨b, j, none⟩ (fun _ _ => h)]
end
theorem Mod.setCells {R : Nat → Prop} {a w : World} (h : Mod R a w) {b : Nat} (hb : b < w.heap.size → R b ∨ a.heap.size ≤ b) (o : Nat) (r : List Value) : Mod R a (w.setCells b o r) := by
  induction r generalizing w o with
  | nil => exact h
  | cons v r ih => exact ih (Mod.setCell h (p := ⟨b, o, none⟩) hb v) (by simpa using hb) (o + 1)
theorem Mod.setCellsNew {R : Nat → Prop} {g : Nat} {a w : World} (h : Mod R a w) (hg : a.heap.size ≤ g) (o : Nat) (r : List Value) : Mod R a (w.setCells g o r) := h.setCells (fun _ => .inr hg) o r

/-- Behind a callee that made memory: the old rows, as rules of the walk. -/
theorem mrow {w w1 : World} (h : Mod (fun _ => False) w w1) : (∀ b o n, b < w.heap.size → rowOf w1 b o n = rowOf w b o n) ∧ (∀ b o n, b < w.heap.size → hasRow w1 b o n = hasRow w b o n) ∧ (∀ b, b < w.heap.size → openRow w1 b = openRow w b) :=
  ⟨fun b o n hb => rowOf_of (h.block b hb (fun f => f)) o n, fun b o n hb => hasRow_of (h.block b hb (fun f => f)) o n, fun b hb => openRow_of (h.block b hb (fun f => f))⟩

/-- A whole load, a whole store, a comparison, as the walk meets them: opened by rules of their own type alone. -/
def LoadS (P : Program) (t : TypeId) (v : Value) (w : World) : Result Next := (do let u ← Instr.loadAt t v; pure (Next.value u) : Sem Next).run P w
def StoreS (P : Program) (t : TypeId) (v u : Value) (w : World) : Result Next := (do Instr.storeAt t v u; pure Next.skip : Sem Next).run P w
theorem exec_load (P : Program) (t : TypeId) (ρ : Operand → Value) (d : Option Tmp) (x : Operand) (ty : TypeId) (pos : String) (af : Array Edge) (g : Option (Nat × Bool)) (w : World) :
    (execOp ρ ⟨d, .load t x, ty, pos, af, g⟩).run P w = LoadS P t (ρ x) w := rfl
theorem exec_store (P : Program) (t : TypeId) (ρ : Operand → Value) (d : Option Tmp) (x y : Operand) (ty : TypeId) (pos : String) (af : Array Edge) (g : Option (Nat × Bool)) (w : World) :
    (execOp ρ ⟨d, .store t x y, ty, pos, af, g⟩).run P w = StoreS P t (ρ x) (ρ y) w := rfl
theorem LoadS_row {P : Program} {t : TypeId} {d : TypeDesc} {n : Nat} (hu : P.underlying t = some d) (hd : d.isRow = true) (hi : (P.info? t).map (·.size) = some n) {w : World} {b o : Nat} (h : hasRow w b o n = true) :
    LoadS P t (.pointer (some ⟨b, o, none⟩)) w = .ok (.value (.agg (rowOf w b o n))) w := by
  unfold LoadS
  rw [Sem.run_bind, run_load_row hu hd hi h]
  rfl
theorem StoreS_row {P : Program} {t : TypeId} {n : Nat} (hi : (P.info? t).map (·.size) = some n) {w : World} {b o : Nat} {S : Array Value} (h : hasRow w b o n = true) (hz : openRow w b = true) (hs : S.size = n) (h1 : S.all (·.oneCell') = true) :
    StoreS P t (.pointer (some ⟨b, o, none⟩)) (.agg S) w = .ok .skip (w.setCells b o S.toList) := by
  unfold StoreS
  rw [Sem.run_bind, run_store_row hi h hz hs h1]
  rfl

/-- A result that lies in a row just written. -/
theorem range_setCells {w : World} {b o : Nat} {r : List Value} (h : hasRow w b o r.length = true) : (w.setCells b o r).rangeAt b o r := by
  intro j v hj
  obtain ⟨hlt, e⟩ := List.getElem?_eq_some_iff.1 hj
  rw [World.cell?_setCells_in b r o w (fun i hi => ?_) j hlt, e]
  rw [cell_of_rowOf h hi]
  have hs := (rowOf_range h).2
  simp [hs, hi]
theorem results_row {P : Program} {fn : Func} {a : Tmp} {ty : TypeId} {d : TypeDesc} {tmps : Array Value} {w : World} {b : Nat} {r : List Value} (hr : fn.results = #[.cell a ty]) (ht : tmps.getD a undef = .pointer (some ⟨b, 0, none⟩))
    (hu : P.underlying ty = some d) (hd : d.isRow = true) (hi : (P.info? ty).map (·.size) = some r.length) (hc : w.rangeAt b 0 r) : (results fn tmps).run P w = .ok (.agg r.toArray) w := by
  have h1 := run_loadVar_mid w b 0 ty r d hc hu hd hi
  have e : (match ResultVar.cell a ty with | .tmp t => (pure (tmps.getD t undef) : Sem Value) | .cell a t => (do loadVar t (← asAddr (tmps.getD a undef)) : Sem Value)) = loadVar ty ⟨b, 0, none⟩ := by
    simp only [ht]
    rfl
  unfold results
  rw [hr]
  simp only [List.mapM_toArray, List.mapM_cons, List.mapM_nil, e]
  simp only [Sem.run_bind, Sem.run_map, Sem.run_pure, bind_pure_comp, h1, Result.andThen]
  rfl

end Go.Proofs.YthffgbhphjkdeaaDoor
