/-
  PROVED: a walk by resources: the frame as a list of what is known of it, the blocks of the call's own, facts on other memory; each operation by a rule of its own. No program in sight.
-/
import Derived.Test.YthffgbhphjkdeaaDoorRow
import Derived.Test.YthffgbhphjkdeaaDoorReg
import Derived.Deep.LoopGhost
namespace Go.Proofs.YthffgbhphjkdeaaDoor
open Go.RowKit

/-- A fact on memory that is only read, and the blocks that it speaks of. -/
structure Res where
  foot : Nat → Prop
  says : World → Prop
  stable : ∀ (S : Nat → Prop) (w w' : World), says w → Mod S w w' → (∀ k, foot k → ¬ S k) → says w'
/-- A slice of the call's own. -/
structure Own where
  v : Value
  e : TypeId
  sz : Nat
  n : Nat
  xs : List Value
/-- A block of the call's own. -/
structure Blk where
  g : Nat
  cells : List Value
  T : TypeId

/-- What the call may turn of old memory: the blocks p; of these q are held as blocks of the call's own; J is kept by whatever turns none but these. -/
structure Rg (W : World) where
  p : Nat → Prop
  q : Nat → Prop
  J : World → Prop
  low : ∀ k, p k → k < W.heap.size
  sub : ∀ k, q k → p k
  keep : ∀ (S : Nat → Prop) (w w' : World), J w → Mod S w w' → (∀ k, k < W.heap.size → S k → q k) → J w'
/-- Nothing. -/
def Rg.none (W : World) : Rg W := ⟨fun _ => False, fun _ => False, fun _ => True, fun _ h => h.elim, fun _ h => h, fun _ _ _ _ _ _ => trivial⟩

structure Loc (W : World) (R : Rg W) (L : List Blk) (O : List Own) (E : List Res) (w : World) : Prop where
  mod : Mod R.p W w
  inv : R.J w
  blk : ∀ b ∈ L, (R.q b.g ∨ W.heap.size ≤ b.g) ∧ w.heap[b.g]? = some (.cells b.cells.toArray b.T (0, 0))
  apart : L.Pairwise (fun a b => a.g ≠ b.g)
  own : ∀ o ∈ O, w.ownsRow W.heap.size o.e o.sz o.v o.n o.xs ∧ ∀ b ∈ L, o.v.ownBlock ≠ some b.g
  ownApart : O.Pairwise (fun a b => ∀ k, a.v.ownBlock = some k → b.v.ownBlock ≠ some k)
  res : ∀ F ∈ E, F.says w ∧ (∀ k, F.foot k → k < w.heap.size) ∧ (∀ b ∈ L, ¬ F.foot b.g) ∧ ∀ o ∈ O, ∀ k, o.v.ownBlock = some k → ¬ F.foot k
  resNew : ∀ F ∈ E, ∀ k, F.foot k → W.heap.size ≤ k
  resApart : E.Pairwise (fun F G => ∀ k, F.foot k → ¬ G.foot k)

section
variable {W : World} {R : Rg W} {L : List Blk} {O : List Own} {E : List Res} {w w' : World}

theorem ownBlock_lt {w : World} {base e sz n : Nat} {v : Value} {xs : List Value} (h : w.ownsRow base e sz v n xs) {k : Nat} (hk : v.ownBlock = some k) : base ≤ k ∧ k < w.heap.size := by
  exact h.lt k hk
theorem ownsRow_keep {w w' : World} {base e sz n : Nat} {v : Value} {xs : List Value} (h : w.ownsRow base e sz v n xs) {S : Nat → Prop} (hm : Mod S w w') (hs : ∀ k, v.ownBlock = some k → ¬ S k) : w'.ownsRow base e sz v n xs := by
  refine ⟨h.1, ?_⟩
  rcases h.2 with h2 | ⟨g, cap, cur, hv, hb, hh, hrest⟩
  · exact .inl h2
  · exact .inr ⟨g, cap, cur, hv, hb, hm.blk hh (hs g (by rw [hv]; rfl)), hrest⟩
theorem Loc.blk_lt (h : Loc W R L O E w) {b : Blk} (hb : b ∈ L) : b.g < w.heap.size := (Array.getElem?_eq_some_iff.1 (h.blk b hb).2).1

/-- What turns nothing that is held keeps the whole. -/
theorem Loc.frame {S : Nat → Prop} (h : Loc W R L O E w) (hm : Mod S w w') (h0 : ∀ k, k < W.heap.size → S k → R.q k) (h1 : ∀ b ∈ L, ¬ S b.g) (h2 : ∀ o ∈ O, ∀ k, o.v.ownBlock = some k → ¬ S k) (h3 : ∀ F ∈ E, ∀ k, F.foot k → ¬ S k) : Loc W R L O E w' where
  mod := h.mod.then hm fun k hk hs => R.sub k (h0 k hk hs)
  inv := R.keep S w w' h.inv hm h0
  blk := fun b hb => ⟨(h.blk b hb).1, hm.blk (h.blk b hb).2 (h1 b hb)⟩
  apart := h.apart
  own := fun o ho => ⟨ownsRow_keep (h.own o ho).1 hm (h2 o ho), (h.own o ho).2⟩
  ownApart := h.ownApart
  res := fun F hF => ⟨F.stable S w w' (h.res F hF).1 hm (h3 F hF), fun k hk => Nat.lt_of_lt_of_le ((h.res F hF).2.1 k hk) hm.size, (h.res F hF).2.2⟩
  resNew := h.resNew
  resApart := h.resApart
theorem Loc.keep (h : Loc W R L O E w) (hm : Mod (fun _ => False) w w') : Loc W R L O E w' := h.frame hm (fun _ _ f => f.elim) (fun _ _ f => f) (fun _ _ _ _ f => f) (fun _ _ _ _ f => f)
/-- A new block. -/
theorem Loc.made (h : Loc W R L O E w) (hm : Mod (fun _ => False) w w') {g : Nat} (hg : w.heap.size ≤ g) {cells : List Value} {T : TypeId} (hc : w'.heap[g]? = some (.cells cells.toArray T (0, 0))) : Loc W R (⟨g, cells, T⟩ :: L) O E w' := by
  have h' := h.keep hm
  exact {
    mod := h'.mod
    inv := h'.inv
    blk := fun b hb => by
      rcases List.mem_cons.1 hb with rfl | hb
      · exact ⟨.inr (Nat.le_trans h.mod.size hg), hc⟩
      · exact h'.blk b hb
    apart := List.pairwise_cons.2 ⟨fun b hb e => by have := h.blk_lt hb; simp only at e; omega, h.apart⟩
    own := fun o ho => ⟨(h'.own o ho).1, fun b hb e => by
      rcases List.mem_cons.1 hb with rfl | hb
      · have := (ownBlock_lt (h.own o ho).1 e).2; simp only at this; omega
      · exact (h.own o ho).2 b hb e⟩
    ownApart := h.ownApart
    res := fun F hF => ⟨(h'.res F hF).1, (h'.res F hF).2.1, fun b hb f => by
      rcases List.mem_cons.1 hb with rfl | hb
      · have := (h.res F hF).2.1 _ f; simp only at this; omega
      · exact (h.res F hF).2.2.1 b hb f, (h.res F hF).2.2.2⟩
    resNew := h.resNew
    resApart := h.resApart }
theorem Loc.alloc (h : Loc W R L O E w) (cells : List Value) (T : TypeId) : Loc W R (⟨w.heap.size, cells, T⟩ :: L) O E (w.alloc (.cells cells.toArray T)) :=
  h.made ((Mod.refl _ w).alloc _) (Nat.le_refl _) (heap_alloc_new w _)

theorem pairwise_ne_of {α : Type} {r : α → α → Prop} (hr : ∀ a b, r a b → r b a) {l : List α} (h : l.Pairwise r) {i j : Nat} {a b : α} (ha : l[i]? = some a) (hb : l[j]? = some b) (hij : i ≠ j) : r a b := by
  have hi := List.getElem?_eq_some_iff.1 ha
  have hj := List.getElem?_eq_some_iff.1 hb
  obtain ⟨hi1, rfl⟩ := hi
  obtain ⟨hj1, rfl⟩ := hj
  rw [List.pairwise_iff_getElem] at h
  rcases Nat.lt_or_gt_of_ne hij with hlt | hlt
  · exact h i j hi1 hj1 hlt
  · exact hr _ _ (h j i hj1 hi1 hlt)
theorem mem_set_cases {α : Type} {l : List α} {i : Nat} {x y : α} (h : y ∈ l.set i x) : y = x ∨ ∃ j, j ≠ i ∧ l[j]? = some y := by
  obtain ⟨j, hj⟩ := List.mem_iff_getElem?.1 h
  rw [List.getElem?_set] at hj
  split at hj
  · split at hj
    · left; simpa using hj.symm
    · cases hj
  · exact .inr ⟨j, fun e => by subst e; contradiction, hj⟩

/-- A block of the call's own, turned. -/
theorem Loc.turned {g : Nat} {cells cells' : List Value} {T : TypeId} {i : Nat} (h : Loc W R L O E w) (hi : L[i]? = some ⟨g, cells, T⟩) (hm : Mod (fun k => k = g) w w') (hc : w'.heap[g]? = some (.cells cells'.toArray T (0, 0))) : Loc W R (L.set i ⟨g, cells', T⟩) O E w' := by
  have hmem : (⟨g, cells, T⟩ : Blk) ∈ L := List.mem_iff_getElem?.2 ⟨i, hi⟩
  have hR := (h.blk _ hmem).1
  exact {
    mod := h.mod.then hm (fun k hk e => by subst e; rcases hR with hR | hR; exact R.sub _ hR; (simp only at hR; omega))
    inv := R.keep _ w w' h.inv hm (fun k hk e => by subst e; rcases hR with hR | hR; exact hR; (simp only at hR; omega))
    blk := fun b hb => by
      rcases mem_set_cases hb with rfl | ⟨j, hj, hb⟩
      · exact ⟨hR, hc⟩
      · have hne : b.g ≠ g := fun e => (pairwise_ne_of (fun _ _ h e => h e.symm) h.apart hb hi hj) e
        exact ⟨(h.blk b (List.mem_iff_getElem?.2 ⟨j, hb⟩)).1, hm.blk (h.blk b (List.mem_iff_getElem?.2 ⟨j, hb⟩)).2 hne⟩
    apart := by
      have h1 := h.apart
      have e : (L.set i ⟨g, cells', T⟩).map (·.g) = L.map (·.g) := by
        rw [List.map_set]
        refine List.ext_getElem? fun j => ?_
        rw [List.getElem?_set]
        split
        · subst_vars
          split
          · simp [hi]
          · rename_i hlt; rw [List.getElem?_eq_none (by simpa using hlt)]
        · rfl
      have h2 : (L.map (·.g)).Pairwise (· ≠ ·) := List.pairwise_map.2 h1
      rw [← e] at h2
      exact List.pairwise_map.1 h2
    own := fun o ho => ⟨ownsRow_keep (h.own o ho).1 hm (fun k hk e => by subst e; exact (h.own o ho).2 _ hmem hk), fun b hb e => by
      rcases mem_set_cases hb with rfl | ⟨j, hj, hb⟩
      · exact (h.own o ho).2 _ hmem e
      · exact (h.own o ho).2 b (List.mem_iff_getElem?.2 ⟨j, hb⟩) e⟩
    ownApart := h.ownApart
    res := fun F hF => ⟨F.stable _ w w' (h.res F hF).1 hm (fun k hk e => by subst e; exact (h.res F hF).2.2.1 _ hmem hk), fun k hk => Nat.lt_of_lt_of_le ((h.res F hF).2.1 k hk) hm.size, fun b hb f => by
      rcases mem_set_cases hb with rfl | ⟨j, hj, hb⟩
      · exact (h.res F hF).2.2.1 _ hmem f
      · exact (h.res F hF).2.2.1 b (List.mem_iff_getElem?.2 ⟨j, hb⟩) f, (h.res F hF).2.2.2⟩
    resNew := h.resNew
    resApart := h.resApart }
theorem Loc.set {g j : Nat} {cells : List Value} {T : TypeId} {i : Nat} (h : Loc W R L O E w) (hi : L[i]? = some ⟨g, cells, T⟩) (v : Value) : Loc W R (L.set i ⟨g, cells.set j v, T⟩) O E (w.setCell ⟨g, j, none⟩ v) := by
  have hmem : (⟨g, cells, T⟩ : Blk) ∈ L := List.mem_iff_getElem?.2 ⟨i, hi⟩
  refine h.turned hi ((Mod.refl _ w).setAt _ _ _) ?_
  have hb := (h.blk _ hmem).2
  simp only at hb
  simp [World.setCell, Array.getElem?_modify, hb]
/-- A new fact on new memory. -/
theorem Loc.told (h : Loc W R L O E w) (hm : Mod (fun _ => False) w w') {F1 : Res} (h1 : F1.says w') (h2 : ∀ k, F1.foot k → w.heap.size ≤ k ∧ k < w'.heap.size) : Loc W R L O (F1 :: E) w' := by
  have h' := h.keep hm
  exact {
    mod := h'.mod, inv := h'.inv, blk := h'.blk, apart := h.apart, own := h'.own, ownApart := h.ownApart
    res := fun F hF => by
      rcases List.mem_cons.1 hF with rfl | hF
      · refine ⟨h1, fun k hk => (h2 k hk).2, fun b hb f => ?_, fun o ho k hk f => ?_⟩
        · have := h.blk_lt hb; have := (h2 _ f).1; omega
        · have := (ownBlock_lt (h.own o ho).1 hk).2; have := (h2 _ f).1; omega
      · exact h'.res F hF
    resNew := fun F hF k hk => by
      rcases List.mem_cons.1 hF with rfl | hF
      · exact Nat.le_trans h.mod.size (h2 k hk).1
      · exact h.resNew F hF k hk
    resApart := List.pairwise_cons.2 ⟨fun G hG k hk hk' => by have := (h.res G hG).2.1 k hk'; have := (h2 k hk).1; omega, h.resApart⟩ }
/-- Memory that a fact speaks of, turned: another fact on it. -/
theorem Loc.retold {F F' : Res} {i : Nat} (h : Loc W R L O E w) (hi : E[i]? = some F) (hm : Mod F.foot w w') (h1 : F'.says w') (h2 : ∀ k, F'.foot k → F.foot k) : Loc W R L O (E.set i F') w' := by
  have hmem : F ∈ E := List.mem_iff_getElem?.2 ⟨i, hi⟩
  obtain ⟨_, f2, f3, f4⟩ := h.res F hmem
  have f5 := h.resNew F hmem
  have far : ∀ (j : Nat) (G : Res), j ≠ i → E[j]? = some G → ∀ k, G.foot k → ¬ F.foot k := fun j G hj hG k hk hf =>
    pairwise_ne_of (r := fun A B : Res => ∀ k, A.foot k → ¬ B.foot k) (fun a b hab k hb ha => hab k ha hb) h.resApart hG hi hj k hk hf
  exact {
    mod := h.mod.then hm fun k hk e => by have := f5 k e; omega
    inv := R.keep _ w w' h.inv hm fun k hk e => by have := f5 k e; omega
    blk := fun b hb => ⟨(h.blk b hb).1, hm.blk (h.blk b hb).2 (f3 b hb)⟩
    apart := h.apart
    own := fun o ho => ⟨ownsRow_keep (h.own o ho).1 hm (f4 o ho), (h.own o ho).2⟩
    ownApart := h.ownApart
    res := fun G hG => by
      rcases mem_set_cases hG with rfl | ⟨j, hj, hG⟩
      · exact ⟨h1, fun k hk => Nat.lt_of_lt_of_le (f2 k (h2 k hk)) hm.size, fun b hb f => f3 b hb (h2 _ f), fun o ho k hk f => f4 o ho k hk (h2 _ f)⟩
      · have hGm : G ∈ E := List.mem_iff_getElem?.2 ⟨j, hG⟩
        exact ⟨G.stable _ w w' (h.res G hGm).1 hm (far j G hj hG), fun k hk => Nat.lt_of_lt_of_le ((h.res G hGm).2.1 k hk) hm.size, (h.res G hGm).2.2⟩
    resNew := fun G hG k hk => by
      rcases mem_set_cases hG with rfl | ⟨j, hj, hG⟩
      · exact f5 k (h2 k hk)
      · exact h.resNew G (List.mem_iff_getElem?.2 ⟨j, hG⟩) k hk
    resApart := by
      rw [List.pairwise_iff_getElem]
      intro a b ha hb hab k hk hk'
      have ea : (E.set i F')[a]? = some (E.set i F')[a] := List.getElem?_eq_getElem ha
      have eb : (E.set i F')[b]? = some (E.set i F')[b] := List.getElem?_eq_getElem hb
      rw [List.getElem?_set] at ea eb
      rw [List.length_set] at ha hb
      by_cases h3 : i = a
      · by_cases h4 : i = b
        · omega
        · rw [if_pos h3, if_pos (show i < E.length by omega)] at ea
          rw [if_neg h4] at eb
          rw [← Option.some.inj ea] at hk
          exact far b _ (fun e => h4 e.symm) eb k hk' (h2 k hk)
      · rw [if_neg h3] at ea
        by_cases h4 : i = b
        · rw [if_pos h4, if_pos (show i < E.length by omega)] at eb
          rw [← Option.some.inj eb] at hk'
          exact far a _ (fun e => h3 e.symm) ea k hk (h2 k hk')
        · rw [if_neg h4] at eb
          exact pairwise_ne_of (r := fun A B : Res => ∀ k, A.foot k → ¬ B.foot k) (fun a b hab k hb ha => hab k ha hb) h.resApart ea eb (by omega) k hk hk' }
end

/-! ### Frames -/
def look : List (Nat × Value) → Nat → Option Value
  | [], _ => none
  | (d, v) :: f, t => bif Nat.beq t d then some v else look f t
def evO (f : List (Nat × Value)) : Operand → Option Value
  | .tmp t => look f t
  | .const v => some v
  | .global g => some (.pointer (some ⟨g, 0, none⟩))
  | .func x => some (.func (.func x) #[] #[])
structure Fr (n : Nat) (f : List (Nat × Value)) (a : Act) : Prop where
  defers : a.defers = []
  size : n ≤ a.tmps.size
  at_ : ∀ t v, look f t = some v → a.tmps[t]? = some v
theorem Fr.eval {n : Nat} {f : List (Nat × Value)} {a : Act} (h : Fr n f a) {x : Operand} {v : Value} (hx : evO f x = some v) : a.eval x = v := by
  cases x with
  | tmp t => simp [Act.eval, Array.getD_eq_getD_getElem?, h.at_ t v hx]
  | const u => exact Option.some.inj hx
  | global g => exact Option.some.inj hx
  | func g => exact Option.some.inj hx
theorem Fr.put {n : Nat} {f : List (Nat × Value)} {a : Act} (h : Fr n f a) {d : Nat} (hd : Nat.blt d n = true) (v : Value) : Fr n ((d, v) :: f) (a.put (some d) v) where
  defers := h.defers
  size := by simpa [Act.put] using h.size
  at_ := fun t u hu => by
    have hd' : d < a.tmps.size := Nat.lt_of_lt_of_le (by simpa using hd) h.size
    simp only [look, cond_eq_ite] at hu
    simp only [Act.put, Array.getElem?_setIfInBounds]
    by_cases e : t = d
    · subst e
      simpa [hd'] using hu
    · have e' : Nat.beq t d = false := Bool.eq_false_iff.2 fun h => e (Nat.eq_of_beq_eq_true h)
      rw [e'] at hu
      simp only [Bool.false_eq_true, if_false] at hu
      rw [if_neg (fun h => e h.symm)]
      exact h.at_ t u hu
theorem Fr.puto {n : Nat} {f : List (Nat × Value)} {a : Act} (h : Fr n f a) (v : Value) : Fr n f (a.put none v) := h
/-- What is told of a frame may be told in part. -/
def subF (f f' : List (Nat × Value)) : Prop := ∀ t v, look f' t = some v → look f t = some v
theorem Fr.sub {n : Nat} {f f' : List (Nat × Value)} {a : Act} (h : Fr n f a) (hs : subF f f') : Fr n f' a := ⟨h.defers, h.size, fun t v ht => h.at_ t v (hs t v ht)⟩
theorem subF_nil (f : List (Nat × Value)) : subF f [] := fun _ _ h => by cases h
theorem subF_cons {f f' : List (Nat × Value)} {d : Nat} {v : Value} (h : look f d = some v) (hs : subF f f') : subF f ((d, v) :: f') := fun t u hu => by
  simp only [look, cond_eq_ite] at hu
  by_cases e : t = d
  · subst e; rw [h]; simpa using hu
  · have e' : Nat.beq t d = false := Bool.eq_false_iff.2 fun h => e (Nat.eq_of_beq_eq_true h)
    rw [e'] at hu
    exact hs t u (by simpa using hu)

theorem subF_consv {f f' : List (Nat × Value)} {d : Nat} {u v : Value} (h : look f d = some u) (hu : u = v) (hs : subF f f') : subF f ((d, v) :: f') := subF_cons (h.trans (by rw [hu])) hs

/-! ### Walks -/
section
variable (P : Program) (n : Nat) (W : World) (R : Rg W)
structure SX (L : List Blk) (O : List Own) (E : List Res) (f : List (Nat × Value)) (c : Code) (Q : Exit → Act → World → Prop) : Prop where
  run : ∀ a w, Fr n f a → Loc W R L O E w → c.wp P Q a w
structure SXl (ops : Array Oper) (L : List Blk) (O : List Own) (E : List Res) (f : List (Nat × Value)) (l : List Oper) (Q : Exit → Act → World → Prop) : Prop where
  run : ∀ a w, Fr n f a → Loc W R L O E w → wpList P ops Q l a w
structure SQ (L : List Blk) (O : List Own) (E : List Res) (f : List (Nat × Value)) (e : Exit) (Q : Exit → Act → World → Prop) : Prop where
  run : ∀ a w, Fr n f a → Loc W R L O E w → Q e a w
end

section
variable {P : Program} {n : Nat} {W : World} {R : Rg W} {L : List Blk} {O : List Own} {E : List Res} {f : List (Nat × Value)} {Q : Exit → Act → World → Prop} {ops : Array Oper} {rest : List Oper}

theorem SX.seq {x y : Code} (h : SX P n W R L O E f x (Exit.then (y.wp P Q) Q)) : SX P n W R L O E f (.seq x y) Q := ⟨fun a w hf hl => wp_seq (h.run a w hf hl)⟩
theorem SX.block {id : Nat} {c : Code} (h : SX P n W R L O E f c (Exit.inBlock id Q)) : SX P n W R L O E f (.block id c) Q := ⟨fun a w hf hl => wp_block (h.run a w hf hl)⟩
theorem SX.skip (h : SQ n W R L O E f .normal Q) : SX P n W R L O E f .skip Q := ⟨fun a w hf hl => wp_skip (h.run a w hf hl)⟩
theorem SX.ret (h : SQ n W R L O E f .ret Q) : SX P n W R L O E f .ret Q := ⟨fun a w hf hl => wp_ret (h.run a w hf hl)⟩
theorem SX.exit {id : Nat} (h : SQ n W R L O E f (.exit id) Q) : SX P n W R L O E f (.exit id) Q := ⟨fun a w hf hl => wp_exit (h.run a w hf hl)⟩
theorem SX.cond {c : Operand} {x y : Code} {t : Bool} (hc : evO f c = some (.bool t)) (ht : t = true → SX P n W R L O E f x Q) (hf : t = false → SX P n W R L O E f y Q) : SX P n W R L O E f (.cond c x y) Q :=
  ⟨fun a w hfr hl => wp_cond_split (hfr.eval hc) (fun h => (ht h).run a w hfr hl) (fun h => (hf h).run a w hfr hl)⟩
theorem SX.condT {c : Operand} {x y : Code} (hc : evO f c = some (.bool true)) (h : SX P n W R L O E f x Q) : SX P n W R L O E f (.cond c x y) Q := SX.cond hc (fun _ => h) (fun e => by cases e)
theorem SX.condF {c : Operand} {x y : Code} (hc : evO f c = some (.bool false)) (h : SX P n W R L O E f y Q) : SX P n W R L O E f (.cond c x y) Q := SX.cond hc (fun e => by cases e) (fun _ => h)
theorem SX.region {id : Nat} {l : List Oper} (h : SXl P n W R l.toArray L O E f l Q) : SX P n W R L O E f (.region id l.toArray false) Q := ⟨fun a w hf hl => wp_region_lit (h.run a w hf hl)⟩
theorem SX.sub {c : Code} {f' : List (Nat × Value)} (h : SX P n W R L O E f' c Q) (hs : subF f f') : SX P n W R L O E f c Q := ⟨fun a w hf hl => h.run a w (hf.sub hs) hl⟩
theorem SQ.thenNormal {y : Code} (h : SX P n W R L O E f y Q) : SQ n W R L O E f .normal (Exit.then (y.wp P Q) Q) := ⟨h.run⟩
theorem SQ.thenRet {K : Act → World → Prop} (h : SQ n W R L O E f .ret Q) : SQ n W R L O E f .ret (Exit.then K Q) := ⟨h.run⟩
theorem SQ.thenExit {K : Act → World → Prop} {id : Nat} (h : SQ n W R L O E f (.exit id) Q) : SQ n W R L O E f (.exit id) (Exit.then K Q) := ⟨h.run⟩
theorem SQ.blockNormal {id : Nat} (h : SQ n W R L O E f .normal Q) : SQ n W R L O E f .normal (Exit.inBlock id Q) := ⟨h.run⟩
theorem SQ.blockRet {id : Nat} (h : SQ n W R L O E f .ret Q) : SQ n W R L O E f .ret (Exit.inBlock id Q) := ⟨h.run⟩
theorem SQ.blockExit {id : Nat} (h : SQ n W R L O E f .normal Q) : SQ n W R L O E f (.exit id) (Exit.inBlock id Q) := ⟨fun a w hf hl => by
  show (if id = id then _ else _); rw [if_pos rfl]; exact h.run a w hf hl⟩
theorem SQ.blockOther {id id' : Nat} (hne : Nat.beq id' id = false) (h : SQ n W R L O E f (.exit id') Q) : SQ n W R L O E f (.exit id') (Exit.inBlock id Q) := ⟨fun a w hf hl => by
  show (if id' = id then _ else _); rw [if_neg (fun e => by subst e; rw [Nat.beq_refl] at hne; cases hne)]; exact h.run a w hf hl⟩
theorem SQ.body1 {fn : Func} {R' : Ending → World → Prop} {t : Tmp} {v : Value} (hr : fn.results = #[.tmp t]) (ht : look f t = some v) (h : ∀ w, Loc W R L O E w → R' (.returned v) w) : SQ n W R L O E f .ret (bodyPost P fn R') :=
  ⟨fun a w hf hl => ⟨hf.defers, v, by rw [results_tmp hr, Array.getD_eq_getD_getElem?, hf.at_ t v ht]; rfl, h w hl⟩⟩
theorem SQ.body1n {fn : Func} {R' : Ending → World → Prop} {t : Tmp} {v : Value} (hr : fn.results = #[.tmp t]) (ht : look f t = some v) (h : ∀ w, Loc W R L O E w → R' (.returned v) w) : SQ n W R L O E f .normal (bodyPost P fn R') := ⟨(SQ.body1 (n := n) (P := P) hr ht h).run⟩
theorem SQ.body2 {fn : Func} {R' : Ending → World → Prop} {t u : Tmp} {v z : Value} (hr : fn.results = #[.tmp t, .tmp u]) (ht : look f t = some v) (hu : look f u = some z) (h : ∀ w, Loc W R L O E w → R' (.returned (.tuple #[v, z])) w) : SQ n W R L O E f .ret (bodyPost P fn R') :=
  ⟨fun a w hf hl => ⟨hf.defers, _, by rw [results_tmp2 hr, Array.getD_eq_getD_getElem?, Array.getD_eq_getD_getElem?, hf.at_ t v ht, hf.at_ u z hu]; rfl, h w hl⟩⟩

theorem SXl.nil (h : SQ n W R L O E f .normal Q) : SXl P n W R ops L O E f [] Q := ⟨h.run⟩

/-- What one operation does: it gives v and turns nothing old. -/
structure OpW (P : Program) (n : Nat) (W : World) (R : Rg W) (L : List Blk) (O : List Own) (E : List Res) (f : List (Nat × Value)) (o : Oper) (v : Value) : Prop where
  run : ∀ a w, Fr n f a → Loc W R L O E w → o.wp P a w (fun a' w' => a' = a.put o.dst v ∧ Mod (fun _ => False) w w') never
theorem OpW.of {o : Oper} {v : Value} (hr : ∀ a w, Fr n f a → Loc W R L O E w → (execOp a.eval o).run P w = .ok (.value v) w) : OpW P n W R L O E f o v := ⟨fun a w hf hl => by
  unfold Oper.wp
  rw [hr a w hf hl, Oper.upon_value]
  exact ⟨rfl, Mod.refl _ _⟩⟩
theorem OpW.enter {o : Oper} {v : Value} {fn : FuncId} {args : Array Value} (hr : ∀ a w, Fr n f a → Loc W R L O E w → (execOp a.eval o).run P w = .ok (.enter fn args) w)
    (hc : ∀ w, Loc W R L O E w → Calls P fn args w fun e w' => e = .returned v ∧ Mod (fun _ => False) w w') : OpW P n W R L O E f o v := ⟨fun a w hf hl => by
  unfold Oper.wp
  rw [hr a w hf hl, Oper.upon_enter]
  refine (hc w hl).mono ?_
  rintro e w' ⟨rfl, hm⟩
  exact ⟨rfl, hm⟩⟩
theorem wp_never {o : Oper} {a : Act} {w : World} {K K' : Act → World → Prop} (h : o.wp P a w K never) (hK : ∀ a w, K a w → K' a w) : o.wp P a w K' Q := by
  unfold Oper.wp at *
  generalize (execOp a.eval o).run P w = r at *
  cases r with
  | ok x w' =>
    cases x <;> simp only [Oper.upon] at h ⊢
    case value v => exact hK _ _ h
    case skip => exact hK _ _ h
    case defer d => exact hK _ _ h
    case enter f args =>
      refine Calls.mono h fun e w'' he => ?_
      cases e with
      | returned u => exact hK _ _ he
      | panicked c => exact he.elim
      | outgrown => obtain ⟨_, _, hf⟩ := he; exact hf.elim
    case row row args => exact Rows.mono h fun u w'' he => hK _ _ he
  | halt x w' => cases x <;> simp only [Oper.upon, never] at h
/-- Is an operation's guard met? -/
def wantO (ops : Array Oper) (f : List (Nat × Value)) (o : Oper) : Option Bool :=
  match o.guard with
  | none => some true
  | some (j, want) => match (ops[j]?).bind (·.dst) with
    | some d => match look f d with
      | some (.bool b) => some (b == want)
      | some (.tuple _) => some false
      | _ => none
    | none => none
theorem wanted_of {o : Oper} {a : Act} {b : Bool} (hf : Fr n f a) (h : wantO ops f o = some b) : Region.wanted o (yielded ops a.tmps) = b := by
  unfold wantO at h
  unfold Region.wanted
  cases hg : o.guard with
  | none => simpa [hg] using h
  | some p =>
    obtain ⟨j, want⟩ := p
    simp only [hg] at h ⊢
    cases hj : ops[j]? with
    | none => simp [hj] at h
    | some q =>
      cases hq : q.dst with
      | none => simp [hj, hq] at h
      | some d =>
        simp only [hj, Option.bind_some, hq] at h
        cases hd : look f d with
        | none => simp [hd] at h
        | some v =>
          have e := hf.at_ d _ hd
          cases v <;> simp [hd] at h
          · rename_i b'
            simp only [yielded, hj, hq, Option.bind_some, e]
            rw [← h]
            cases b' <;> cases want <;> rfl
          · simp only [yielded, hj, hq, Option.bind_some, e]
            rw [h]
            rfl
theorem SXl.v {o : Oper} {v : Value} {d : Nat} (hr : OpW P n W R L O E f o v) (hdst : o.dst = some d) (hw : wantO ops f o = some true) (hd : Nat.blt d n = true) (h : SXl P n W R ops L O E ((d, v) :: f) rest Q) : SXl P n W R ops L O E f (o :: rest) Q := ⟨fun a w hf hl => by
  unfold wpList
  rw [if_pos (wanted_of hf hw)]
  refine .inl (wp_never (hr.run a w hf hl) ?_)
  rintro a' w' ⟨rfl, hm⟩
  rw [hdst]
  exact h.run _ _ (hf.put hd v) (hl.keep hm)⟩
/-- Nobody takes what it gives. -/
theorem SXl.v0 {o : Oper} {v : Value} (hr : OpW P n W R L O E f o v) (hdst : o.dst = none) (hw : wantO ops f o = some true) (h : SXl P n W R ops L O E f rest Q) : SXl P n W R ops L O E f (o :: rest) Q := ⟨fun a w hf hl => by
  unfold wpList
  rw [if_pos (wanted_of hf hw)]
  refine .inl (wp_never (hr.run a w hf hl) ?_)
  rintro a' w' ⟨rfl, hm⟩
  rw [hdst]
  exact h.run _ _ hf (hl.keep hm)⟩
theorem SXl.no {o : Oper} {d : Nat} (hw : wantO ops f o = some false) (hdst : o.dst = some d) (hd : Nat.blt d n = true) (h : SXl P n W R ops L O E ((d, undef) :: f) rest Q) : SXl P n W R ops L O E f (o :: rest) Q := ⟨fun a w hf hl => by
  unfold wpList
  rw [if_neg (by rw [wanted_of hf hw]; decide)]
  rw [hdst]
  exact h.run _ _ (hf.put hd undef) hl⟩
theorem SXl.stepn {o : Oper} {V : Nat → Value} {L' : Nat → List Blk} {O' : Nat → List Own} {d : Nat} (hw : wantO ops f o = some true) (hdst : o.dst = some d) (hd : Nat.blt d n = true) (hr : ∀ a w, Fr n f a → Loc W R L O E w → ∃ g w', (execOp a.eval o).run P w = .ok (.value (V g)) w' ∧ Loc W R (L' g) (O' g) E w')
    (h : ∀ g, SXl P n W R ops (L' g) (O' g) E ((d, V g) :: f) rest Q) : SXl P n W R ops L O E f (o :: rest) Q := ⟨fun a w hf hl => by
  unfold wpList
  rw [if_pos (wanted_of hf hw)]
  refine .inl ?_
  unfold Oper.wp
  obtain ⟨g, w', h1, h2⟩ := hr a w hf hl
  rw [h1, Oper.upon_value, hdst]
  exact (h g).run _ _ (hf.put hd _) h2⟩
theorem SXl.steps {o : Oper} {L' : List Blk} {O' : List Own} (hw : wantO ops f o = some true) (hd : o.dst = none) (hr : ∀ a w, Fr n f a → Loc W R L O E w → ∃ w', (execOp a.eval o).run P w = .ok .skip w' ∧ Loc W R L' O' E w')
    (h : SXl P n W R ops L' O' E f rest Q) : SXl P n W R ops L O E f (o :: rest) Q := ⟨fun a w hf hl => by
  unfold wpList
  rw [if_pos (wanted_of hf hw)]
  refine .inl ?_
  unfold Oper.wp
  obtain ⟨w', h1, h2⟩ := hr a w hf hl
  rw [h1, Oper.upon_skip, hd]
  exact h.run _ _ hf h2⟩
/-- A call that hands back new memory. -/
def NewR (ξ : Type) (v : ξ → Value) (F1 : ξ → Res) (w : World) (e : Ending) (w' : World) : Prop :=
  ∃ x, e = .returned (v x) ∧ ((F1 x).says w' ∧ ∀ k, (F1 x).foot k → w.heap.size ≤ k ∧ k < w'.heap.size) ∧ Mod (fun _ => False) w w'
theorem SXl.callx {o : Oper} {ξ : Type} {v : ξ → Value} {F1 : ξ → Res} {fn : FuncId} {args : Array Value} {d : Nat} (hw : wantO ops f o = some true) (hdst : o.dst = some d) (hd : Nat.blt d n = true)
    (hr : ∀ a w, Fr n f a → Loc W R L O E w → (execOp a.eval o).run P w = .ok (.enter fn args) w)
    (hc : ∀ w, Loc W R L O E w → Calls P fn args w (NewR ξ v F1 w))
    (h : ∀ x, SXl P n W R ops L O (F1 x :: E) ((d, v x) :: f) rest Q) : SXl P n W R ops L O E f (o :: rest) Q := ⟨fun a w hf hl => by
  unfold wpList
  rw [if_pos (wanted_of hf hw)]
  refine .inl ?_
  unfold Oper.wp
  rw [hr a w hf hl, Oper.upon_enter]
  refine (hc w hl).mono ?_
  rintro e w' ⟨x, rfl, h1, hm⟩
  simp only [hdst]
  exact (h x).run _ _ (hf.put hd _) (hl.told hm h1.1 h1.2)⟩

/-! ### Regions that draw their order -/
/-- A drawn region, from operation k on, in the text's order; each operation gives a value that is told and turns nothing old. -/
structure SXr (P : Program) (n : Nat) (W : World) (R : Rg W) (ops : Array Oper) (L : List Blk) (O : List Own) (E : List Res) (k : Nat) (f : List (Nat × Value)) (l : List Oper) (Q : Exit → Act → World → Prop) : Prop where
  run : ∀ F : Act, Fr n f F → RS P ops (Mod fun _ => False) (Loc W R L O E) Q k l (fun _ => F) []
theorem SXr.nil {k : Nat} (h : SQ n W R L O E f .normal Q) : SXr P n W R ops L O E k f [] Q := ⟨fun _ hF => RS.done fun _ w hS _ => h.run _ w hF hS⟩
theorem SXr.v {k : Nat} {o : Oper} {v : Value} {d : Nat} (hr : OpW P n W R L O E f o v) (hdst : o.dst = some d) (hw : wantO ops f o = some true) (hd : Nat.blt d n = true) (h : SXr P n W R ops L O E (k + 1) ((d, v) :: f) rest Q) : SXr P n W R ops L O E k f (o :: rest) Q := ⟨fun F hF =>
  RS.val [] (fun _ => v) rfl (fun _ _ _ => rfl) (fun _ => wanted_of hF hw) (fun _ w hS _ => wp_never (hr.run F w hF hS) fun _ _ ⟨h1, h2⟩ => ⟨h1, hS.keep h2, h2⟩) (by rw [hdst]; exact h.run _ (hF.put hd v))⟩
theorem SXr.no {k : Nat} {o : Oper} {d : Nat} (hw : wantO ops f o = some false) (hdst : o.dst = some d) (hd : Nat.blt d n = true) (h : SXr P n W R ops L O E (k + 1) ((d, undef) :: f) rest Q) : SXr P n W R ops L O E k f (o :: rest) Q := ⟨fun F hF =>
  RS.skip (fun _ => wanted_of hF hw) (by rw [hdst]; exact h.run _ (hF.put hd undef))⟩
theorem SX.drawn {id : Nat} {l : List Oper} (hm : P.follows .mixedOrders = true) (hc : regOk l.toArray = true) (h : SXr P n W R l.toArray L O E 0 f l Q) : SX P n W R L O E f (.region id l.toArray true) Q := ⟨fun a w hf hl =>
  wp_region_rs (Loc W R L O E) (Mod fun _ => False) hm hc (hl.keep ((Mod.refl _ w).drew)) (h.run a hf)⟩
/-- The first m in any order, the rest one by one. -/
theorem SX.drawnTail {id : Nat} {l : List Oper} (m : Nat) (hm : P.follows .mixedOrders = true) (hc : regOkTo m l.toArray = true) (ht : tailOk l.toArray m = true) (h : SXr P n W R l.toArray L O E 0 f (l.take m) (fun _ a w => wpList P l.toArray Q (l.drop m) a w)) : SX P n W R L O E f (.region id l.toArray true) Q := ⟨fun a w hf hl =>
  wp_region_rs_tail m (Loc W R L O E) (Mod fun _ => False) hm hc ht (hl.keep ((Mod.refl _ w).drew)) (h.run a hf)⟩
theorem SXr.tail {k : Nat} (h : SXl P n W R ops L O E f rest Q) : SXr P n W R ops L O E k f [] (fun _ a w => wpList P ops Q rest a w) := ⟨fun _ hF => RS.done fun _ w hS _ => h.run _ w hF hS⟩

/-! ### Loops -/
theorem SX.loop {ι : Type} {c : Code} (I : ι → Nat → List Blk → List Own → List Res → List (Nat × Value) → Prop) (m0 : Nat) (i0 : ι) (L0 : List Blk) (O0 : List Own) (E0 : List Res) (f0 : List (Nat × Value)) (h0 : I i0 m0 L0 O0 E0 f0) (hf0 : subF f f0) (hl0 : ∀ w, Loc W R L O E w → Loc W R L0 O0 E0 w)
    (round : ∀ i m L O E f, I i m L O E f → SX P n W R L O E f c (Exit.then (fun a w => ∃ m', m' < m ∧ ∃ i L O E f, I i m' L O E f ∧ Fr n f a ∧ Loc W R L O E w) Q)) : SX P n W R L O E f (.loop c) Q := ⟨fun a w hf hl =>
  wp_loop_ghost (fun m a w => ∃ i L O E f, I i m L O E f ∧ Fr n f a ∧ Loc W R L O E w) m0 ⟨i0, L0, O0, E0, f0, h0, hf.sub hf0, hl0 w hl⟩
    (fun m a w ⟨i, L, O, E, f, hI, hf, hl⟩ => (round i m L O E f hI).run a w hf hl)⟩
theorem SQ.round {ι : Type} {m : Nat} {I : ι → Nat → List Blk → List Own → List Res → List (Nat × Value) → Prop} (m' : Nat) (hm : m' < m) (i : ι) (L' : List Blk) (O' : List Own) (E' : List Res) (f' : List (Nat × Value)) (h : I i m' L' O' E' f') (hs : subF f f') (hl : ∀ w, Loc W R L O E w → Loc W R L' O' E' w) :
    SQ n W R L O E f .normal (Exit.then (fun a w => ∃ m', m' < m ∧ ∃ i L O E f, I i m' L O E f ∧ Fr n f a ∧ Loc W R L O E w) Q) := ⟨fun _ w hf hl' => ⟨m', hm, i, L', O', E', f', h, hf.sub hs, hl w hl'⟩⟩
/-- A loop whose state is told by an index. -/
theorem SX.loopi {ι : Type} {c : Code} (inv : ι → Prop) (μ : ι → Nat) (Lf : ι → List Blk) (Of : ι → List Own) (Ef : ι → List Res) (ff : ι → List (Nat × Value)) (i0 : ι) (h0 : inv i0) (hf0 : subF f (ff i0)) (hl0 : ∀ w, Loc W R L O E w → Loc W R (Lf i0) (Of i0) (Ef i0) w)
    (round : ∀ i, inv i → SX P n W R (Lf i) (Of i) (Ef i) (ff i) c (Exit.then (fun a w => ∃ j, inv j ∧ μ j < μ i ∧ Fr n (ff j) a ∧ Loc W R (Lf j) (Of j) (Ef j) w) Q)) : SX P n W R L O E f (.loop c) Q := ⟨fun a w hf hl =>
  wp_loop_ghost (fun m a w => ∃ i, inv i ∧ μ i = m ∧ Fr n (ff i) a ∧ Loc W R (Lf i) (Of i) (Ef i) w) (μ i0) ⟨i0, h0, rfl, hf.sub hf0, hl0 w hl⟩
    (fun m a w ⟨i, hI, hm, hf, hl⟩ => wp_mono ((round i hI).run a w hf hl) (fun e a w q => by
      cases e with
      | normal => obtain ⟨j, h1, h2, h3⟩ := q; exact ⟨μ j, hm ▸ h2, j, h1, rfl, h3⟩
      | exit id => exact q
      | goto l => exact q
      | ret => exact q
      | panic ch => exact q
      | outgrown => exact q))⟩
theorem SQ.roundi {ι : Type} {inv : ι → Prop} {μ : ι → Nat} {Lf : ι → List Blk} {Of : ι → List Own} {Ef : ι → List Res} {ff : ι → List (Nat × Value)} {m : Nat} (j : ι) (h : inv j) (hm : μ j < m) (hs : subF f (ff j)) (hl : ∀ w, Loc W R L O E w → Loc W R (Lf j) (Of j) (Ef j) w) :
    SQ n W R L O E f .normal (Exit.then (fun a w => ∃ j, inv j ∧ μ j < m ∧ Fr n (ff j) a ∧ Loc W R (Lf j) (Of j) (Ef j) w) Q) := ⟨fun _ w hf hl' => ⟨j, h, hm, hf.sub hs, hl w hl'⟩⟩
/-- The same, with three indices. -/
theorem SX.loop3 {α β γ : Type} {c : Code} (inv : α → β → γ → Prop) (μ : α → β → γ → Nat) (Lf : α → β → γ → List Blk) (Of : α → β → γ → List Own) (Ef : α → β → γ → List Res) (ff : α → β → γ → List (Nat × Value)) (i0 : α) (j0 : β) (k0 : γ) (h0 : inv i0 j0 k0) (hf0 : subF f (ff i0 j0 k0)) (hl0 : ∀ w, Loc W R L O E w → Loc W R (Lf i0 j0 k0) (Of i0 j0 k0) (Ef i0 j0 k0) w)
    (round : ∀ i j k, inv i j k → SX P n W R (Lf i j k) (Of i j k) (Ef i j k) (ff i j k) c (Exit.then (fun a w => ∃ i' j' k', inv i' j' k' ∧ μ i' j' k' < μ i j k ∧ Fr n (ff i' j' k') a ∧ Loc W R (Lf i' j' k') (Of i' j' k') (Ef i' j' k') w) Q)) : SX P n W R L O E f (.loop c) Q :=
  SX.loopi (ι := α × β × γ) (fun i => inv i.1 i.2.1 i.2.2) (fun i => μ i.1 i.2.1 i.2.2) (fun i => Lf i.1 i.2.1 i.2.2) (fun i => Of i.1 i.2.1 i.2.2) (fun i => Ef i.1 i.2.1 i.2.2) (fun i => ff i.1 i.2.1 i.2.2) (i0, j0, k0) h0 hf0 hl0
    (fun ⟨i, j, k⟩ hi => ⟨fun a w hf hl => wp_mono ((round i j k hi).run a w hf hl) (fun e a w q => by
      cases e with
      | normal => obtain ⟨i', j', k', h⟩ := q; exact ⟨(i', j', k'), h⟩
      | exit id => exact q
      | goto l => exact q
      | ret => exact q
      | panic ch => exact q
      | outgrown => exact q)⟩)
theorem SQ.round3 {α β γ : Type} {inv : α → β → γ → Prop} {μ : α → β → γ → Nat} {Lf : α → β → γ → List Blk} {Of : α → β → γ → List Own} {Ef : α → β → γ → List Res} {ff : α → β → γ → List (Nat × Value)} {m : Nat} (i' : α) (j' : β) (k' : γ) (h : inv i' j' k') (hm : μ i' j' k' < m) (hs : subF f (ff i' j' k')) (hl : ∀ w, Loc W R L O E w → Loc W R (Lf i' j' k') (Of i' j' k') (Ef i' j' k') w) :
    SQ n W R L O E f .normal (Exit.then (fun a w => ∃ i' j' k', inv i' j' k' ∧ μ i' j' k' < m ∧ Fr n (ff i' j' k') a ∧ Loc W R (Lf i' j' k') (Of i' j' k') (Ef i' j' k') w) Q) := ⟨fun _ w hf hl' => ⟨i', j', k', h, hm, hf.sub hs, hl w hl'⟩⟩
/-- A call that turns the memory that a fact speaks of. -/
theorem SXl.callm {o : Oper} {ξ : Type} {v : ξ → Value} {F : Res} {F' : ξ → Res} {K : ξ → Prop} {fn : FuncId} {args : Array Value} {d : Nat} (i : Nat) (hw : wantO ops f o = some true) (hdst : o.dst = some d) (hd : Nat.blt d n = true)
    (hr : ∀ a w, Fr n f a → Loc W R L O E w → (execOp a.eval o).run P w = .ok (.enter fn args) w) (hi : E[i]? = some F) (hsub : ∀ x k, (F' x).foot k → F.foot k)
    (hc : ∀ w, Loc W R L O E w → Calls P fn args w fun e w' => ∃ x, e = .returned (v x) ∧ K x ∧ (F' x).says w' ∧ Mod F.foot w w')
    (h : ∀ x, K x → SXl P n W R ops L O (E.set i (F' x)) ((d, v x) :: f) rest Q) : SXl P n W R ops L O E f (o :: rest) Q := ⟨fun a w hf hl => by
  unfold wpList
  rw [if_pos (wanted_of hf hw)]
  refine .inl ?_
  unfold Oper.wp
  rw [hr a w hf hl, Oper.upon_enter]
  refine (hc w hl).mono ?_
  rintro e w' ⟨x, rfl, hk, h1, hm⟩
  simp only [hdst]
  exact (h x hk).run _ _ (hf.put hd _) (hl.retold hi hm h1 (hsub x))⟩
theorem Loc.drop1 {b : Blk} {w : World} (h : Loc W R (b :: L) O E w) : Loc W R L O E w where
  mod := h.mod
  inv := h.inv
  blk := fun c hc => h.blk c (List.mem_cons_of_mem _ hc)
  apart := (List.pairwise_cons.1 h.apart).2
  own := fun o ho => ⟨(h.own o ho).1, fun c hc => (h.own o ho).2 c (List.mem_cons_of_mem _ hc)⟩
  ownApart := h.ownApart
  res := fun F hF => ⟨(h.res F hF).1, (h.res F hF).2.1, fun c hc => (h.res F hF).2.2.1 c (List.mem_cons_of_mem _ hc), (h.res F hF).2.2.2⟩
  resNew := h.resNew
  resApart := h.resApart
theorem Loc.dropE {F : Res} {w : World} (h : Loc W R L O (F :: E) w) : Loc W R L O E w where
  mod := h.mod
  inv := h.inv
  blk := h.blk
  apart := h.apart
  own := h.own
  ownApart := h.ownApart
  res := fun F hF => h.res F (List.mem_cons_of_mem _ hF)
  resNew := fun F hF => h.resNew F (List.mem_cons_of_mem _ hF)
  resApart := (List.pairwise_cons.1 h.resApart).2
theorem calls_sx {fid : FuncId} {fn : Func} {c : Code} {args : List Value} {w : World} {R' : Ending → World → Prop} {f : List (Nat × Value)} (hf : P.funcs[fid]? = some fn) (hb : fn.body = some c) (hn : fn.ntmps = n)
    (hfr : ∀ a : Act, a.defers = [] → n ≤ a.tmps.size → (∀ (t : Nat) (v : Value), args[t]? = some v → a.tmps[t]? = some v) → Fr n f a)
    (h : SX P n w (Rg.none w) [] [] [] f c (bodyPost P fn R')) : Calls P fid args.toArray w R' := by
  refine calls_of_wp hf hb (h.run _ w (hfr _ rfl ?_ ?_) ⟨Mod.refl _ _, trivial, by simp, by simp, by simp, by simp, by simp, by simp, by simp⟩)
  · simp; omega
  · intro t v ht
    have hlt := (List.getElem?_eq_some_iff.1 ht).1
    obtain ⟨_, e⟩ := List.getElem?_eq_some_iff.1 ht
    simp [Array.getElem?_append, hlt, e]
/-- The same, where the call may turn old memory. -/
theorem calls_sxJ {fid : FuncId} {fn : Func} {c : Code} {args : List Value} {w : World} (Rr : Rg w) (hj : Rr.J w) {R' : Ending → World → Prop} {f : List (Nat × Value)} (hf : P.funcs[fid]? = some fn) (hb : fn.body = some c) (hn : fn.ntmps = n)
    (hfr : ∀ a : Act, a.defers = [] → n ≤ a.tmps.size → (∀ (t : Nat) (v : Value), args[t]? = some v → a.tmps[t]? = some v) → Fr n f a)
    (h : SX P n w Rr [] [] [] f c (bodyPost P fn R')) : Calls P fid args.toArray w R' := by
  refine calls_of_wp hf hb (h.run _ w (hfr _ rfl ?_ ?_) ⟨Mod.refl _ _, hj, by simp, by simp, by simp, by simp, by simp, by simp, by simp⟩)
  · simp; omega
  · intro t v ht
    have hlt := (List.getElem?_eq_some_iff.1 ht).1
    obtain ⟨_, e⟩ := List.getElem?_eq_some_iff.1 ht
    simp [Array.getElem?_append, hlt, e]
theorem Fr.nil {a : Act} (h : a.defers = []) (hn : n ≤ a.tmps.size) : Fr n [] a := ⟨h, hn, fun _ _ h => by cases h⟩
theorem Fr.arg {a : Act} {t : Nat} {v : Value} (h : Fr n f a) (ht : a.tmps[t]? = some v) : Fr n ((t, v) :: f) a := ⟨h.defers, h.size, fun s u hu => by
  simp only [look, cond_eq_ite] at hu
  by_cases e : s = t
  · subst e; rw [ht]; simpa using hu
  · have e' : Nat.beq s t = false := Bool.eq_false_iff.2 fun h => e (Nat.eq_of_beq_eq_true h)
    rw [e'] at hu
    exact h.at_ s u (by simpa using hu)⟩
end
end Go.Proofs.YthffgbhphjkdeaaDoor
