/-
  PROVED: the walk by resources: slices of the call's own. No program in sight.
-/
import Derived.Test.YthffgbhphjkdeaaDoorSxo
import Derived.Test.YthffgbhphjkdeaaDoorAppend
import Derived.Maps.AppendAt
namespace Go.Proofs.YthffgbhphjkdeaaDoor
open Go.RowKit

/-- An element's type: its row of the table. -/
class TEl (P : Program) (e : TypeId) (sz by_ : outParam Nat) (z : outParam Value) : Prop where
  p : (P.info? e).map (fun i => (i.zero, i.size, i.bytes)) = some (some z, sz, by_)
  q : z.cells.size = sz ∧ 0 < sz
theorem TEl.h {P : Program} {e sz by_ : Nat} {z : Value} (t : TEl P e sz by_ z) : ∃ i, P.info? e = some i ∧ i.zero = some z ∧ i.size = sz ∧ i.bytes = by_ ∧ z.cells.size = sz ∧ 0 < sz := by
  obtain ⟨i, h1, h2⟩ := Option.map_eq_some_iff.1 t.p
  simp only [Prod.mk.injEq] at h2
  exact ⟨i, h1, h2.1, h2.2.1, h2.2.2, t.q⟩

section
variable {P : Program} {n : Nat} {W : World} {R : Rg W} {L : List Blk} {O : List Own} {E : List Res} {f : List (Nat × Value)} {Q : Exit → Act → World → Prop} {ops : Array Oper} {rest : List Oper}
variable {d : Option Nat} {dn : Nat} {x y : Operand} {ty T T' : TypeId} {pos : String} {af : Array Edge} {gd : Option (Nat × Bool)}

theorem Loc.ownNil {w : World} (h : Loc W R L O E w) (e sz : Nat) : Loc W R L (⟨.slice none 0 0, e, sz, 0, []⟩ :: O) E w where
  mod := h.mod
  inv := h.inv
  blk := h.blk
  apart := h.apart
  own := fun o ho => by
    rcases List.mem_cons.1 ho with rfl | ho
    · exact ⟨World.ownsRow_nil w _ _ _, fun b _ e => by cases e⟩
    · exact h.own o ho
  ownApart := List.pairwise_cons.2 ⟨fun o _ k hk => (nomatch hk), h.ownApart⟩
  res := fun F hF => ⟨(h.res F hF).1, (h.res F hF).2.1, (h.res F hF).2.2.1, fun o ho k hk => by
    rcases List.mem_cons.1 ho with rfl | ho
    · cases hk
    · exact (h.res F hF).2.2.2 o ho k hk⟩
  resNew := h.resNew
  resApart := h.resApart
theorem SX.ownNil {c : Code} (e sz : Nat) (h : SX P n W R L (⟨.slice none 0 0, e, sz, 0, []⟩ :: O) E f c Q) : SX P n W R L O E f c Q := ⟨fun a w hf hl => h.run a w hf (hl.ownNil e sz)⟩
theorem SXl.ownNil (e sz : Nat) (h : SXl P n W R ops L (⟨.slice none 0 0, e, sz, 0, []⟩ :: O) E f rest Q) : SXl P n W R ops L O E f rest Q := ⟨fun a w hf hl => h.run a w hf (hl.ownNil e sz)⟩
/-- The block that was made last, told as a slice of the call's own. -/
theorem Loc.toOwn {w : World} {g e sz m : Nat} {cells : List Value} (h : Loc W R (⟨g, cells, e⟩ :: L) O E w) (hR : ¬ R.q g) (hm : cells.length = m * sz) (hmax : m ≤ maxLen) : Loc W R L (⟨.slice (some ⟨g, 0, none⟩) m m, e, sz, m, cells⟩ :: O) E w where
  mod := h.mod
  inv := h.inv
  blk := fun b hb => h.blk b (List.mem_cons_of_mem _ hb)
  apart := (List.pairwise_cons.1 h.apart).2
  own := fun o ho => by
    rcases List.mem_cons.1 ho with rfl | ho
    · have hb := h.blk _ List.mem_cons_self
      refine ⟨⟨hm, .inr ⟨g, m, cells.toArray, rfl, hb.1.resolve_left hR, hb.2, Nat.le_refl _, hmax, by simpa using hm, by simp [← hm]⟩⟩, fun b hb e => ?_⟩
      simp only [Value.ownBlock, Option.some.injEq] at e
      exact (List.pairwise_cons.1 h.apart).1 b hb e
    · exact ⟨(h.own o ho).1, fun b hb => (h.own o ho).2 b (List.mem_cons_of_mem _ hb)⟩
  ownApart := List.pairwise_cons.2 ⟨fun o ho k hk e => by
    simp only [Value.ownBlock, Option.some.injEq] at hk
    subst hk
    exact (h.own o ho).2 _ List.mem_cons_self e, h.ownApart⟩
  res := fun F hF => ⟨(h.res F hF).1, (h.res F hF).2.1, fun b hb => (h.res F hF).2.2.1 b (List.mem_cons_of_mem _ hb), fun o ho k hk => by
    rcases List.mem_cons.1 ho with rfl | ho
    · simp only [Value.ownBlock, Option.some.injEq] at hk
      subst hk
      exact (h.res F hF).2.2.1 _ List.mem_cons_self
    · exact (h.res F hF).2.2.2 o ho k hk⟩
  resNew := h.resNew
  resApart := h.resApart
/-- A slice of the call's own, turned; it lies where it lay, or in a new block. -/
theorem Loc.ownTurned {w w' : World} {i : Nat} {o o' : Own} (h : Loc W R L O E w) (hi : O[i]? = some o) (hm : Mod (fun k => o.v.ownBlock = some k) w w') (hown : w'.ownsRow W.heap.size o'.e o'.sz o'.v o'.n o'.xs)
    (hat : o'.v.ownBlock = o.v.ownBlock ∨ ∃ g, o'.v.ownBlock = some g ∧ w.heap.size ≤ g) : Loc W R L (O.set i o') E w' := by
  have hmem : o ∈ O := List.mem_iff_getElem?.2 ⟨i, hi⟩
  have far : ∀ j p, j ≠ i → O[j]? = some p → ∀ k, p.v.ownBlock = some k → o.v.ownBlock ≠ some k := fun j p hj hp k hk e =>
    pairwise_ne_of (r := fun a b : Own => ∀ k, a.v.ownBlock = some k → b.v.ownBlock ≠ some k) (fun a b hab k hb ha => hab k ha hb) h.ownApart hp hi hj k hk e
  exact {
    mod := h.mod.then hm fun k hk e => by have := (ownBlock_lt (h.own o hmem).1 e).1; omega
    inv := R.keep _ w w' h.inv hm fun k hk e => by have := (ownBlock_lt (h.own o hmem).1 e).1; omega
    blk := fun b hb => ⟨(h.blk b hb).1, hm.blk (h.blk b hb).2 fun e => (h.own o hmem).2 b hb e⟩
    apart := h.apart
    own := fun p hp => by
      rcases mem_set_cases hp with rfl | ⟨j, hj, hp⟩
      · refine ⟨hown, fun b hb e => ?_⟩
        rcases hat with hat | ⟨g, hat, hg⟩
        · exact (h.own o hmem).2 b hb (hat ▸ e)
        · rw [hat] at e
          simp only [Option.some.injEq] at e
          have := h.blk_lt hb
          omega
      · have hpm : p ∈ O := List.mem_iff_getElem?.2 ⟨j, hp⟩
        exact ⟨ownsRow_keep (h.own p hpm).1 hm fun k hk e => far j p hj hp k hk e, (h.own p hpm).2⟩
    ownApart := by
      have key : ∀ (j : Nat) (p : Own), j ≠ i → O[j]? = some p → ∀ k, p.v.ownBlock = some k → o'.v.ownBlock ≠ some k := fun j p hj hp k hk e => by
        rcases hat with hat | ⟨g, hat, hg⟩
        · exact far j p hj hp k hk (hat ▸ e)
        · rw [hat] at e
          simp only [Option.some.injEq] at e
          subst e
          have := (ownBlock_lt (h.own p (List.mem_iff_getElem?.2 ⟨j, hp⟩)).1 hk).2
          omega
      rw [List.pairwise_iff_getElem]
      intro a b ha hb hab k hk
      have ea : (O.set i o')[a]? = some (O.set i o')[a] := List.getElem?_eq_getElem ha
      have eb : (O.set i o')[b]? = some (O.set i o')[b] := List.getElem?_eq_getElem hb
      rw [List.getElem?_set] at ea eb
      rw [List.length_set] at ha hb
      by_cases h1 : i = a
      · by_cases h2 : i = b
        · omega
        · rw [if_pos h1, if_pos (show i < O.length by omega)] at ea
          rw [if_neg h2] at eb
          intro e
          rw [← Option.some.inj ea] at hk
          exact key b _ (fun e => h2 e.symm) eb k e hk
      · rw [if_neg h1] at ea
        by_cases h2 : i = b
        · rw [if_pos h2, if_pos (show i < O.length by omega)] at eb
          rw [← Option.some.inj eb]
          exact key a _ (fun e => h1 e.symm) ea k hk
        · rw [if_neg h2] at eb
          intro e
          exact pairwise_ne_of (r := fun a b : Own => ∀ k, a.v.ownBlock = some k → b.v.ownBlock ≠ some k) (fun a b hab k hb ha => hab k ha hb) h.ownApart ea eb (by omega) k hk e
    res := fun F hF => ⟨F.stable _ w w' (h.res F hF).1 hm fun k hk e => (h.res F hF).2.2.2 o hmem k e hk, fun k hk => Nat.lt_of_lt_of_le ((h.res F hF).2.1 k hk) hm.size, (h.res F hF).2.2.1, fun p hp k hk f => by
      rcases mem_set_cases hp with rfl | ⟨j, hj, hp⟩
      · rcases hat with hat | ⟨g, hat, hg⟩
        · exact (h.res F hF).2.2.2 o hmem k (hat ▸ hk) f
        · rw [hat] at hk
          simp only [Option.some.injEq] at hk
          subst hk
          have := (h.res F hF).2.1 _ f
          omega
      · exact (h.res F hF).2.2.2 p (List.mem_iff_getElem?.2 ⟨j, hp⟩) k hk f⟩
    resNew := h.resNew
    resApart := h.resApart }
theorem mod_grownBy {w w' : World} {row : Option Nat} (h : w.grownBy w' row) : Mod (fun k => row = some k) w w' := ⟨h.os, h.tape, h.output, h.size, fun k hk hn => h.block k hk fun e => hn e.symm⟩

/-- append(own, cells of a block of the call's own). -/
theorem SXl.append {e sz by_ m c n0 g : Nat} {z v0 : Value} {xs cells : List Value} (i j : Nat) [t : TSl P T e sz] [te : TEl P e sz by_ z] (hw : wantO ops f ⟨some dn, .call ⟨.builtin .append, #[x, y], #[T, T]⟩, ty, pos, af, gd⟩ = some true) (hd : Nat.blt dn n = true)
    (hx : evO f x = some v0) (hO : O[i]? = some ⟨v0, e, sz, n0, xs⟩) (hy : evO f y = some (.slice (some ⟨g, 0, none⟩) m c)) (hL : L[j]? = some ⟨g, cells, T'⟩) (hm : cells.length = m * sz) (h1 : cells.all (·.oneCell') = true)
    (h63 : n0 + m ≤ 9223372036854775807) (hby : (n0 + m) * by_ ≤ 140737488355328)
    (h : ∀ a c, SXl P n W R ops L (O.set i ⟨.slice a (n0 + m) c, e, sz, n0 + m, xs ++ cells⟩) E ((dn, .slice a (n0 + m) c) :: f) rest Q) : SXl P n W R ops L O E f (⟨some dn, .call ⟨.builtin .append, #[x, y], #[T, T]⟩, ty, pos, af, gd⟩ :: rest) Q := ⟨fun a w hf hl => by
  obtain ⟨i0, q1, q2, q3, q4, q5, q6⟩ := te.h
  have hmem : (⟨v0, e, sz, n0, xs⟩ : Own) ∈ O := List.mem_iff_getElem?.2 ⟨i, hO⟩
  have hb := (hl.blk _ (List.mem_iff_getElem?.2 ⟨j, hL⟩)).2
  have hnews : ∀ j u, cells[j]? = some u → w.cell? ((⟨g, 0, none⟩ : Addr).add j) = some u := fun j u hu => by
    rw [Addr.add_lit, Nat.zero_add]; exact blk_cell hb hu
  obtain ⟨v', w', hr, h2, h3, _, h5⟩ := run_append_own_at (P := P) w W.heap.size T ty e i0 z sz by_ t.h.1 q1 q2 q3 q4 q5 q6 v0 n0 xs (hl.own _ hmem).1 ⟨g, 0, none⟩ m c cells hm hnews (List.all_eq_true.1 h1) (by unfold maxLen; exact h63) hby hl.mod.size
  obtain ⟨a', c', rfl⟩ := own_form h2
  unfold wpList
  rw [if_pos (wanted_of hf hw)]
  refine .inl ?_
  unfold Oper.wp
  have hrun : (execOp a.eval ⟨some dn, .call ⟨.builtin .append, #[x, y], #[T, T]⟩, ty, pos, af, gd⟩).run P w = .ok (.value (.slice a' (n0 + m) c')) w' := by
    simp only [execOp, resolve, invoke, builtin, Sem.run_bind, Sem.run_pure, Result.andThen_ok, List.map_toArray, List.map_cons, List.map_nil, hf.eval hx, hf.eval hy, hr]
  rw [hrun, Oper.upon_value]
  exact (h a' c').run _ _ (hf.put hd _) (hl.ownTurned (o' := ⟨.slice a' (n0 + m) c', e, sz, n0 + m, xs ++ cells⟩) hO (mod_grownBy h3) h2 (h5.imp id fun h => ⟨_, h, Nat.le_refl _⟩))⟩
/-- append(own, a slice that is told). -/
theorem SXl.appendS {α : Type} {cs : α → List Value} {e sz by_ c n0 m : Nat} {z v0 : Value} {xs : List Value} {b : Option Addr} (i : Nat) (l : List α) [t : TSl P T e sz] [te : TEl P e sz by_ z] (hw : wantO ops f ⟨some dn, .call ⟨.builtin .append, #[x, y], #[T, T]⟩, ty, pos, af, gd⟩ = some true) (hd : Nat.blt dn n = true)
    (hx : evO f x = some v0) (hO : O[i]? = some ⟨v0, e, sz, n0, xs⟩) (hy : evO f y = some (.slice b m c)) (hm : m = l.length) (hc : ∀ x, (cs x).length = sz) (hone : ∀ x, ∀ u ∈ cs x, u.oneCell' = true)
    (hs : ∀ w, Loc W R L O E w → ∃ S, SliceAt (Flat cs) sz S w b l) (h63 : n0 + l.length ≤ 9223372036854775807) (hby : (n0 + l.length) * by_ ≤ 140737488355328)
    (h : ∀ a c, SXl P n W R ops L (O.set i ⟨.slice a (n0 + l.length) c, e, sz, n0 + l.length, xs ++ (l.map cs).flatten⟩) E ((dn, .slice a (n0 + l.length) c) :: f) rest Q) : SXl P n W R ops L O E f (⟨some dn, .call ⟨.builtin .append, #[x, y], #[T, T]⟩, ty, pos, af, gd⟩ :: rest) Q := ⟨fun a w hf hl => by
  subst hm
  obtain ⟨i0, q1, q2, q3, q4, q5, q6⟩ := te.h
  have hmem : (⟨v0, e, sz, n0, xs⟩ : Own) ∈ O := List.mem_iff_getElem?.2 ⟨i, hO⟩
  obtain ⟨S, hsl⟩ := hs w hl
  have H0 : Sized P T e sz by_ i0 z := ⟨t.h.1, q1, q2, q3, q4, q6⟩
  have key : ∃ a' c' w', (Builtin.append_ #[T, T] ty #[v0, .slice b l.length c]).run P w = .ok (.slice a' (n0 + l.length) c') w' ∧ Loc W R L (O.set i ⟨.slice a' (n0 + l.length) c', e, sz, n0 + l.length, xs ++ (l.map cs).flatten⟩) E w' := by
    obtain ⟨d0, c0, hv0⟩ := own_form (hl.own _ hmem).1
    simp only at hv0
    subst hv0
    by_cases h0 : l = []
    · subst h0
      obtain ⟨a', c', w', hr, hg, ho⟩ := run_append_slice (P := P) H0 q5 hc hone ty (hl.own _ hmem).1 hl.mod.size hsl (by unfold maxLen; exact h63) hby (c := c)
      have e0 : (Builtin.append_ #[T, T] ty #[.slice d0 n0 c0, .slice b 0 c]).run P w = .ok (.slice d0 n0 c0) w := by
        rcases (hl.own _ hmem).1.2 with ⟨hv, hn0⟩ | ⟨g, cap, cur, hv, _, _, hnc, _⟩
        · injection hv with e1 e2 e3
          subst e1 e2 e3
          cases b <;>
            simp [Builtin.append_, run_underlying H0.und, sizeOf, typeInfo, zeroValue, H0.inf, H0.zero, Builtin.lenOf, Builtin.firstCells, loadCells, loadCellsFrom, storeCells]
        · injection hv with e1 e2 e3
          subst e1 e3
          cases b <;>
            simp [Builtin.append_, run_underlying H0.und, sizeOf, typeInfo, zeroValue, H0.inf, H0.zero, Builtin.lenOf, Builtin.firstCells, loadCells, loadCellsFrom, storeCells, hnc]
      refine ⟨d0, c0, w, e0, ?_⟩
      have e1 : O.set i ⟨.slice d0 (n0 + 0) c0, e, sz, n0 + 0, xs ++ []⟩ = O := by
        rw [Nat.add_zero, List.append_nil]
        refine List.ext_getElem? fun j => ?_
        rw [List.getElem?_set]
        split
        · subst_vars
          split
          · rw [hO]
          · rename_i hlt; rw [List.getElem?_eq_none (by simpa using hlt)]
        · rfl
      simp only [List.length_nil, List.map_nil, List.flatten_nil]
      rw [e1]
      exact hl
    · obtain ⟨ad, rfl, hnews⟩ := news_of_slice hsl hc H0.pos h0
      obtain ⟨v', w', hr, h2, h3, _, h5⟩ := run_append_own_at (P := P) w W.heap.size T ty e i0 z sz by_ t.h.1 q1 q2 q3 q4 q5 q6 _ n0 xs (hl.own _ hmem).1 ad l.length c _ (flat_length hc l) hnews
        (fun u hu => by
          obtain ⟨r, hr, hu⟩ := List.mem_flatten.1 hu
          obtain ⟨x, _, rfl⟩ := List.mem_map.1 hr
          exact hone x u hu) (by unfold maxLen; exact h63) hby hl.mod.size
      obtain ⟨a', c', rfl⟩ := own_form h2
      exact ⟨a', c', w', hr, hl.ownTurned (o' := ⟨.slice a' (n0 + l.length) c', e, sz, n0 + l.length, xs ++ (l.map cs).flatten⟩) hO (mod_grownBy h3) h2 (h5.imp id fun h => ⟨_, h, Nat.le_refl _⟩)⟩
  obtain ⟨a', c', w', hr, hl'⟩ := key
  unfold wpList
  rw [if_pos (wanted_of hf hw)]
  refine .inl ?_
  unfold Oper.wp
  have hrun : (execOp a.eval ⟨some dn, .call ⟨.builtin .append, #[x, y], #[T, T]⟩, ty, pos, af, gd⟩).run P w = .ok (.value (.slice a' (n0 + l.length) c')) w' := by
    simp only [execOp, resolve, invoke, builtin, Sem.run_bind, Sem.run_pure, Result.andThen_ok, List.map_toArray, List.map_cons, List.map_nil, hf.eval hx, hf.eval hy, hr]
  rw [hrun, Oper.upon_value]
  exact (h a' c').run _ _ (hf.put hd _) hl'⟩
/-- What a slice literal's parts hold. -/
def evP (f : List (Nat × Value)) : List (Nat × Operand) → Option (List (Nat × Value))
  | [] => some []
  | (i, x) :: l => match evO f x, evP f l with
    | some v, some vs => some ((i, v) :: vs)
    | _, _ => none
theorem evP_map {a : Act} (hf : Fr n f a) : ∀ (l : List (Nat × Operand)) (vs : List (Nat × Value)), evP f l = some vs → l.map (fun p => (p.1, a.eval p.2)) = vs
  | [], vs, h => by simpa [evP] using h
  | (i, x) :: l, vs, h => by
    unfold evP at h
    cases hx : evO f x with
    | none => simp [hx] at h
    | some v =>
      cases hl : evP f l with
      | none => simp [hx, hl] at h
      | some us =>
        simp only [hx, hl, Option.some.injEq] at h
        subst h
        rw [List.map_cons, hf.eval hx, evP_map hf l us hl]
/-- A slice literal of scalars. -/
theorem SXl.lit {e m by_ : Nat} {z : Value} {parts : List (Nat × Operand)} {vals : List (Nat × Value)} {cells : List Value} [t : TSl P T e 1] [te : TEl P e 1 by_ z] (hw : wantO ops f ⟨some dn, .buildSlice T m parts.toArray, ty, pos, af, gd⟩ = some true) (hd : Nat.blt dn n = true)
    (hp : evP f parts = some vals) (hm : m ≤ 16777216) (hc : Instr.fill (fun i => some (i * 1, 1)) (Array.replicate (m * 1) z) vals = some cells.toArray) (hz : z.cells = #[z])
    (h : ∀ g, SXl P n W R ops (⟨g, cells, e⟩ :: L) O E ((dn, .slice (some ⟨g, 0, none⟩) m m) :: f) rest Q) : SXl P n W R ops L O E f (⟨some dn, .buildSlice T m parts.toArray, ty, pos, af, gd⟩ :: rest) Q :=
  SXl.stepn (V := fun g => .slice (some ⟨g, 0, none⟩) m m) (O' := fun _ => O) hw rfl hd (fun a w hf hl => by
    obtain ⟨i0, q1, q2, q3, q4, q5, q6⟩ := te.h
    refine ⟨w.heap.size, w.alloc (.cells cells.toArray e), ?_, hl.alloc cells e⟩
    have e1 := evP_map hf parts vals hp
    have e2 : (parts.toArray.map fun p => (p.1, a.eval p.2)).toList = vals := by simpa using e1
    have hm2 : ¬ 2 ^ 24 < m := by omega
    have e3 : (Array.range m).map (fun _ => z) = Array.replicate m z := by
      apply Array.ext_getElem?
      intro i
      simp [Array.getElem?_map, Array.getElem?_range, Array.getElem?_replicate]
    simp only [Nat.mul_one] at hc
    simp only [execOp, Instr.buildSlice, Sem.run_bind, run_underlying t.h.1, Result.andThen_ok, sizeOf, typeInfo, run_program, q1, Sem.run_pure, q3, Nat.mul_one]
    by_cases h0 : m = 0
    · subst h0
      have hc' : Instr.fill (fun i => some (i, 1)) #[] vals = some cells.toArray := by simpa using hc
      have e4 : Array.map (fun _ : Nat => (default : Value)) (Array.range 0) = #[] := by simp
      simp [newRow, q1, q2, q3, e1, e4, hc']
    · simp [newRow, zeroValue, typeInfo, q1, q2, hz, h0, hm2, Nat.mod_one, e1, e3, hc]) h
/-- A slice literal of one scalar; of none. -/
theorem SXl.lit1 {e by_ : Nat} {z v : Value} [t : TSl P T e 1] [te : TEl P e 1 by_ z] (hw : wantO ops f ⟨some dn, .buildSlice T 1 #[(0, x)], ty, pos, af, gd⟩ = some true) (hd : Nat.blt dn n = true)
    (hx : evO f x = some v) (hv : v.cells = #[v]) (hz : z.cells = #[z])
    (h : ∀ g, SXl P n W R ops (⟨g, [v], e⟩ :: L) O E ((dn, .slice (some ⟨g, 0, none⟩) 1 1) :: f) rest Q) : SXl P n W R ops L O E f (⟨some dn, .buildSlice T 1 #[(0, x)], ty, pos, af, gd⟩ :: rest) Q :=
  SXl.lit (parts := [(0, x)]) (vals := [(0, v)]) (cells := [v]) (z := z) hw hd (by simp [evP, hx]) (by decide) (by
    unfold Instr.fill
    simp [hv, Instr.fill, List.zipIdx]
    rw [hv]
    rfl) hz h
theorem SXl.lit0 {e by_ : Nat} {z : Value} [t : TSl P T e 1] [te : TEl P e 1 by_ z] (hw : wantO ops f ⟨some dn, .buildSlice T 0 #[], ty, pos, af, gd⟩ = some true) (hd : Nat.blt dn n = true) (hR : ∀ k, ¬ R.q k) (hz : z.cells = #[z])
    (h : ∀ g, SXl P n W R ops L (⟨.slice (some ⟨g, 0, none⟩) 0 0, e, 1, 0, []⟩ :: O) E ((dn, .slice (some ⟨g, 0, none⟩) 0 0) :: f) rest Q) : SXl P n W R ops L O E f (⟨some dn, .buildSlice T 0 #[], ty, pos, af, gd⟩ :: rest) Q :=
  SXl.lit (parts := []) (vals := []) (cells := []) (z := z) hw hd rfl (by decide) rfl hz fun g => ⟨fun a w hf hl => (h g).run a w hf (hl.toOwn (m := 0) (hR g) rfl (by unfold maxLen; omega))⟩
/-- A call that hands back new memory, told by one fact. -/
theorem SXl.calln1 {ξ : Type} {v : ξ → Value} {F1 : ξ → Res} {fn : FuncId} {as : List Operand} {args : List Value} {aT : Array TypeId} [TFun P fn] (hw : wantO ops f ⟨some dn, .call ⟨.value (.func fn), as.toArray, aT⟩, ty, pos, af, gd⟩ = some true) (hd : Nat.blt dn n = true) (ha : evL f as = some args)
    (hc : ∀ w, Loc W R L O E w → Calls P fn args.toArray w (NewR ξ v F1 w))
    (h : ∀ x, SXl P n W R ops L O (F1 x :: E) ((dn, v x) :: f) rest Q) : SXl P n W R ops L O E f (⟨some dn, .call ⟨.value (.func fn), as.toArray, aT⟩, ty, pos, af, gd⟩ :: rest) Q :=
  SXl.calln hw hd ha hc h
end
end Go.Proofs.YthffgbhphjkdeaaDoor
