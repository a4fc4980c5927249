/-
  PROVED: contracts of functions and words on memory, several texts put together: what each says stands at its theorems. Conditions: as told there.
-/
import Derived.Test.YtdohglcjjlmhhaaMWa
import Derived.Maps.AppendAt
import Derived.Laws.StructEq
import Derived.Deep.MidRow
import Derived.Laws.Strings3
import Derived.Laws.Slices
import Derived.Laws.Tables
import Derived.Test.YtdohglcjjlmhhaaProg
import Derived.Test.YtdohglcjjlmhhaaChecked
import Derived.Deep.QuietTactic
import Derived.BigQuiet
import Derived.Outline
import Derived.WalkLawsBesides
import Derived.Laws.OwnMore
import Derived.Deep.Onto
import Derived.Deep.RegionHeld3
set_option linter.unusedVariables false
set_option linter.unusedSimpArgs false
namespace Go.Proofs.Ytdohglcjjlmhhaa
open Go.RowKit

/-- An element's type: its row of the table. -/
class TEl (P : Program) (e : TypeId) (sz by_ : outParam Nat) (z : outParam Value) : Prop where
  p : (P.info? e).map (fun i => (i.zero, i.size, i.bytes)) = some (some z, sz, by_)
  q : z.cells.size = sz ∧ 0 < sz
theorem TEl.h {P : Program} {e sz by_ : Nat} {z : Value} (t : TEl P e sz by_ z) : ∃ i, P.info? e = some i ∧ i.zero = some z ∧ i.size = sz ∧ i.bytes = by_ ∧ z.cells.size = sz ∧ 0 < sz := by
  obtain ⟨i, h1, h2⟩ := Option.map_eq_some_iff.1 t.p
  simp only [Prod.mk.injEq] at h2
  exact ⟨i, h1, h2.1, h2.2.1, h2.2.2, t.q⟩

section
variable {P : Program} {n : Nat} {W : World} {R : Rg W} {L : List Blk} {O : List Own} {E : List Res} {f : List (Nat × Value)} {Q : Exit → Act → World → Prop} {ops : Array Oper} {rest : List Oper}
variable {d : Option Nat} {dn : Nat} {x y : Operand} {ty T T' : TypeId} {pos : String} {af : Array Edge} {gd : Option (Nat × Bool)}

theorem Loc.ownNil {w : World} (h : Loc W R L O E w) (e sz : Nat) : Loc W R L (⟨.slice none 0 0, e, sz, 0, []⟩ :: O) E w where
  mod := h.mod
  inv := h.inv
  blk := h.blk
  apart := h.apart
  own := fun o ho => by
    rcases List.mem_cons.1 ho with rfl | ho
    · exact ⟨World.ownsRow_nil w _ _ _, fun b _ e => by cases e⟩
    · exact h.own o ho
  ownApart := List.pairwise_cons.2 ⟨fun o _ k hk => (nomatch hk), h.ownApart⟩
  res := fun F hF => ⟨(h.res F hF).1, (h.res F hF).2.1, (h.res F hF).2.2.1, fun o ho k hk => by
    rcases List.mem_cons.1 ho with rfl | ho
    · cases hk
    · exact (h.res F hF).2.2.2 o ho k hk⟩
  resNew := h.resNew
  resApart := h.resApart
theorem SX.ownNil {c : Code} (e sz : Nat) (h : SX P n W R L (⟨.slice none 0 0, e, sz, 0, []⟩ :: O) E f c Q) : SX P n W R L O E f c Q := ⟨fun a w hf hl => h.run a w hf (hl.ownNil e sz)⟩
theorem SXl.ownNil (e sz : Nat) (h : SXl P n W R ops L (⟨.slice none 0 0, e, sz, 0, []⟩ :: O) E f rest Q) : SXl P n W R ops L O E f rest Q := ⟨fun a w hf hl => h.run a w hf (hl.ownNil e sz)⟩
/-- The block that was made last, told as a slice of the call's own. -/
theorem Loc.toOwn {w : World} {g e sz m : Nat} {cells : List Value} (h : Loc W R (⟨g, cells, e⟩ :: L) O E w) (hR : ¬ R.q g) (hm : cells.length = m * sz) (hmax : m ≤ maxLen) : Loc W R L (⟨.slice (some ⟨g, 0, none⟩) m m, e, sz, m, cells⟩ :: O) E w where
  mod := h.mod
  inv := h.inv
  blk := fun b hb => h.blk b (List.mem_cons_of_mem _ hb)
  apart := (List.pairwise_cons.1 h.apart).2
  own := fun o ho => by
    rcases List.mem_cons.1 ho with rfl | ho
    · have hb := h.blk _ List.mem_cons_self
      refine ⟨⟨hm, .inr ⟨g, m, cells.toArray, rfl, hb.1.resolve_left hR, hb.2, Nat.le_refl _, hmax, by simpa using hm, by simp [← hm]⟩⟩, fun b hb e => ?_⟩
      simp only [Value.ownBlock, Option.some.injEq] at e
      exact (List.pairwise_cons.1 h.apart).1 b hb e
    · exact ⟨(h.own o ho).1, fun b hb => (h.own o ho).2 b (List.mem_cons_of_mem _ hb)⟩
  ownApart := List.pairwise_cons.2 ⟨fun o ho k hk e => by
    simp only [Value.ownBlock, Option.some.injEq] at hk
    subst hk
    exact (h.own o ho).2 _ List.mem_cons_self e, h.ownApart⟩
  res := fun F hF => ⟨(h.res F hF).1, (h.res F hF).2.1, fun b hb => (h.res F hF).2.2.1 b (List.mem_cons_of_mem _ hb), fun o ho k hk => by
    rcases List.mem_cons.1 ho with rfl | ho
    · simp only [Value.ownBlock, Option.some.injEq] at hk
      subst hk
      exact (h.res F hF).2.2.1 _ List.mem_cons_self
    · exact (h.res F hF).2.2.2 o ho k hk⟩
  resNew := h.resNew
  resApart := h.resApart
/-- A slice of the call's own, turned; it lies where it lay, or in a new block. -/
theorem Loc.ownTurned {w w' : World} {i : Nat} {o o' : Own} (h : Loc W R L O E w) (hi : O[i]? = some o) (hm : Mod (fun k => o.v.ownBlock = some k) w w') (hown : w'.ownsRow W.heap.size o'.e o'.sz o'.v o'.n o'.xs)
    (hat : o'.v.ownBlock = o.v.ownBlock ∨ ∃ g, o'.v.ownBlock = some g ∧ w.heap.size ≤ g) : Loc W R L (O.set i o') E w' := by
  have hmem : o ∈ O := List.mem_iff_getElem?.2 ⟨i, hi⟩
  have far : ∀ j p, j ≠ i → O[j]? = some p → ∀ k, p.v.ownBlock = some k → o.v.ownBlock ≠ some k := fun j p hj hp k hk e =>
    pairwise_ne_of (r := fun a b : Own => ∀ k, a.v.ownBlock = some k → b.v.ownBlock ≠ some k) (fun a b hab k hb ha => hab k ha hb) h.ownApart hp hi hj k hk e
  exact {
    mod := h.mod.then hm fun k hk e => by have := (ownBlock_lt (h.own o hmem).1 e).1; omega
    inv := R.keep _ w w' h.inv hm fun k hk e => by have := (ownBlock_lt (h.own o hmem).1 e).1; omega
    blk := fun b hb => ⟨(h.blk b hb).1, hm.blk (h.blk b hb).2 fun e => (h.own o hmem).2 b hb e⟩
    apart := h.apart
    own := fun p hp => by
      rcases mem_set_cases hp with rfl | ⟨j, hj, hp⟩
      · refine ⟨hown, fun b hb e => ?_⟩
        rcases hat with hat | ⟨g, hat, hg⟩
        · exact (h.own o hmem).2 b hb (hat ▸ e)
        · rw [hat] at e
          simp only [Option.some.injEq] at e
          have := h.blk_lt hb
          omega
      · have hpm : p ∈ O := List.mem_iff_getElem?.2 ⟨j, hp⟩
        exact ⟨ownsRow_keep (h.own p hpm).1 hm fun k hk e => far j p hj hp k hk e, (h.own p hpm).2⟩
    ownApart := by
      have key : ∀ (j : Nat) (p : Own), j ≠ i → O[j]? = some p → ∀ k, p.v.ownBlock = some k → o'.v.ownBlock ≠ some k := fun j p hj hp k hk e => by
        rcases hat with hat | ⟨g, hat, hg⟩
        · exact far j p hj hp k hk (hat ▸ e)
        · rw [hat] at e
          simp only [Option.some.injEq] at e
          subst e
          have := (ownBlock_lt (h.own p (List.mem_iff_getElem?.2 ⟨j, hp⟩)).1 hk).2
          omega
      rw [List.pairwise_iff_getElem]
      intro a b ha hb hab k hk
      have ea : (O.set i o')[a]? = some (O.set i o')[a] := List.getElem?_eq_getElem ha
      have eb : (O.set i o')[b]? = some (O.set i o')[b] := List.getElem?_eq_getElem hb
      rw [List.getElem?_set] at ea eb
      rw [List.length_set] at ha hb
      by_cases h1 : i = a
      · by_cases h2 : i = b
        · omega
        · rw [if_pos h1, if_pos (show i < O.length by omega)] at ea
          rw [if_neg h2] at eb
          intro e
          rw [← Option.some.inj ea] at hk
          exact key b _ (fun e => h2 e.symm) eb k e hk
      · rw [if_neg h1] at ea
        by_cases h2 : i = b
        · rw [if_pos h2, if_pos (show i < O.length by omega)] at eb
          rw [← Option.some.inj eb]
          exact key a _ (fun e => h1 e.symm) ea k hk
        · rw [if_neg h2] at eb
          intro e
          exact pairwise_ne_of (r := fun a b : Own => ∀ k, a.v.ownBlock = some k → b.v.ownBlock ≠ some k) (fun a b hab k hb ha => hab k ha hb) h.ownApart ea eb (by omega) k hk e
    res := fun F hF => ⟨F.stable _ w w' (h.res F hF).1 hm fun k hk e => (h.res F hF).2.2.2 o hmem k e hk, fun k hk => Nat.lt_of_lt_of_le ((h.res F hF).2.1 k hk) hm.size, (h.res F hF).2.2.1, fun p hp k hk f => by
      rcases mem_set_cases hp with rfl | ⟨j, hj, hp⟩
      · rcases hat with hat | ⟨g, hat, hg⟩
        · exact (h.res F hF).2.2.2 o hmem k (hat ▸ hk) f
        · rw [hat] at hk
          simp only [Option.some.injEq] at hk
          subst hk
          have := (h.res F hF).2.1 _ f
          omega
      · exact (h.res F hF).2.2.2 p (List.mem_iff_getElem?.2 ⟨j, hp⟩) k hk f⟩
    resNew := h.resNew
    resApart := h.resApart }
theorem mod_grownBy {w w' : World} {row : Option Nat} (h : w.grownBy w' row) : Mod (fun k => row = some k) w w' := ⟨h.os, h.tape, h.output, h.size, fun k hk hn => h.block k hk fun e => hn e.symm⟩

/-- append(own, cells of a block of the call's own). -/
theorem SXl.append {e sz by_ m c n0 g : Nat} {z v0 : Value} {xs cells : List Value} (i j : Nat) [t : TSl P T e sz] [te : TEl P e sz by_ z] (hw : wantO ops f ⟨some dn, .call ⟨.builtin .append, #[x, y], #[T, T]⟩, ty, pos, af, gd⟩ = some true) (hd : Nat.blt dn n = true)
    (hx : evO f x = some v0) (hO : O[i]? = some ⟨v0, e, sz, n0, xs⟩) (hy : evO f y = some (.slice (some ⟨g, 0, none⟩) m c)) (hL : L[j]? = some ⟨g, cells, T'⟩) (hm : cells.length = m * sz) (h1 : cells.all (·.oneCell') = true)
    (h63 : n0 + m ≤ 9223372036854775807) (hby : (n0 + m) * by_ ≤ 140737488355328)
    (h : ∀ a c, SXl P n W R ops L (O.set i ⟨.slice a (n0 + m) c, e, sz, n0 + m, xs ++ cells⟩) E ((dn, .slice a (n0 + m) c) :: f) rest Q) : SXl P n W R ops L O E f (⟨some dn, .call ⟨.builtin .append, #[x, y], #[T, T]⟩, ty, pos, af, gd⟩ :: rest) Q := ⟨fun a w hf hl => by
  obtain ⟨i0, q1, q2, q3, q4, q5, q6⟩ := te.h
  have hmem : (⟨v0, e, sz, n0, xs⟩ : Own) ∈ O := List.mem_iff_getElem?.2 ⟨i, hO⟩
  have hb := (hl.blk _ (List.mem_iff_getElem?.2 ⟨j, hL⟩)).2
  have hnews : ∀ j u, cells[j]? = some u → w.cell? ((⟨g, 0, none⟩ : Addr).add j) = some u := fun j u hu => by
    rw [Addr.add_lit, Nat.zero_add]; exact blk_cell hb hu
  obtain ⟨v', w', hr, h2, h3, _, h5⟩ := run_append_own_at (P := P) w W.heap.size T ty e i0 z sz by_ t.h.1 q1 q2 q3 q4 q5 q6 v0 n0 xs (hl.own _ hmem).1 ⟨g, 0, none⟩ m c cells hm hnews (List.all_eq_true.1 h1) (by unfold maxLen; exact h63) hby hl.mod.size
  obtain ⟨a', c', rfl⟩ := own_form h2
  unfold wpList
  rw [if_pos (wanted_of hf hw)]
  refine .inl ?_
  unfold Oper.wp
  have hrun : (execOp a.eval ⟨some dn, .call ⟨.builtin .append, #[x, y], #[T, T]⟩, ty, pos, af, gd⟩).run P w = .ok (.value (.slice a' (n0 + m) c')) w' := by
    simp only [execOp, resolve, invoke, builtin, Sem.run_bind, Sem.run_pure, Result.andThen_ok, List.map_toArray, List.map_cons, List.map_nil, hf.eval hx, hf.eval hy, hr]
  rw [hrun, Oper.upon_value]
  exact (h a' c').run _ _ (hf.put hd _) (hl.ownTurned (o' := ⟨.slice a' (n0 + m) c', e, sz, n0 + m, xs ++ cells⟩) hO (mod_grownBy h3) h2 (h5.imp id fun h => ⟨_, h, Nat.le_refl _⟩))⟩
/-- What a slice literal's parts hold. -/
def evP (f : List (Nat × Value)) : List (Nat × Operand) → Option (List (Nat × Value))
  | [] => some []
  | (i, x) :: l => match evO f x, evP f l with
    | some v, some vs => some ((i, v) :: vs)
    | _, _ => none
theorem evP_map {a : Act} (hf : Fr n f a) : ∀ (l : List (Nat × Operand)) (vs : List (Nat × Value)), evP f l = some vs → l.map (fun p => (p.1, a.eval p.2)) = vs
  | [], vs, h => by simpa [evP] using h
  | (i, x) :: l, vs, h => by
    unfold evP at h
    cases hx : evO f x with
    | none => simp [hx] at h
    | some v =>
      cases hl : evP f l with
      | none => simp [hx, hl] at h
      | some us =>
        simp only [hx, hl, Option.some.injEq] at h
        subst h
        rw [List.map_cons, hf.eval hx, evP_map hf l us hl]
/-- A slice literal of scalars. -/
theorem SXl.lit {e m by_ : Nat} {z : Value} {parts : List (Nat × Operand)} {vals : List (Nat × Value)} {cells : List Value} [t : TSl P T e 1] [te : TEl P e 1 by_ z] (hw : wantO ops f ⟨some dn, .buildSlice T m parts.toArray, ty, pos, af, gd⟩ = some true) (hd : Nat.blt dn n = true)
    (hp : evP f parts = some vals) (hm : m ≤ 16777216) (hc : Instr.fill (fun i => some (i * 1, 1)) (Array.replicate (m * 1) z) vals = some cells.toArray) (hz : z.cells = #[z])
    (h : ∀ g, SXl P n W R ops (⟨g, cells, e⟩ :: L) O E ((dn, .slice (some ⟨g, 0, none⟩) m m) :: f) rest Q) : SXl P n W R ops L O E f (⟨some dn, .buildSlice T m parts.toArray, ty, pos, af, gd⟩ :: rest) Q :=
  SXl.stepn (V := fun g => .slice (some ⟨g, 0, none⟩) m m) (O' := fun _ => O) hw rfl hd (fun a w hf hl => by
    obtain ⟨i0, q1, q2, q3, q4, q5, q6⟩ := te.h
    refine ⟨w.heap.size, w.alloc (.cells cells.toArray e), ?_, hl.alloc cells e⟩
    have e1 := evP_map hf parts vals hp
    have e2 : (parts.toArray.map fun p => (p.1, a.eval p.2)).toList = vals := by simpa using e1
    have hm2 : ¬ 2 ^ 24 < m := by omega
    have e3 : (Array.range m).map (fun _ => z) = Array.replicate m z := by
      apply Array.ext_getElem?
      intro i
      simp [Array.getElem?_map, Array.getElem?_range, Array.getElem?_replicate]
    simp only [Nat.mul_one] at hc
    simp only [execOp, Instr.buildSlice, Sem.run_bind, run_underlying t.h.1, Result.andThen_ok, sizeOf, typeInfo, run_program, q1, Sem.run_pure, q3, Nat.mul_one]
    by_cases h0 : m = 0
    · subst h0
      have hc' : Instr.fill (fun i => some (i, 1)) #[] vals = some cells.toArray := by simpa using hc
      have e4 : Array.map (fun _ : Nat => (default : Value)) (Array.range 0) = #[] := by simp
      simp [newRow, q1, q2, q3, e1, e4, hc']
    · simp [newRow, zeroValue, typeInfo, q1, q2, hz, h0, hm2, Nat.mod_one, e1, e3, hc]) h
/-- A slice literal of one scalar; of none. -/
theorem SXl.lit1 {e by_ : Nat} {z v : Value} [t : TSl P T e 1] [te : TEl P e 1 by_ z] (hw : wantO ops f ⟨some dn, .buildSlice T 1 #[(0, x)], ty, pos, af, gd⟩ = some true) (hd : Nat.blt dn n = true)
    (hx : evO f x = some v) (hv : v.cells = #[v]) (hz : z.cells = #[z])
    (h : ∀ g, SXl P n W R ops (⟨g, [v], e⟩ :: L) O E ((dn, .slice (some ⟨g, 0, none⟩) 1 1) :: f) rest Q) : SXl P n W R ops L O E f (⟨some dn, .buildSlice T 1 #[(0, x)], ty, pos, af, gd⟩ :: rest) Q :=
  SXl.lit (parts := [(0, x)]) (vals := [(0, v)]) (cells := [v]) (z := z) hw hd (by simp [evP, hx]) (by decide) (by
    unfold Instr.fill
    simp [hv, Instr.fill, List.zipIdx]
    rw [hv]
    rfl) hz h
theorem SXl.lit0 {e by_ : Nat} {z : Value} [t : TSl P T e 1] [te : TEl P e 1 by_ z] (hw : wantO ops f ⟨some dn, .buildSlice T 0 #[], ty, pos, af, gd⟩ = some true) (hd : Nat.blt dn n = true) (hR : ∀ k, ¬ R.q k) (hz : z.cells = #[z])
    (h : ∀ g, SXl P n W R ops L (⟨.slice (some ⟨g, 0, none⟩) 0 0, e, 1, 0, []⟩ :: O) E ((dn, .slice (some ⟨g, 0, none⟩) 0 0) :: f) rest Q) : SXl P n W R ops L O E f (⟨some dn, .buildSlice T 0 #[], ty, pos, af, gd⟩ :: rest) Q :=
  SXl.lit (parts := []) (vals := []) (cells := []) (z := z) hw hd rfl (by decide) rfl hz fun g => ⟨fun a w hf hl => (h g).run a w hf (hl.toOwn (m := 0) (hR g) rfl (by unfold maxLen; omega))⟩
/-- A call that hands back new memory, told by one fact. -/
theorem SXl.calln1 {ξ : Type} {v : ξ → Value} {F1 : ξ → Res} {fn : FuncId} {ars : List Operand} {args : List Value} {aT : Array TypeId} [TFun P fn] (hw : wantO ops f ⟨some dn, .call ⟨.value (.func fn), ars.toArray, aT⟩, ty, pos, af, gd⟩ = some true) (hd : Nat.blt dn n = true) (ha : evL f ars = some args)
    (hc : ∀ w, Loc W R L O E w → Calls P fn args.toArray w (NewR ξ v F1 w))
    (h : ∀ x, SXl P n W R ops L O (F1 x :: E) ((dn, v x) :: f) rest Q) : SXl P n W R ops L O E f (⟨some dn, .call ⟨.value (.func fn), ars.toArray, aT⟩, ty, pos, af, gd⟩ :: rest) Q :=
  SXl.calln hw hd ha hc h
end
end Go.Proofs.Ytdohglcjjlmhhaa
namespace Go.Proofs.Ytdohglcjjlmhhaa
open Go.RowKit

def flatFs (P : Program) (rec : TypeId → Option (List Nat)) : List Field → Nat → Option (List Nat)
  | [], _ => some []
  | f :: fs, off => if f.name = "_" ∨ f.offset ≠ off then none else match rec f.type with
    | some ks => if P.cellsOf f.type = ks.length then (flatFs P rec fs (off + ks.length)).map (ks ++ ·) else none
    | none => none
def flatT (P : Program) : Nat → TypeId → Option (List Nat)
  | 0, _ => none
  | d + 1, T => match P.underlying T with
    | some (.int .i64) => some [0]
    | some .bool => some [1]
    | some .string => some [2]
    | some (.struct fs) => if P.stoodInHeld T then none else flatFs P (flatT P d) fs.toList 0
    | _ => none
section
variable {P : Program}
end
/-- A flat struct's type, with its cells' kinds. -/
class TEq (P : Program) (T : TypeId) (ks : outParam (List Nat)) : Prop where
  h : flatT P 10000 T = some ks
  g : P.eqGuardType P.depth T = false
  s : ∃ fs, P.underlying T = some (.struct fs)
section
variable {P : Program} {n : Nat} {W : World} {R : Rg W} {L : List Blk} {O : List Own} {E : List Res} {f : List (Nat × Value)}
variable {d : Option Nat} {x y : Operand} {ty T T' : TypeId} {pos : String} {af : Array Edge} {gd : Option (Nat × Bool)}
end
section
variable {P : Program} {n : Nat} {W : World} {R : Rg W} {L : List Blk} {O : List Own} {E : List Res} {f : List (Nat × Value)} {Q : Exit → Act → World → Prop} {ops : Array Oper} {rest : List Oper} {k : Nat}
variable {d : Option Nat} {c x y : Operand} {ty T T' : TypeId} {j fn : Nat} {ars : Array Operand} {aT : Array TypeId} {parts : Array (Nat × Operand)} {pos : String} {af : Array Edge} {gd : Option (Nat × Bool)}
/-! Which operation stands next. -/
theorem l_load (h : SXl P n W R ops L O E f (⟨d, .load T x, ty, pos, af, gd⟩ :: rest) Q) : SXl P n W R ops L O E f (⟨d, .load T x, ty, pos, af, gd⟩ :: rest) Q := h
theorem r_load (h : SXr P n W R ops L O E k f (⟨d, .load T x, ty, pos, af, gd⟩ :: rest) Q) : SXr P n W R ops L O E k f (⟨d, .load T x, ty, pos, af, gd⟩ :: rest) Q := h
theorem l_store (h : SXl P n W R ops L O E f (⟨d, .store T x y, ty, pos, af, gd⟩ :: rest) Q) : SXl P n W R ops L O E f (⟨d, .store T x y, ty, pos, af, gd⟩ :: rest) Q := h
theorem l_fieldAddr (h : SXl P n W R ops L O E f (⟨d, .fieldAddr T x j, ty, pos, af, gd⟩ :: rest) Q) : SXl P n W R ops L O E f (⟨d, .fieldAddr T x j, ty, pos, af, gd⟩ :: rest) Q := h
theorem r_fieldAddr (h : SXr P n W R ops L O E k f (⟨d, .fieldAddr T x j, ty, pos, af, gd⟩ :: rest) Q) : SXr P n W R ops L O E k f (⟨d, .fieldAddr T x j, ty, pos, af, gd⟩ :: rest) Q := h
theorem l_move (h : SXl P n W R ops L O E f (⟨d, .move x, ty, pos, af, gd⟩ :: rest) Q) : SXl P n W R ops L O E f (⟨d, .move x, ty, pos, af, gd⟩ :: rest) Q := h
theorem r_move (h : SXr P n W R ops L O E k f (⟨d, .move x, ty, pos, af, gd⟩ :: rest) Q) : SXr P n W R ops L O E k f (⟨d, .move x, ty, pos, af, gd⟩ :: rest) Q := h
theorem l_assign (h : SXl P n W R ops L O E f (⟨d, .assign x, ty, pos, af, gd⟩ :: rest) Q) : SXl P n W R ops L O E f (⟨d, .assign x, ty, pos, af, gd⟩ :: rest) Q := h
theorem r_assign (h : SXr P n W R ops L O E k f (⟨d, .assign x, ty, pos, af, gd⟩ :: rest) Q) : SXr P n W R ops L O E k f (⟨d, .assign x, ty, pos, af, gd⟩ :: rest) Q := h
theorem l_pick (h : SXl P n W R ops L O E f (⟨d, .pick c x y, ty, pos, af, gd⟩ :: rest) Q) : SXl P n W R ops L O E f (⟨d, .pick c x y, ty, pos, af, gd⟩ :: rest) Q := h
theorem l_extract (h : SXl P n W R ops L O E f (⟨d, .extract x j, ty, pos, af, gd⟩ :: rest) Q) : SXl P n W R ops L O E f (⟨d, .extract x j, ty, pos, af, gd⟩ :: rest) Q := h
theorem l_indexAddr (h : SXl P n W R ops L O E f (⟨d, .indexAddr T x y, ty, pos, af, gd⟩ :: rest) Q) : SXl P n W R ops L O E f (⟨d, .indexAddr T x y, ty, pos, af, gd⟩ :: rest) Q := h
theorem r_indexAddr (h : SXr P n W R ops L O E k f (⟨d, .indexAddr T x y, ty, pos, af, gd⟩ :: rest) Q) : SXr P n W R ops L O E k f (⟨d, .indexAddr T x y, ty, pos, af, gd⟩ :: rest) Q := h
theorem l_alloc (h : SXl P n W R ops L O E f (⟨d, .alloc T, ty, pos, af, gd⟩ :: rest) Q) : SXl P n W R ops L O E f (⟨d, .alloc T, ty, pos, af, gd⟩ :: rest) Q := h
theorem l_box (h : SXl P n W R ops L O E f (⟨d, .box T x, ty, pos, af, gd⟩ :: rest) Q) : SXl P n W R ops L O E f (⟨d, .box T x, ty, pos, af, gd⟩ :: rest) Q := h
theorem l_buildSlice (h : SXl P n W R ops L O E f (⟨d, .buildSlice T j parts, ty, pos, af, gd⟩ :: rest) Q) : SXl P n W R ops L O E f (⟨d, .buildSlice T j parts, ty, pos, af, gd⟩ :: rest) Q := h
theorem l_call (h : SXl P n W R ops L O E f (⟨d, .call ⟨.value (.func fn), ars, aT⟩, ty, pos, af, gd⟩ :: rest) Q) : SXl P n W R ops L O E f (⟨d, .call ⟨.value (.func fn), ars, aT⟩, ty, pos, af, gd⟩ :: rest) Q := h
theorem r_call (h : SXr P n W R ops L O E k f (⟨d, .call ⟨.value (.func fn), ars, aT⟩, ty, pos, af, gd⟩ :: rest) Q) : SXr P n W R ops L O E k f (⟨d, .call ⟨.value (.func fn), ars, aT⟩, ty, pos, af, gd⟩ :: rest) Q := h
theorem l_len (h : SXl P n W R ops L O E f (⟨d, .call ⟨.builtin .len, ars, aT⟩, ty, pos, af, gd⟩ :: rest) Q) : SXl P n W R ops L O E f (⟨d, .call ⟨.builtin .len, ars, aT⟩, ty, pos, af, gd⟩ :: rest) Q := h
theorem l_append (h : SXl P n W R ops L O E f (⟨d, .call ⟨.builtin .append, ars, aT⟩, ty, pos, af, gd⟩ :: rest) Q) : SXl P n W R ops L O E f (⟨d, .call ⟨.builtin .append, ars, aT⟩, ty, pos, af, gd⟩ :: rest) Q := h
theorem l_not (h : SXl P n W R ops L O E f (⟨d, .unOp .not T x, ty, pos, af, gd⟩ :: rest) Q) : SXl P n W R ops L O E f (⟨d, .unOp .not T x, ty, pos, af, gd⟩ :: rest) Q := h
theorem l_add (h : SXl P n W R ops L O E f (⟨d, .binOp .add T x y T', ty, pos, af, gd⟩ :: rest) Q) : SXl P n W R ops L O E f (⟨d, .binOp .add T x y T', ty, pos, af, gd⟩ :: rest) Q := h
theorem r_add (h : SXr P n W R ops L O E k f (⟨d, .binOp .add T x y T', ty, pos, af, gd⟩ :: rest) Q) : SXr P n W R ops L O E k f (⟨d, .binOp .add T x y T', ty, pos, af, gd⟩ :: rest) Q := h
theorem l_sub (h : SXl P n W R ops L O E f (⟨d, .binOp .sub T x y T', ty, pos, af, gd⟩ :: rest) Q) : SXl P n W R ops L O E f (⟨d, .binOp .sub T x y T', ty, pos, af, gd⟩ :: rest) Q := h
theorem r_sub (h : SXr P n W R ops L O E k f (⟨d, .binOp .sub T x y T', ty, pos, af, gd⟩ :: rest) Q) : SXr P n W R ops L O E k f (⟨d, .binOp .sub T x y T', ty, pos, af, gd⟩ :: rest) Q := h
theorem l_mul (h : SXl P n W R ops L O E f (⟨d, .binOp .mul T x y T', ty, pos, af, gd⟩ :: rest) Q) : SXl P n W R ops L O E f (⟨d, .binOp .mul T x y T', ty, pos, af, gd⟩ :: rest) Q := h
theorem r_mul (h : SXr P n W R ops L O E k f (⟨d, .binOp .mul T x y T', ty, pos, af, gd⟩ :: rest) Q) : SXr P n W R ops L O E k f (⟨d, .binOp .mul T x y T', ty, pos, af, gd⟩ :: rest) Q := h
theorem l_lss (h : SXl P n W R ops L O E f (⟨d, .binOp .lss T x y T', ty, pos, af, gd⟩ :: rest) Q) : SXl P n W R ops L O E f (⟨d, .binOp .lss T x y T', ty, pos, af, gd⟩ :: rest) Q := h
theorem r_lss (h : SXr P n W R ops L O E k f (⟨d, .binOp .lss T x y T', ty, pos, af, gd⟩ :: rest) Q) : SXr P n W R ops L O E k f (⟨d, .binOp .lss T x y T', ty, pos, af, gd⟩ :: rest) Q := h
theorem l_leq (h : SXl P n W R ops L O E f (⟨d, .binOp .leq T x y T', ty, pos, af, gd⟩ :: rest) Q) : SXl P n W R ops L O E f (⟨d, .binOp .leq T x y T', ty, pos, af, gd⟩ :: rest) Q := h
theorem l_gtr (h : SXl P n W R ops L O E f (⟨d, .binOp .gtr T x y T', ty, pos, af, gd⟩ :: rest) Q) : SXl P n W R ops L O E f (⟨d, .binOp .gtr T x y T', ty, pos, af, gd⟩ :: rest) Q := h
theorem l_geq (h : SXl P n W R ops L O E f (⟨d, .binOp .geq T x y T', ty, pos, af, gd⟩ :: rest) Q) : SXl P n W R ops L O E f (⟨d, .binOp .geq T x y T', ty, pos, af, gd⟩ :: rest) Q := h
theorem l_eql (h : SXl P n W R ops L O E f (⟨d, .binOp .eql T x y T', ty, pos, af, gd⟩ :: rest) Q) : SXl P n W R ops L O E f (⟨d, .binOp .eql T x y T', ty, pos, af, gd⟩ :: rest) Q := h
theorem l_neq (h : SXl P n W R ops L O E f (⟨d, .binOp .neq T x y T', ty, pos, af, gd⟩ :: rest) Q) : SXl P n W R ops L O E f (⟨d, .binOp .neq T x y T', ty, pos, af, gd⟩ :: rest) Q := h
theorem r_neq (h : SXr P n W R ops L O E k f (⟨d, .binOp .neq T x y T', ty, pos, af, gd⟩ :: rest) Q) : SXr P n W R ops L O E k f (⟨d, .binOp .neq T x y T', ty, pos, af, gd⟩ :: rest) Q := h
end

/-! ### Drawn regions with calls that make memory -/
/-- As SXr; x: what such calls gave, by their number; U: what is told of it. -/
structure SXu (P : Program) (n : Nat) (W : World) (R : Rg W) (ops : Array Oper) (L : List Blk) (O : List Own) (E : List Res) (k : Nat) (U : List (Nat × ((Nat → Value) → World → Value → Prop))) (f : (Nat → Value) → List (Nat × Value)) (l : List Oper) (Q : Exit → Act → World → Prop) : Prop where
  run : ∀ F : (Nat → Value) → Act, (∀ x, Fr n (f x) (F x)) → RS P ops (Mod fun _ => False) (Loc W R L O E) Q k l F U
section
variable {P : Program} {n : Nat} {W : World} {R : Rg W} {L : List Blk} {O : List Own} {E : List Res} {U : List (Nat × ((Nat → Value) → World → Value → Prop))} {f : (Nat → Value) → List (Nat × Value)} {f0 : List (Nat × Value)} {Q : Exit → Act → World → Prop} {ops : Array Oper} {rest : List Oper} {k : Nat}
theorem SXu.nil (h : ∀ x, SQ n W R L O E (f x) .normal Q) : SXu P n W R ops L O E k U f [] Q := ⟨fun F hF => RS.done fun x w hS _ => (h x).run (F x) w (hF x) hS⟩
theorem SXu.v {o : Oper} {v : Value} {d : Nat} (hr : ∀ x, OpW P n W R L O E (f x) o v) (hdst : o.dst = some d) (hw : ∀ x, wantO ops (f x) o = some true) (hd : Nat.blt d n = true) (h : SXu P n W R ops L O E (k + 1) U (fun x => (d, v) :: f x) rest Q) : SXu P n W R ops L O E k U f (o :: rest) Q := ⟨fun F hF =>
  RS.val [] (fun _ => v) rfl (fun _ _ _ => rfl) (fun x => wanted_of (hF x) (hw x)) (fun x w hS _ => wp_never ((hr x).run _ w (hF x) hS) fun _ _ ⟨h1, h2⟩ => ⟨h1, hS.keep h2, h2⟩) (by rw [hdst]; exact h.run _ fun x => (hF x).put hd v)⟩
theorem SXu.no {o : Oper} {d : Nat} (hw : ∀ x, wantO ops (f x) o = some false) (hdst : o.dst = some d) (hd : Nat.blt d n = true) (h : SXu P n W R ops L O E (k + 1) U (fun x => (d, undef) :: f x) rest Q) : SXu P n W R ops L O E k U f (o :: rest) Q := ⟨fun F hF =>
  RS.skip (fun x => wanted_of (hF x) (hw x)) (by rw [hdst]; exact h.run _ fun x => (hF x).put hd undef)⟩
variable {d : Nat} {fn : FuncId} {ars : List Operand} {aT : Array TypeId} {ty : TypeId} {pos : String} {af : Array Edge} {gd : Option (Nat × Bool)}
/-- A call that makes memory. -/
theorem SXu.new {args : List Value} [TFun P fn] (V : World → Value → Prop) (hV : ∀ w w' v, V w v → Mod (fun _ => False) w w' → V w' v) (hw : ∀ x, wantO ops (f x) ⟨some d, .call ⟨.value (.func fn), ars.toArray, aT⟩, ty, pos, af, gd⟩ = some true) (hd : Nat.blt d n = true) (ha : ∀ x, evL (f x) ars = some args)
    (hc : ∀ w, Loc W R L O E w → Calls P fn args.toArray w fun e w' => ∃ v, e = .returned v ∧ V w' v ∧ Mod (fun _ => False) w w')
    (h : SXu P n W R ops L O E (k + 1) ((k, fun _ => V) :: U) (fun x => (d, x k) :: f x) rest Q) : SXu P n W R ops L O E k U f (⟨some d, .call ⟨.value (.func fn), ars.toArray, aT⟩, ty, pos, af, gd⟩ :: rest) Q := ⟨fun F hF =>
  RS.new [] V id (fun _ _ _ => rfl) rfl hV (fun x => wanted_of (hF x) (hw x)) (fun x w hS _ => by
    unfold Oper.wp
    rw [run_callop (hF x) (ha x) w _ _, Oper.upon_enter]
    refine (hc w hS).mono ?_
    rintro e w' ⟨v, rfl, h1, h2⟩
    exact ⟨v, rfl, h1, hS.keep h2, h2⟩) (h.run _ fun x => (hF x).put hd _)⟩
/-- A call that is handed such memory. -/
theorem SXu.use {v : Value} {args : (Nat → Value) → List Value} [TFun P fn] (us : List Nat) (hus : (us.all fun i => (reach ops ops.size k).contains i) = true) (hw : ∀ x, wantO ops (f x) ⟨some d, .call ⟨.value (.func fn), ars.toArray, aT⟩, ty, pos, af, gd⟩ = some true) (hd : Nat.blt d n = true) (ha : ∀ x, evL (f x) ars = some (args x))
    (hc : ∀ x w, Loc W R L O E w → (∀ u ∈ U, u.1 ∈ us → u.2 x w (x u.1)) → Calls P fn (args x).toArray w fun e w' => e = .returned v ∧ Mod (fun _ => False) w w')
    (h : SXu P n W R ops L O E (k + 1) U (fun x => (d, v) :: f x) rest Q) : SXu P n W R ops L O E k U f (⟨some d, .call ⟨.value (.func fn), ars.toArray, aT⟩, ty, pos, af, gd⟩ :: rest) Q := ⟨fun F hF =>
  RS.val us (fun _ => v) hus (fun _ _ _ => rfl) (fun x => wanted_of (hF x) (hw x)) (fun x w hS hK => by
    unfold Oper.wp
    rw [run_callop (hF x) (ha x) w _ _, Oper.upon_enter]
    refine (hc x w hS hK).mono ?_
    rintro e w' ⟨rfl, h2⟩
    exact ⟨rfl, hS.keep h2, h2⟩) (h.run _ fun x => (hF x).put hd _)⟩
end
end Go.Proofs.Ytdohglcjjlmhhaa
namespace Go.Proofs.Ytdohglcjjlmhhaa
open Go.RowKit
theorem SQ.bodyCell {P : Program} {n : Nat} {W : World} {R : Rg W} {L : List Blk} {O : List Own} {E : List Res} {f : List (Nat × Value)} {fn : Func} {R' : Ending → World → Prop} {t : Tmp} {T T' : TypeId} {m g : Nat} {cells : List Value} [tr : TRow P T m] (i : Nat) (hr : fn.results = #[.cell t T]) (ht : look f t = some (.pointer (some ⟨g, 0, none⟩))) (hi : L[i]? = some ⟨g, cells, T'⟩) (hm : cells.length = m) (h : ∀ w, Loc W R L O E w → R' (.returned (.agg cells.toArray)) w) : SQ n W R L O E f .ret (bodyPost P fn R') :=
  ⟨fun a w hf hl => ⟨hf.defers, .agg cells.toArray, by
    obtain ⟨⟨d, h1, h2⟩, h3⟩ := tr.h
    have hb := (hl.blk _ (List.mem_iff_getElem?.2 ⟨i, hi⟩)).2
    obtain ⟨q1, q2⟩ := rowOf_range (w := w) (b := g) (o := 0) (n := m) (by simp [hasRow, hb, hm])
    have e2 : rowOf w g 0 m = cells.toArray := by
      unfold rowOf; rw [hb]; simp [← hm]
    rw [e2] at q1
    have e := run_loadVar_mid (P := P) w g 0 T _ d q1 h1 h2 (by rw [h3]; simp [hm])
    have hx : a.tmps[t]? = some (.pointer (some ⟨g, 0, none⟩)) := hf.at_ t _ ht
    simp [results, hr, hx, asAddr, e], h w hl⟩⟩
/-- A field of one cell, of a struct that is no variable. -/
class TFv (P : Program) (T j : Nat) (off : outParam Nat) : Prop where
  h : ∃ fs f d, P.underlying T = some (.struct fs) ∧ fs[j]? = some f ∧ f.offset = off ∧ P.underlying f.type = some d ∧ d.isRow = false
theorem OpW.field {P : Program} {n : Nat} {W : World} {R : Rg W} {L : List Blk} {O : List Own} {E : List Res} {f : List (Nat × Value)} {d : Option Tmp} {T j : Nat} {x : Operand} {ty : TypeId} {pos : String} {af : Array Edge} {gd : Option (Nat × Bool)} {off : Nat} {cs : Array Value} {v : Value} [t : TFv P T j off] (hx : evO f x = some (.agg cs)) (hv : cs[off]? = some v) : OpW P n W R L O E f ⟨d, .field T x j, ty, pos, af, gd⟩ v :=
  OpW.of (fun a w hf _ => by
    obtain ⟨fs, fl, d, h1, h2, h3, h4, h5⟩ := t.h
    have h6 : (isAgg fl.type).run P w = .ok false w := by
      cases d <;> simp_all [isAgg, run_underlying h4, TypeDesc.isRow]
    subst h3
    simp [execOp, hf.eval hx, Instr.field, run_underlying h1, h2, part, asAgg, h6, hv])

section
variable {P : Program} {n : Nat} {W : World} {R : Rg W} {L : List Blk} {O : List Own} {E : List Res} {f : List (Nat × Value)} {Q : Exit → Act → World → Prop} {ops : Array Oper} {rest : List Oper} {k : Nat}
variable {d : Option Nat} {c x y : Operand} {ty T T' : TypeId} {j fn : Nat} {ars : Array Operand} {aT : Array TypeId} {parts : Array (Nat × Operand)} {pos : String} {af : Array Edge} {gd : Option (Nat × Bool)}
/-! Which operation stands next. -/
end

section
variable {P : Program} {n : Nat} {W : World} {R : Rg W} {L : List Blk} {O : List Own} {E : List Res} {f : List (Nat × Value)} {Q : Exit → Act → World → Prop} {ops : Array Oper} {rest : List Oper}
variable {d : Option Nat} {dn : Nat} {x y : Operand} {ty T T' : TypeId} {pos : String} {af : Array Edge} {gd : Option (Nat × Bool)}
/-- A slice literal of structs. -/
theorem SXl.litRow {e m sz by_ : Nat} {z : Value} {parts : List (Nat × Operand)} {vals : List (Nat × Value)} {cells : List Value} [t : TSl P T e sz] [te : TEl P e sz by_ z] (hw : wantO ops f ⟨some dn, .buildSlice T m parts.toArray, ty, pos, af, gd⟩ = some true) (hd : Nat.blt dn n = true)
    (hp : evP f parts = some vals) (hm : m * sz ≤ 16777216) (hms : m * sz ≠ 0) (hc : Instr.fill (fun i => some (i * sz, sz)) ((Array.range (m * sz)).map (fun i => z.cells[i % z.cells.size]!)) vals = some cells.toArray)
    (h : ∀ g, SXl P n W R ops (⟨g, cells, e⟩ :: L) O E ((dn, .slice (some ⟨g, 0, none⟩) m m) :: f) rest Q) : SXl P n W R ops L O E f (⟨some dn, .buildSlice T m parts.toArray, ty, pos, af, gd⟩ :: rest) Q :=
  SXl.stepn (V := fun g => .slice (some ⟨g, 0, none⟩) m m) (O' := fun _ => O) hw rfl hd (fun a w hf hl => by
    obtain ⟨i0, q1, q2, q3, q4, q5, q6⟩ := te.h
    refine ⟨w.heap.size, w.alloc (.cells cells.toArray e), ?_, hl.alloc cells e⟩
    have e1 := evP_map hf parts vals hp
    have e2 : (parts.toArray.map fun p => (p.1, a.eval p.2)).toList = vals := by simpa using e1
    have hm2 : ¬ 2 ^ 24 < m * sz := by omega
    simp only [execOp, Instr.buildSlice, Sem.run_bind, run_underlying t.h.1, Result.andThen_ok, sizeOf, typeInfo, run_program, q1, Sem.run_pure, q3]
    simp [newRow, zeroValue, typeInfo, q1, q2, hms, hm2, e1, hc]
    done) h
end

end Go.Proofs.Ytdohglcjjlmhhaa
namespace Go.Proofs.Ytdohglcjjlmhhaa
open Go.RowKit

class TStr (P : Program) (T : TypeId) : Prop where
  h : P.underlying T = some .string
class TPtr (P : Program) (T : TypeId) : Prop where
  h : ∃ e, P.underlying T = some (.pointer e)
section
variable {P : Program} {n : Nat} {W : World} {R : Rg W} {L : List Blk} {O : List Own} {E : List Res} {f : List (Nat × Value)} {Q : Exit → Act → World → Prop} {ops : Array Oper} {rest : List Oper} {k : Nat}
variable {d : Option Nat} {c x y z : Operand} {ty T T' : TypeId} {j fn : Nat} {ars : Array Operand} {aT : Array TypeId} {pos : String} {af : Array Edge} {gd : Option (Nat × Bool)}
variable {a b : List UInt8}

/-- A struct made of its fields. -/
theorem OpW.build {parts : List (Nat × Operand)} {vals : List (Nat × Value)} {cells : List Value} (hp : evP f parts = some vals) (hb : P.built T vals = some cells.toArray) : OpW P n W R L O E f ⟨d, .build T parts.toArray, ty, pos, af, gd⟩ (.agg cells.toArray) :=
  OpW.of (fun q w hf _ => by
    have e1 := evP_map hf parts vals hp
    have e2 : (parts.toArray.map fun p => (p.1, q.eval p.2)).toList = vals := by simpa using e1
    have := run_build (P := P) w T (parts.toArray.map fun p => (p.1, q.eval p.2)) cells.toArray (by rw [e2]; exact hb)
    simp at this
    simp [execOp, this])
theorem l_build {parts : Array (Nat × Operand)} (h : SXl P n W R ops L O E f (⟨d, .build T parts, ty, pos, af, gd⟩ :: rest) Q) : SXl P n W R ops L O E f (⟨d, .build T parts, ty, pos, af, gd⟩ :: rest) Q := h
theorem OpW.nilCheck {q : Addr} (hx : evO f x = some (.pointer (some q))) : OpW P n W R L O E f ⟨d, .nilCheck x, ty, pos, af, gd⟩ (.pointer (some q)) :=
  OpW.of (fun a w hf _ => by simp [execOp, hf.eval hx])
theorem l_nilCheck (h : SXl P n W R ops L O E f (⟨d, .nilCheck x, ty, pos, af, gd⟩ :: rest) Q) : SXl P n W R ops L O E f (⟨d, .nilCheck x, ty, pos, af, gd⟩ :: rest) Q := h
theorem r_nilCheck (h : SXr P n W R ops L O E k f (⟨d, .nilCheck x, ty, pos, af, gd⟩ :: rest) Q) : SXr P n W R ops L O E k f (⟨d, .nilCheck x, ty, pos, af, gd⟩ :: rest) Q := h
theorem SQ.tail (h : SXl P n W R ops L O E f rest Q) : SQ n W R L O E f .normal (fun _ a w => wpList P ops Q rest a w) := ⟨fun a w hf hl => h.run a w hf hl⟩
end
end Go.Proofs.Ytdohglcjjlmhhaa
namespace Go.Proofs.Ytdohglcjjlmhhaa

instance : TOne Try.prog 2 := ⟨⟨_, Try.underlying2, rfl⟩, by kernel_rfl⟩
instance : TEl Try.prog 2 1 8 (.int .i64 0) := ⟨by kernel_rfl, rfl, by decide⟩
instance : TZero Try.prog 2 [.int .i64 0] := ⟨.int .i64 0, by kernel_rfl, rfl⟩
instance : TOne Try.prog 3 := ⟨⟨_, Try.underlying3, rfl⟩, by kernel_rfl⟩
instance : TEl Try.prog 3 1 8 (.int .i64 0) := ⟨by kernel_rfl, rfl, by decide⟩
instance : TZero Try.prog 3 [.int .i64 0] := ⟨.int .i64 0, by kernel_rfl, rfl⟩
instance : TOne Try.prog 4 := ⟨⟨_, Try.underlying4, rfl⟩, by kernel_rfl⟩
instance : TBool Try.prog 4 := ⟨Try.underlying4⟩
instance : TEl Try.prog 4 1 1 (.bool false) := ⟨by kernel_rfl, rfl, by decide⟩
instance : TZero Try.prog 4 [.bool false] := ⟨.bool false, by kernel_rfl, rfl⟩
instance : TOne Try.prog 5 := ⟨⟨_, Try.underlying5, rfl⟩, by kernel_rfl⟩
instance : TEl Try.prog 5 1 1 (.int .u8 0) := ⟨by kernel_rfl, rfl, by decide⟩
instance : TZero Try.prog 5 [.int .u8 0] := ⟨.int .u8 0, by kernel_rfl, rfl⟩
instance : TOne Try.prog 6 := ⟨⟨_, Try.underlying6, rfl⟩, by kernel_rfl⟩
instance : TEl Try.prog 6 1 1 (.int .u8 0) := ⟨by kernel_rfl, rfl, by decide⟩
instance : TZero Try.prog 6 [.int .u8 0] := ⟨.int .u8 0, by kernel_rfl, rfl⟩
instance : TRow Try.prog 7 4 := ⟨⟨_, Try.underlying7, rfl⟩, by kernel_rfl⟩
instance : TFld Try.prog 7 0 0 := ⟨_, _, 0, Try.underlying7, rfl, rfl, by kernel_rfl⟩
instance : TFld Try.prog 7 1 1 := ⟨_, _, 0, Try.underlying7, rfl, rfl, by kernel_rfl⟩
instance : TFld Try.prog 7 2 2 := ⟨_, _, 0, Try.underlying7, rfl, rfl, by kernel_rfl⟩
instance : TFld Try.prog 7 3 3 := ⟨_, _, 0, Try.underlying7, rfl, rfl, by kernel_rfl⟩
instance : TEl Try.prog 7 4 24 (.agg #[.int .i64 0, .int .i64 0, .bool false, .int .u8 0]) := ⟨by kernel_rfl, rfl, by decide⟩
instance : TZero Try.prog 7 [.int .i64 0, .int .i64 0, .bool false, .int .u8 0] := ⟨.agg #[.int .i64 0, .int .i64 0, .bool false, .int .u8 0], by kernel_rfl, rfl⟩
instance : TRow Try.prog 8 4 := ⟨⟨_, Try.underlying8, rfl⟩, by kernel_rfl⟩
instance : TFld Try.prog 8 0 0 := ⟨_, _, 0, Try.underlying8, rfl, rfl, by kernel_rfl⟩
instance : TFld Try.prog 8 1 1 := ⟨_, _, 0, Try.underlying8, rfl, rfl, by kernel_rfl⟩
instance : TFld Try.prog 8 2 2 := ⟨_, _, 0, Try.underlying8, rfl, rfl, by kernel_rfl⟩
instance : TFld Try.prog 8 3 3 := ⟨_, _, 0, Try.underlying8, rfl, rfl, by kernel_rfl⟩
instance : TEl Try.prog 8 4 24 (.agg #[.int .i64 0, .int .i64 0, .bool false, .int .u8 0]) := ⟨by kernel_rfl, rfl, by decide⟩
instance : TZero Try.prog 8 [.int .i64 0, .int .i64 0, .bool false, .int .u8 0] := ⟨.agg #[.int .i64 0, .int .i64 0, .bool false, .int .u8 0], by kernel_rfl, rfl⟩
instance : TOne Try.prog 9 := ⟨⟨_, Try.underlying9, rfl⟩, by kernel_rfl⟩
instance : TStr Try.prog 9 := ⟨Try.underlying9⟩
instance : TEl Try.prog 9 1 16 (.string ⟨#[]⟩) := ⟨by kernel_rfl, rfl, by decide⟩
instance : TZero Try.prog 9 [.string ⟨#[]⟩] := ⟨.string ⟨#[]⟩, by kernel_rfl, rfl⟩
instance : TOne Try.prog 10 := ⟨⟨_, Try.underlying10, rfl⟩, by kernel_rfl⟩
instance : TStr Try.prog 10 := ⟨Try.underlying10⟩
instance : TEl Try.prog 10 1 16 (.string ⟨#[]⟩) := ⟨by kernel_rfl, rfl, by decide⟩
instance : TZero Try.prog 10 [.string ⟨#[]⟩] := ⟨.string ⟨#[]⟩, by kernel_rfl, rfl⟩
instance : TOne Try.prog 11 := ⟨⟨_, Try.underlying11, rfl⟩, by kernel_rfl⟩
instance : TStr Try.prog 11 := ⟨Try.underlying11⟩
instance : TEl Try.prog 11 1 16 (.string ⟨#[]⟩) := ⟨by kernel_rfl, rfl, by decide⟩
instance : TZero Try.prog 11 [.string ⟨#[]⟩] := ⟨.string ⟨#[]⟩, by kernel_rfl, rfl⟩
instance : TOne Try.prog 12 := ⟨⟨_, Try.underlying12, rfl⟩, by kernel_rfl⟩
instance : TEl Try.prog 12 1 8 (.int .u64 0) := ⟨by kernel_rfl, rfl, by decide⟩
instance : TZero Try.prog 12 [.int .u64 0] := ⟨.int .u64 0, by kernel_rfl, rfl⟩
instance : TRow Try.prog 13 2 := ⟨⟨_, Try.underlying13, rfl⟩, by kernel_rfl⟩
instance : TFld Try.prog 13 0 0 := ⟨_, _, 0, Try.underlying13, rfl, rfl, by kernel_rfl⟩
instance : TFld Try.prog 13 1 1 := ⟨_, _, 0, Try.underlying13, rfl, rfl, by kernel_rfl⟩
instance : TEl Try.prog 13 2 24 (.agg #[.string ⟨#[]⟩, .int .u64 0]) := ⟨by kernel_rfl, rfl, by decide⟩
instance : TZero Try.prog 13 [.string ⟨#[]⟩, .int .u64 0] := ⟨.agg #[.string ⟨#[]⟩, .int .u64 0], by kernel_rfl, rfl⟩
instance : TRow Try.prog 14 2 := ⟨⟨_, Try.underlying14, rfl⟩, by kernel_rfl⟩
instance : TFld Try.prog 14 0 0 := ⟨_, _, 0, Try.underlying14, rfl, rfl, by kernel_rfl⟩
instance : TFld Try.prog 14 1 1 := ⟨_, _, 0, Try.underlying14, rfl, rfl, by kernel_rfl⟩
instance : TEl Try.prog 14 2 24 (.agg #[.string ⟨#[]⟩, .int .u64 0]) := ⟨by kernel_rfl, rfl, by decide⟩
instance : TZero Try.prog 14 [.string ⟨#[]⟩, .int .u64 0] := ⟨.agg #[.string ⟨#[]⟩, .int .u64 0], by kernel_rfl, rfl⟩
instance : TOne Try.prog 15 := ⟨⟨_, Try.underlying15, rfl⟩, by kernel_rfl⟩
instance : TPtr Try.prog 15 := ⟨⟨_, Try.underlying15⟩⟩
instance : TEl Try.prog 15 1 8 (.pointer none) := ⟨by kernel_rfl, rfl, by decide⟩
instance : TZero Try.prog 15 [.pointer none] := ⟨.pointer none, by kernel_rfl, rfl⟩
instance : TOne Try.prog 16 := ⟨⟨_, Try.underlying16, rfl⟩, by kernel_rfl⟩
instance : TPtr Try.prog 16 := ⟨⟨_, Try.underlying16⟩⟩
instance : TEl Try.prog 16 1 8 (.pointer none) := ⟨by kernel_rfl, rfl, by decide⟩
instance : TZero Try.prog 16 [.pointer none] := ⟨.pointer none, by kernel_rfl, rfl⟩
instance : TOne Try.prog 17 := ⟨⟨_, Try.underlying17, rfl⟩, by kernel_rfl⟩
instance : TPtr Try.prog 17 := ⟨⟨_, Try.underlying17⟩⟩
instance : TEl Try.prog 17 1 8 (.pointer none) := ⟨by kernel_rfl, rfl, by decide⟩
instance : TZero Try.prog 17 [.pointer none] := ⟨.pointer none, by kernel_rfl, rfl⟩
instance : TRow Try.prog 18 1 := ⟨⟨_, Try.underlying18, rfl⟩, by kernel_rfl⟩
instance : TFld Try.prog 18 0 0 := ⟨_, _, 0, Try.underlying18, rfl, rfl, by kernel_rfl⟩
instance : TEl Try.prog 18 1 8 (.agg #[.pointer none]) := ⟨by kernel_rfl, rfl, by decide⟩
instance : TZero Try.prog 18 [.pointer none] := ⟨.agg #[.pointer none], by kernel_rfl, rfl⟩
instance : TRow Try.prog 19 1 := ⟨⟨_, Try.underlying19, rfl⟩, by kernel_rfl⟩
instance : TFld Try.prog 19 0 0 := ⟨_, _, 0, Try.underlying19, rfl, rfl, by kernel_rfl⟩
instance : TEl Try.prog 19 1 8 (.agg #[.pointer none]) := ⟨by kernel_rfl, rfl, by decide⟩
instance : TZero Try.prog 19 [.pointer none] := ⟨.agg #[.pointer none], by kernel_rfl, rfl⟩
instance : TOne Try.prog 21 := ⟨⟨_, Try.underlying21, rfl⟩, by kernel_rfl⟩
instance : TEl Try.prog 21 1 4 (.int .i32 0) := ⟨by kernel_rfl, rfl, by decide⟩
instance : TZero Try.prog 21 [.int .i32 0] := ⟨.int .i32 0, by kernel_rfl, rfl⟩
instance : TOne Try.prog 22 := ⟨⟨_, Try.underlying22, rfl⟩, by kernel_rfl⟩
instance : TSl Try.prog 22 5 1 := ⟨Try.underlying22, by kernel_rfl⟩
instance : TEl Try.prog 22 1 24 (.slice none 0 0) := ⟨by kernel_rfl, rfl, by decide⟩
instance : TZero Try.prog 22 [.slice none 0 0] := ⟨.slice none 0 0, by kernel_rfl, rfl⟩
instance : TOne Try.prog 24 := ⟨⟨_, Try.underlying24, rfl⟩, by kernel_rfl⟩
instance : TSl Try.prog 24 36 9 := ⟨Try.underlying24, by kernel_rfl⟩
instance : TEl Try.prog 24 1 24 (.slice none 0 0) := ⟨by kernel_rfl, rfl, by decide⟩
instance : TZero Try.prog 24 [.slice none 0 0] := ⟨.slice none 0 0, by kernel_rfl, rfl⟩
instance : TOne Try.prog 27 := ⟨⟨_, Try.underlying27, rfl⟩, by kernel_rfl⟩
instance : TSl Try.prog 27 29 1 := ⟨Try.underlying27, by kernel_rfl⟩
instance : TEl Try.prog 27 1 24 (.slice none 0 0) := ⟨by kernel_rfl, rfl, by decide⟩
instance : TZero Try.prog 27 [.slice none 0 0] := ⟨.slice none 0 0, by kernel_rfl, rfl⟩
instance : TOne Try.prog 29 := ⟨⟨_, Try.underlying29, rfl⟩, by kernel_rfl⟩
instance : TSl Try.prog 29 3 1 := ⟨Try.underlying29, by kernel_rfl⟩
instance : TEl Try.prog 29 1 24 (.slice none 0 0) := ⟨by kernel_rfl, rfl, by decide⟩
instance : TZero Try.prog 29 [.slice none 0 0] := ⟨.slice none 0 0, by kernel_rfl, rfl⟩
instance : TRow Try.prog 35 9 := ⟨⟨_, Try.underlying35, rfl⟩, by kernel_rfl⟩
instance : TFld Try.prog 35 0 0 := ⟨_, _, 0, Try.underlying35, rfl, rfl, by kernel_rfl⟩
instance : TFld Try.prog 35 1 1 := ⟨_, _, 0, Try.underlying35, rfl, rfl, by kernel_rfl⟩
instance : TFld Try.prog 35 2 2 := ⟨_, _, 0, Try.underlying35, rfl, rfl, by kernel_rfl⟩
instance : TFld Try.prog 35 3 3 := ⟨_, _, 0, Try.underlying35, rfl, rfl, by kernel_rfl⟩
instance : TFld Try.prog 35 4 4 := ⟨_, _, 0, Try.underlying35, rfl, rfl, by kernel_rfl⟩
instance : TFld Try.prog 35 5 5 := ⟨_, _, 0, Try.underlying35, rfl, rfl, by kernel_rfl⟩
instance : TFld Try.prog 35 6 6 := ⟨_, _, 0, Try.underlying35, rfl, rfl, by kernel_rfl⟩
instance : TFld Try.prog 35 7 7 := ⟨_, _, 0, Try.underlying35, rfl, rfl, by kernel_rfl⟩
instance : TFld Try.prog 35 8 8 := ⟨_, _, 0, Try.underlying35, rfl, rfl, by kernel_rfl⟩
instance : TEq Try.prog 35 [0, 0, 0, 0, 0, 0, 0, 1, 1] := ⟨by kernel_rfl, by kernel_rfl, _, Try.underlying35⟩
instance : TEl Try.prog 35 9 64 (.agg #[.int .i64 0, .int .i64 0, .int .i64 0, .int .i64 0, .int .i64 0, .int .i64 0, .int .i64 0, .bool false, .bool false]) := ⟨by kernel_rfl, rfl, by decide⟩
instance : TZero Try.prog 35 [.int .i64 0, .int .i64 0, .int .i64 0, .int .i64 0, .int .i64 0, .int .i64 0, .int .i64 0, .bool false, .bool false] := ⟨.agg #[.int .i64 0, .int .i64 0, .int .i64 0, .int .i64 0, .int .i64 0, .int .i64 0, .int .i64 0, .bool false, .bool false], by kernel_rfl, rfl⟩
instance : TRow Try.prog 36 9 := ⟨⟨_, Try.underlying36, rfl⟩, by kernel_rfl⟩
instance : TFld Try.prog 36 0 0 := ⟨_, _, 0, Try.underlying36, rfl, rfl, by kernel_rfl⟩
instance : TFld Try.prog 36 1 1 := ⟨_, _, 0, Try.underlying36, rfl, rfl, by kernel_rfl⟩
instance : TFld Try.prog 36 2 2 := ⟨_, _, 0, Try.underlying36, rfl, rfl, by kernel_rfl⟩
instance : TFld Try.prog 36 3 3 := ⟨_, _, 0, Try.underlying36, rfl, rfl, by kernel_rfl⟩
instance : TFld Try.prog 36 4 4 := ⟨_, _, 0, Try.underlying36, rfl, rfl, by kernel_rfl⟩
instance : TFld Try.prog 36 5 5 := ⟨_, _, 0, Try.underlying36, rfl, rfl, by kernel_rfl⟩
instance : TFld Try.prog 36 6 6 := ⟨_, _, 0, Try.underlying36, rfl, rfl, by kernel_rfl⟩
instance : TFld Try.prog 36 7 7 := ⟨_, _, 0, Try.underlying36, rfl, rfl, by kernel_rfl⟩
instance : TFld Try.prog 36 8 8 := ⟨_, _, 0, Try.underlying36, rfl, rfl, by kernel_rfl⟩
instance : TEq Try.prog 36 [0, 0, 0, 0, 0, 0, 0, 1, 1] := ⟨by kernel_rfl, by kernel_rfl, _, Try.underlying36⟩
instance : TEl Try.prog 36 9 64 (.agg #[.int .i64 0, .int .i64 0, .int .i64 0, .int .i64 0, .int .i64 0, .int .i64 0, .int .i64 0, .bool false, .bool false]) := ⟨by kernel_rfl, rfl, by decide⟩
instance : TZero Try.prog 36 [.int .i64 0, .int .i64 0, .int .i64 0, .int .i64 0, .int .i64 0, .int .i64 0, .int .i64 0, .bool false, .bool false] := ⟨.agg #[.int .i64 0, .int .i64 0, .int .i64 0, .int .i64 0, .int .i64 0, .int .i64 0, .int .i64 0, .bool false, .bool false], by kernel_rfl, rfl⟩
instance : TOne Try.prog 56 := ⟨⟨_, Try.underlying56, rfl⟩, by kernel_rfl⟩
instance : TSl Try.prog 56 173 64 := ⟨Try.underlying56, by kernel_rfl⟩
instance : TEl Try.prog 56 1 24 (.slice none 0 0) := ⟨by kernel_rfl, rfl, by decide⟩
instance : TZero Try.prog 56 [.slice none 0 0] := ⟨.slice none 0 0, by kernel_rfl, rfl⟩
instance : TRow Try.prog 57 1 := ⟨⟨_, Try.underlying57, rfl⟩, by kernel_rfl⟩
instance : TFld Try.prog 57 0 0 := ⟨_, _, 0, Try.underlying57, rfl, rfl, by kernel_rfl⟩
instance : TEl Try.prog 57 1 24 (.agg #[.slice none 0 0]) := ⟨by kernel_rfl, rfl, by decide⟩
instance : TZero Try.prog 57 [.slice none 0 0] := ⟨.agg #[.slice none 0 0], by kernel_rfl, rfl⟩
instance : TRow Try.prog 58 1 := ⟨⟨_, Try.underlying58, rfl⟩, by kernel_rfl⟩
instance : TFld Try.prog 58 0 0 := ⟨_, _, 0, Try.underlying58, rfl, rfl, by kernel_rfl⟩
instance : TEl Try.prog 58 1 24 (.agg #[.slice none 0 0]) := ⟨by kernel_rfl, rfl, by decide⟩
instance : TZero Try.prog 58 [.slice none 0 0] := ⟨.agg #[.slice none 0 0], by kernel_rfl, rfl⟩
instance : TOne Try.prog 59 := ⟨⟨_, Try.underlying59, rfl⟩, by kernel_rfl⟩
instance : TSl Try.prog 59 180 10 := ⟨Try.underlying59, by kernel_rfl⟩
instance : TEl Try.prog 59 1 24 (.slice none 0 0) := ⟨by kernel_rfl, rfl, by decide⟩
instance : TZero Try.prog 59 [.slice none 0 0] := ⟨.slice none 0 0, by kernel_rfl, rfl⟩
instance : TOne Try.prog 60 := ⟨⟨_, Try.underlying60, rfl⟩, by kernel_rfl⟩
instance : TSl Try.prog 60 204 6 := ⟨Try.underlying60, by kernel_rfl⟩
instance : TEl Try.prog 60 1 24 (.slice none 0 0) := ⟨by kernel_rfl, rfl, by decide⟩
instance : TZero Try.prog 60 [.slice none 0 0] := ⟨.slice none 0 0, by kernel_rfl, rfl⟩
instance : TRow Try.prog 61 2 := ⟨⟨_, Try.underlying61, rfl⟩, by kernel_rfl⟩
instance : TFld Try.prog 61 0 0 := ⟨_, _, 0, Try.underlying61, rfl, rfl, by kernel_rfl⟩
instance : TFld Try.prog 61 1 1 := ⟨_, _, 0, Try.underlying61, rfl, rfl, by kernel_rfl⟩
instance : TEl Try.prog 61 2 48 (.agg #[.slice none 0 0, .slice none 0 0]) := ⟨by kernel_rfl, rfl, by decide⟩
instance : TZero Try.prog 61 [.slice none 0 0, .slice none 0 0] := ⟨.agg #[.slice none 0 0, .slice none 0 0], by kernel_rfl, rfl⟩
instance : TRow Try.prog 62 2 := ⟨⟨_, Try.underlying62, rfl⟩, by kernel_rfl⟩
instance : TFld Try.prog 62 0 0 := ⟨_, _, 0, Try.underlying62, rfl, rfl, by kernel_rfl⟩
instance : TFld Try.prog 62 1 1 := ⟨_, _, 0, Try.underlying62, rfl, rfl, by kernel_rfl⟩
instance : TEl Try.prog 62 2 48 (.agg #[.slice none 0 0, .slice none 0 0]) := ⟨by kernel_rfl, rfl, by decide⟩
instance : TZero Try.prog 62 [.slice none 0 0, .slice none 0 0] := ⟨.agg #[.slice none 0 0, .slice none 0 0], by kernel_rfl, rfl⟩
instance : TOne Try.prog 63 := ⟨⟨_, Try.underlying63, rfl⟩, by kernel_rfl⟩
instance : TSl Try.prog 63 145 5 := ⟨Try.underlying63, by kernel_rfl⟩
instance : TEl Try.prog 63 1 24 (.slice none 0 0) := ⟨by kernel_rfl, rfl, by decide⟩
instance : TZero Try.prog 63 [.slice none 0 0] := ⟨.slice none 0 0, by kernel_rfl, rfl⟩
instance : TRow Try.prog 64 8 := ⟨⟨_, Try.underlying64, rfl⟩, by kernel_rfl⟩
instance : TFld Try.prog 64 0 0 := ⟨_, _, 0, Try.underlying64, rfl, rfl, by kernel_rfl⟩
instance : TFld Try.prog 64 1 1 := ⟨_, _, 1, Try.underlying64, rfl, rfl, by kernel_rfl⟩
instance : TFld Try.prog 64 2 3 := ⟨_, _, 0, Try.underlying64, rfl, rfl, by kernel_rfl⟩
instance : TFld Try.prog 64 3 4 := ⟨_, _, 0, Try.underlying64, rfl, rfl, by kernel_rfl⟩
instance : TFld Try.prog 64 4 5 := ⟨_, _, 0, Try.underlying64, rfl, rfl, by kernel_rfl⟩
instance : TFld Try.prog 64 5 6 := ⟨_, _, 0, Try.underlying64, rfl, rfl, by kernel_rfl⟩
instance : TFld Try.prog 64 6 7 := ⟨_, _, 0, Try.underlying64, rfl, rfl, by kernel_rfl⟩
instance : TEl Try.prog 64 8 128 (.agg #[.slice none 0 0, .slice none 0 0, .slice none 0 0, .slice none 0 0, .int .i64 0, .int .i64 0, .int .i64 0, .bool false]) := ⟨by kernel_rfl, rfl, by decide⟩
instance : TZero Try.prog 64 [.slice none 0 0, .slice none 0 0, .slice none 0 0, .slice none 0 0, .int .i64 0, .int .i64 0, .int .i64 0, .bool false] := ⟨.agg #[.slice none 0 0, .slice none 0 0, .slice none 0 0, .slice none 0 0, .int .i64 0, .int .i64 0, .int .i64 0, .bool false], by kernel_rfl, rfl⟩
instance : TRow Try.prog 65 8 := ⟨⟨_, Try.underlying65, rfl⟩, by kernel_rfl⟩
instance : TFld Try.prog 65 0 0 := ⟨_, _, 0, Try.underlying65, rfl, rfl, by kernel_rfl⟩
instance : TFld Try.prog 65 1 1 := ⟨_, _, 1, Try.underlying65, rfl, rfl, by kernel_rfl⟩
instance : TFld Try.prog 65 2 3 := ⟨_, _, 0, Try.underlying65, rfl, rfl, by kernel_rfl⟩
instance : TFld Try.prog 65 3 4 := ⟨_, _, 0, Try.underlying65, rfl, rfl, by kernel_rfl⟩
instance : TFld Try.prog 65 4 5 := ⟨_, _, 0, Try.underlying65, rfl, rfl, by kernel_rfl⟩
instance : TFld Try.prog 65 5 6 := ⟨_, _, 0, Try.underlying65, rfl, rfl, by kernel_rfl⟩
instance : TFld Try.prog 65 6 7 := ⟨_, _, 0, Try.underlying65, rfl, rfl, by kernel_rfl⟩
instance : TEl Try.prog 65 8 128 (.agg #[.slice none 0 0, .slice none 0 0, .slice none 0 0, .slice none 0 0, .int .i64 0, .int .i64 0, .int .i64 0, .bool false]) := ⟨by kernel_rfl, rfl, by decide⟩
instance : TZero Try.prog 65 [.slice none 0 0, .slice none 0 0, .slice none 0 0, .slice none 0 0, .int .i64 0, .int .i64 0, .int .i64 0, .bool false] := ⟨.agg #[.slice none 0 0, .slice none 0 0, .slice none 0 0, .slice none 0 0, .int .i64 0, .int .i64 0, .int .i64 0, .bool false], by kernel_rfl, rfl⟩
instance : TOne Try.prog 67 := ⟨⟨_, Try.underlying67, rfl⟩, by kernel_rfl⟩
instance : TSl Try.prog 67 191 64 := ⟨Try.underlying67, by kernel_rfl⟩
instance : TEl Try.prog 67 1 24 (.slice none 0 0) := ⟨by kernel_rfl, rfl, by decide⟩
instance : TZero Try.prog 67 [.slice none 0 0] := ⟨.slice none 0 0, by kernel_rfl, rfl⟩
instance : TRow Try.prog 68 1 := ⟨⟨_, Try.underlying68, rfl⟩, by kernel_rfl⟩
instance : TFld Try.prog 68 0 0 := ⟨_, _, 0, Try.underlying68, rfl, rfl, by kernel_rfl⟩
instance : TEl Try.prog 68 1 24 (.agg #[.slice none 0 0]) := ⟨by kernel_rfl, rfl, by decide⟩
instance : TZero Try.prog 68 [.slice none 0 0] := ⟨.agg #[.slice none 0 0], by kernel_rfl, rfl⟩
instance : TRow Try.prog 69 1 := ⟨⟨_, Try.underlying69, rfl⟩, by kernel_rfl⟩
instance : TFld Try.prog 69 0 0 := ⟨_, _, 0, Try.underlying69, rfl, rfl, by kernel_rfl⟩
instance : TEl Try.prog 69 1 24 (.agg #[.slice none 0 0]) := ⟨by kernel_rfl, rfl, by decide⟩
instance : TZero Try.prog 69 [.slice none 0 0] := ⟨.agg #[.slice none 0 0], by kernel_rfl, rfl⟩
instance : TOne Try.prog 70 := ⟨⟨_, Try.underlying70, rfl⟩, by kernel_rfl⟩
instance : TSl Try.prog 70 196 10 := ⟨Try.underlying70, by kernel_rfl⟩
instance : TEl Try.prog 70 1 24 (.slice none 0 0) := ⟨by kernel_rfl, rfl, by decide⟩
instance : TZero Try.prog 70 [.slice none 0 0] := ⟨.slice none 0 0, by kernel_rfl, rfl⟩
instance : TOne Try.prog 71 := ⟨⟨_, Try.underlying71, rfl⟩, by kernel_rfl⟩
instance : TSl Try.prog 71 201 6 := ⟨Try.underlying71, by kernel_rfl⟩
instance : TEl Try.prog 71 1 24 (.slice none 0 0) := ⟨by kernel_rfl, rfl, by decide⟩
instance : TZero Try.prog 71 [.slice none 0 0] := ⟨.slice none 0 0, by kernel_rfl, rfl⟩
instance : TRow Try.prog 72 2 := ⟨⟨_, Try.underlying72, rfl⟩, by kernel_rfl⟩
instance : TFld Try.prog 72 0 0 := ⟨_, _, 0, Try.underlying72, rfl, rfl, by kernel_rfl⟩
instance : TFld Try.prog 72 1 1 := ⟨_, _, 0, Try.underlying72, rfl, rfl, by kernel_rfl⟩
instance : TEl Try.prog 72 2 48 (.agg #[.slice none 0 0, .slice none 0 0]) := ⟨by kernel_rfl, rfl, by decide⟩
instance : TZero Try.prog 72 [.slice none 0 0, .slice none 0 0] := ⟨.agg #[.slice none 0 0, .slice none 0 0], by kernel_rfl, rfl⟩
instance : TRow Try.prog 73 2 := ⟨⟨_, Try.underlying73, rfl⟩, by kernel_rfl⟩
instance : TFld Try.prog 73 0 0 := ⟨_, _, 0, Try.underlying73, rfl, rfl, by kernel_rfl⟩
instance : TFld Try.prog 73 1 1 := ⟨_, _, 0, Try.underlying73, rfl, rfl, by kernel_rfl⟩
instance : TEl Try.prog 73 2 48 (.agg #[.slice none 0 0, .slice none 0 0]) := ⟨by kernel_rfl, rfl, by decide⟩
instance : TZero Try.prog 73 [.slice none 0 0, .slice none 0 0] := ⟨.agg #[.slice none 0 0, .slice none 0 0], by kernel_rfl, rfl⟩
instance : TOne Try.prog 74 := ⟨⟨_, Try.underlying74, rfl⟩, by kernel_rfl⟩
instance : TSl Try.prog 74 143 5 := ⟨Try.underlying74, by kernel_rfl⟩
instance : TEl Try.prog 74 1 24 (.slice none 0 0) := ⟨by kernel_rfl, rfl, by decide⟩
instance : TZero Try.prog 74 [.slice none 0 0] := ⟨.slice none 0 0, by kernel_rfl, rfl⟩
instance : TRow Try.prog 75 8 := ⟨⟨_, Try.underlying75, rfl⟩, by kernel_rfl⟩
instance : TFld Try.prog 75 0 0 := ⟨_, _, 0, Try.underlying75, rfl, rfl, by kernel_rfl⟩
instance : TFld Try.prog 75 1 1 := ⟨_, _, 1, Try.underlying75, rfl, rfl, by kernel_rfl⟩
instance : TFld Try.prog 75 2 3 := ⟨_, _, 0, Try.underlying75, rfl, rfl, by kernel_rfl⟩
instance : TFld Try.prog 75 3 4 := ⟨_, _, 0, Try.underlying75, rfl, rfl, by kernel_rfl⟩
instance : TFld Try.prog 75 4 5 := ⟨_, _, 0, Try.underlying75, rfl, rfl, by kernel_rfl⟩
instance : TFld Try.prog 75 5 6 := ⟨_, _, 0, Try.underlying75, rfl, rfl, by kernel_rfl⟩
instance : TFld Try.prog 75 6 7 := ⟨_, _, 0, Try.underlying75, rfl, rfl, by kernel_rfl⟩
instance : TEl Try.prog 75 8 128 (.agg #[.slice none 0 0, .slice none 0 0, .slice none 0 0, .slice none 0 0, .int .i64 0, .int .i64 0, .int .i64 0, .bool false]) := ⟨by kernel_rfl, rfl, by decide⟩
instance : TZero Try.prog 75 [.slice none 0 0, .slice none 0 0, .slice none 0 0, .slice none 0 0, .int .i64 0, .int .i64 0, .int .i64 0, .bool false] := ⟨.agg #[.slice none 0 0, .slice none 0 0, .slice none 0 0, .slice none 0 0, .int .i64 0, .int .i64 0, .int .i64 0, .bool false], by kernel_rfl, rfl⟩
instance : TRow Try.prog 76 8 := ⟨⟨_, Try.underlying76, rfl⟩, by kernel_rfl⟩
instance : TFld Try.prog 76 0 0 := ⟨_, _, 0, Try.underlying76, rfl, rfl, by kernel_rfl⟩
instance : TFld Try.prog 76 1 1 := ⟨_, _, 1, Try.underlying76, rfl, rfl, by kernel_rfl⟩
instance : TFld Try.prog 76 2 3 := ⟨_, _, 0, Try.underlying76, rfl, rfl, by kernel_rfl⟩
instance : TFld Try.prog 76 3 4 := ⟨_, _, 0, Try.underlying76, rfl, rfl, by kernel_rfl⟩
instance : TFld Try.prog 76 4 5 := ⟨_, _, 0, Try.underlying76, rfl, rfl, by kernel_rfl⟩
instance : TFld Try.prog 76 5 6 := ⟨_, _, 0, Try.underlying76, rfl, rfl, by kernel_rfl⟩
instance : TFld Try.prog 76 6 7 := ⟨_, _, 0, Try.underlying76, rfl, rfl, by kernel_rfl⟩
instance : TEl Try.prog 76 8 128 (.agg #[.slice none 0 0, .slice none 0 0, .slice none 0 0, .slice none 0 0, .int .i64 0, .int .i64 0, .int .i64 0, .bool false]) := ⟨by kernel_rfl, rfl, by decide⟩
instance : TZero Try.prog 76 [.slice none 0 0, .slice none 0 0, .slice none 0 0, .slice none 0 0, .int .i64 0, .int .i64 0, .int .i64 0, .bool false] := ⟨.agg #[.slice none 0 0, .slice none 0 0, .slice none 0 0, .slice none 0 0, .int .i64 0, .int .i64 0, .int .i64 0, .bool false], by kernel_rfl, rfl⟩
instance : TOne Try.prog 83 := ⟨⟨_, Try.underlying83, rfl⟩, by kernel_rfl⟩
instance : TPtr Try.prog 83 := ⟨⟨_, Try.underlying83⟩⟩
instance : TEl Try.prog 83 1 8 (.pointer none) := ⟨by kernel_rfl, rfl, by decide⟩
instance : TZero Try.prog 83 [.pointer none] := ⟨.pointer none, by kernel_rfl, rfl⟩
instance : TOne Try.prog 93 := ⟨⟨_, Try.underlying93, rfl⟩, by kernel_rfl⟩
instance : TSl Try.prog 93 4 1 := ⟨Try.underlying93, by kernel_rfl⟩
instance : TEl Try.prog 93 1 24 (.slice none 0 0) := ⟨by kernel_rfl, rfl, by decide⟩
instance : TZero Try.prog 93 [.slice none 0 0] := ⟨.slice none 0 0, by kernel_rfl, rfl⟩
instance : TRow Try.prog 94 7 := ⟨⟨_, Try.underlying94, rfl⟩, by kernel_rfl⟩
instance : TFld Try.prog 94 0 0 := ⟨_, _, 0, Try.underlying94, rfl, rfl, by kernel_rfl⟩
instance : TFld Try.prog 94 1 1 := ⟨_, _, 0, Try.underlying94, rfl, rfl, by kernel_rfl⟩
instance : TFld Try.prog 94 2 2 := ⟨_, _, 0, Try.underlying94, rfl, rfl, by kernel_rfl⟩
instance : TFld Try.prog 94 3 3 := ⟨_, _, 0, Try.underlying94, rfl, rfl, by kernel_rfl⟩
instance : TFld Try.prog 94 4 4 := ⟨_, _, 0, Try.underlying94, rfl, rfl, by kernel_rfl⟩
instance : TFld Try.prog 94 5 5 := ⟨_, _, 0, Try.underlying94, rfl, rfl, by kernel_rfl⟩
instance : TFld Try.prog 94 6 6 := ⟨_, _, 0, Try.underlying94, rfl, rfl, by kernel_rfl⟩
instance : TEl Try.prog 94 7 104 (.agg #[.slice none 0 0, .int .i64 0, .int .i64 0, .bool false, .slice none 0 0, .slice none 0 0, .int .i64 0]) := ⟨by kernel_rfl, rfl, by decide⟩
instance : TZero Try.prog 94 [.slice none 0 0, .int .i64 0, .int .i64 0, .bool false, .slice none 0 0, .slice none 0 0, .int .i64 0] := ⟨.agg #[.slice none 0 0, .int .i64 0, .int .i64 0, .bool false, .slice none 0 0, .slice none 0 0, .int .i64 0], by kernel_rfl, rfl⟩
instance : TRow Try.prog 95 7 := ⟨⟨_, Try.underlying95, rfl⟩, by kernel_rfl⟩
instance : TFld Try.prog 95 0 0 := ⟨_, _, 0, Try.underlying95, rfl, rfl, by kernel_rfl⟩
instance : TFld Try.prog 95 1 1 := ⟨_, _, 0, Try.underlying95, rfl, rfl, by kernel_rfl⟩
instance : TFld Try.prog 95 2 2 := ⟨_, _, 0, Try.underlying95, rfl, rfl, by kernel_rfl⟩
instance : TFld Try.prog 95 3 3 := ⟨_, _, 0, Try.underlying95, rfl, rfl, by kernel_rfl⟩
instance : TFld Try.prog 95 4 4 := ⟨_, _, 0, Try.underlying95, rfl, rfl, by kernel_rfl⟩
instance : TFld Try.prog 95 5 5 := ⟨_, _, 0, Try.underlying95, rfl, rfl, by kernel_rfl⟩
instance : TFld Try.prog 95 6 6 := ⟨_, _, 0, Try.underlying95, rfl, rfl, by kernel_rfl⟩
instance : TEl Try.prog 95 7 104 (.agg #[.slice none 0 0, .int .i64 0, .int .i64 0, .bool false, .slice none 0 0, .slice none 0 0, .int .i64 0]) := ⟨by kernel_rfl, rfl, by decide⟩
instance : TZero Try.prog 95 [.slice none 0 0, .int .i64 0, .int .i64 0, .bool false, .slice none 0 0, .slice none 0 0, .int .i64 0] := ⟨.agg #[.slice none 0 0, .int .i64 0, .int .i64 0, .bool false, .slice none 0 0, .slice none 0 0, .int .i64 0], by kernel_rfl, rfl⟩
instance : TRow Try.prog 115 3 := ⟨⟨_, Try.underlying115, rfl⟩, by kernel_rfl⟩
instance : TFld Try.prog 115 0 0 := ⟨_, _, 0, Try.underlying115, rfl, rfl, by kernel_rfl⟩
instance : TFld Try.prog 115 1 1 := ⟨_, _, 0, Try.underlying115, rfl, rfl, by kernel_rfl⟩
instance : TFld Try.prog 115 2 2 := ⟨_, _, 0, Try.underlying115, rfl, rfl, by kernel_rfl⟩
instance : TEl Try.prog 115 3 40 (.agg #[.slice none 0 0, .int .i64 0, .int .i64 0]) := ⟨by kernel_rfl, rfl, by decide⟩
instance : TZero Try.prog 115 [.slice none 0 0, .int .i64 0, .int .i64 0] := ⟨.agg #[.slice none 0 0, .int .i64 0, .int .i64 0], by kernel_rfl, rfl⟩
instance : TRow Try.prog 116 3 := ⟨⟨_, Try.underlying116, rfl⟩, by kernel_rfl⟩
instance : TFld Try.prog 116 0 0 := ⟨_, _, 0, Try.underlying116, rfl, rfl, by kernel_rfl⟩
instance : TFld Try.prog 116 1 1 := ⟨_, _, 0, Try.underlying116, rfl, rfl, by kernel_rfl⟩
instance : TFld Try.prog 116 2 2 := ⟨_, _, 0, Try.underlying116, rfl, rfl, by kernel_rfl⟩
instance : TEl Try.prog 116 3 40 (.agg #[.slice none 0 0, .int .i64 0, .int .i64 0]) := ⟨by kernel_rfl, rfl, by decide⟩
instance : TZero Try.prog 116 [.slice none 0 0, .int .i64 0, .int .i64 0] := ⟨.agg #[.slice none 0 0, .int .i64 0, .int .i64 0], by kernel_rfl, rfl⟩
instance : TOne Try.prog 122 := ⟨⟨_, Try.underlying122, rfl⟩, by kernel_rfl⟩
instance : TPtr Try.prog 122 := ⟨⟨_, Try.underlying122⟩⟩
instance : TEl Try.prog 122 1 8 (.pointer none) := ⟨by kernel_rfl, rfl, by decide⟩
instance : TZero Try.prog 122 [.pointer none] := ⟨.pointer none, by kernel_rfl, rfl⟩
instance : TRow Try.prog 123 7 := ⟨⟨_, Try.underlying123, rfl⟩, by kernel_rfl⟩
instance : TFld Try.prog 123 0 0 := ⟨_, _, 0, Try.underlying123, rfl, rfl, by kernel_rfl⟩
instance : TFld Try.prog 123 1 1 := ⟨_, _, 0, Try.underlying123, rfl, rfl, by kernel_rfl⟩
instance : TFld Try.prog 123 2 2 := ⟨_, _, 0, Try.underlying123, rfl, rfl, by kernel_rfl⟩
instance : TFld Try.prog 123 3 3 := ⟨_, _, 0, Try.underlying123, rfl, rfl, by kernel_rfl⟩
instance : TFld Try.prog 123 4 4 := ⟨_, _, 0, Try.underlying123, rfl, rfl, by kernel_rfl⟩
instance : TFld Try.prog 123 5 5 := ⟨_, _, 0, Try.underlying123, rfl, rfl, by kernel_rfl⟩
instance : TFld Try.prog 123 6 6 := ⟨_, _, 0, Try.underlying123, rfl, rfl, by kernel_rfl⟩
instance : TEl Try.prog 123 7 104 (.agg #[.slice none 0 0, .int .i64 0, .int .i64 0, .bool false, .slice none 0 0, .slice none 0 0, .int .i64 0]) := ⟨by kernel_rfl, rfl, by decide⟩
instance : TZero Try.prog 123 [.slice none 0 0, .int .i64 0, .int .i64 0, .bool false, .slice none 0 0, .slice none 0 0, .int .i64 0] := ⟨.agg #[.slice none 0 0, .int .i64 0, .int .i64 0, .bool false, .slice none 0 0, .slice none 0 0, .int .i64 0], by kernel_rfl, rfl⟩
instance : TRow Try.prog 124 7 := ⟨⟨_, Try.underlying124, rfl⟩, by kernel_rfl⟩
instance : TFld Try.prog 124 0 0 := ⟨_, _, 0, Try.underlying124, rfl, rfl, by kernel_rfl⟩
instance : TFld Try.prog 124 1 1 := ⟨_, _, 0, Try.underlying124, rfl, rfl, by kernel_rfl⟩
instance : TFld Try.prog 124 2 2 := ⟨_, _, 0, Try.underlying124, rfl, rfl, by kernel_rfl⟩
instance : TFld Try.prog 124 3 3 := ⟨_, _, 0, Try.underlying124, rfl, rfl, by kernel_rfl⟩
instance : TFld Try.prog 124 4 4 := ⟨_, _, 0, Try.underlying124, rfl, rfl, by kernel_rfl⟩
instance : TFld Try.prog 124 5 5 := ⟨_, _, 0, Try.underlying124, rfl, rfl, by kernel_rfl⟩
instance : TFld Try.prog 124 6 6 := ⟨_, _, 0, Try.underlying124, rfl, rfl, by kernel_rfl⟩
instance : TEl Try.prog 124 7 104 (.agg #[.slice none 0 0, .int .i64 0, .int .i64 0, .bool false, .slice none 0 0, .slice none 0 0, .int .i64 0]) := ⟨by kernel_rfl, rfl, by decide⟩
instance : TZero Try.prog 124 [.slice none 0 0, .int .i64 0, .int .i64 0, .bool false, .slice none 0 0, .slice none 0 0, .int .i64 0] := ⟨.agg #[.slice none 0 0, .int .i64 0, .int .i64 0, .bool false, .slice none 0 0, .slice none 0 0, .int .i64 0], by kernel_rfl, rfl⟩
instance : TRow Try.prog 142 5 := ⟨⟨_, Try.underlying142, rfl⟩, by kernel_rfl⟩
instance : TFld Try.prog 142 0 0 := ⟨_, _, 0, Try.underlying142, rfl, rfl, by kernel_rfl⟩
instance : TFld Try.prog 142 1 1 := ⟨_, _, 0, Try.underlying142, rfl, rfl, by kernel_rfl⟩
instance : TFld Try.prog 142 2 2 := ⟨_, _, 0, Try.underlying142, rfl, rfl, by kernel_rfl⟩
instance : TFld Try.prog 142 3 3 := ⟨_, _, 0, Try.underlying142, rfl, rfl, by kernel_rfl⟩
instance : TFld Try.prog 142 4 4 := ⟨_, _, 0, Try.underlying142, rfl, rfl, by kernel_rfl⟩
instance : TEq Try.prog 142 [0, 0, 0, 0, 0] := ⟨by kernel_rfl, by kernel_rfl, _, Try.underlying142⟩
instance : TEl Try.prog 142 5 40 (.agg #[.int .i64 0, .int .i64 0, .int .i64 0, .int .i64 0, .int .i64 0]) := ⟨by kernel_rfl, rfl, by decide⟩
instance : TZero Try.prog 142 [.int .i64 0, .int .i64 0, .int .i64 0, .int .i64 0, .int .i64 0] := ⟨.agg #[.int .i64 0, .int .i64 0, .int .i64 0, .int .i64 0, .int .i64 0], by kernel_rfl, rfl⟩
instance : TRow Try.prog 143 5 := ⟨⟨_, Try.underlying143, rfl⟩, by kernel_rfl⟩
instance : TFld Try.prog 143 0 0 := ⟨_, _, 0, Try.underlying143, rfl, rfl, by kernel_rfl⟩
instance : TFld Try.prog 143 1 1 := ⟨_, _, 0, Try.underlying143, rfl, rfl, by kernel_rfl⟩
instance : TFld Try.prog 143 2 2 := ⟨_, _, 0, Try.underlying143, rfl, rfl, by kernel_rfl⟩
instance : TFld Try.prog 143 3 3 := ⟨_, _, 0, Try.underlying143, rfl, rfl, by kernel_rfl⟩
instance : TFld Try.prog 143 4 4 := ⟨_, _, 0, Try.underlying143, rfl, rfl, by kernel_rfl⟩
instance : TEq Try.prog 143 [0, 0, 0, 0, 0] := ⟨by kernel_rfl, by kernel_rfl, _, Try.underlying143⟩
instance : TEl Try.prog 143 5 40 (.agg #[.int .i64 0, .int .i64 0, .int .i64 0, .int .i64 0, .int .i64 0]) := ⟨by kernel_rfl, rfl, by decide⟩
instance : TZero Try.prog 143 [.int .i64 0, .int .i64 0, .int .i64 0, .int .i64 0, .int .i64 0] := ⟨.agg #[.int .i64 0, .int .i64 0, .int .i64 0, .int .i64 0, .int .i64 0], by kernel_rfl, rfl⟩
instance : TRow Try.prog 145 5 := ⟨⟨_, Try.underlying145, rfl⟩, by kernel_rfl⟩
instance : TFld Try.prog 145 0 0 := ⟨_, _, 0, Try.underlying145, rfl, rfl, by kernel_rfl⟩
instance : TFld Try.prog 145 1 1 := ⟨_, _, 0, Try.underlying145, rfl, rfl, by kernel_rfl⟩
instance : TFld Try.prog 145 2 2 := ⟨_, _, 0, Try.underlying145, rfl, rfl, by kernel_rfl⟩
instance : TFld Try.prog 145 3 3 := ⟨_, _, 0, Try.underlying145, rfl, rfl, by kernel_rfl⟩
instance : TFld Try.prog 145 4 4 := ⟨_, _, 0, Try.underlying145, rfl, rfl, by kernel_rfl⟩
instance : TEq Try.prog 145 [0, 0, 0, 0, 0] := ⟨by kernel_rfl, by kernel_rfl, _, Try.underlying145⟩
instance : TEl Try.prog 145 5 40 (.agg #[.int .i64 0, .int .i64 0, .int .i64 0, .int .i64 0, .int .i64 0]) := ⟨by kernel_rfl, rfl, by decide⟩
instance : TZero Try.prog 145 [.int .i64 0, .int .i64 0, .int .i64 0, .int .i64 0, .int .i64 0] := ⟨.agg #[.int .i64 0, .int .i64 0, .int .i64 0, .int .i64 0, .int .i64 0], by kernel_rfl, rfl⟩
instance : TOne Try.prog 154 := ⟨⟨_, Try.underlying154, rfl⟩, by kernel_rfl⟩
instance : TEl Try.prog 154 1 8 (.int .u64 0) := ⟨by kernel_rfl, rfl, by decide⟩
instance : TZero Try.prog 154 [.int .u64 0] := ⟨.int .u64 0, by kernel_rfl, rfl⟩
instance : TOne Try.prog 155 := ⟨⟨_, Try.underlying155, rfl⟩, by kernel_rfl⟩
instance : TPtr Try.prog 155 := ⟨⟨_, Try.underlying155⟩⟩
instance : TEl Try.prog 155 1 8 (.pointer none) := ⟨by kernel_rfl, rfl, by decide⟩
instance : TZero Try.prog 155 [.pointer none] := ⟨.pointer none, by kernel_rfl, rfl⟩
instance : TRow Try.prog 161 2 := ⟨⟨_, Try.underlying161, rfl⟩, by kernel_rfl⟩
instance : TFld Try.prog 161 0 0 := ⟨_, _, 0, Try.underlying161, rfl, rfl, by kernel_rfl⟩
instance : TFld Try.prog 161 1 1 := ⟨_, _, 0, Try.underlying161, rfl, rfl, by kernel_rfl⟩
instance : TEq Try.prog 161 [0, 0] := ⟨by kernel_rfl, by kernel_rfl, _, Try.underlying161⟩
instance : TEl Try.prog 161 2 16 (.agg #[.int .i64 0, .int .i64 0]) := ⟨by kernel_rfl, rfl, by decide⟩
instance : TZero Try.prog 161 [.int .i64 0, .int .i64 0] := ⟨.agg #[.int .i64 0, .int .i64 0], by kernel_rfl, rfl⟩
instance : TRow Try.prog 162 2 := ⟨⟨_, Try.underlying162, rfl⟩, by kernel_rfl⟩
instance : TFld Try.prog 162 0 0 := ⟨_, _, 0, Try.underlying162, rfl, rfl, by kernel_rfl⟩
instance : TFld Try.prog 162 1 1 := ⟨_, _, 0, Try.underlying162, rfl, rfl, by kernel_rfl⟩
instance : TEq Try.prog 162 [0, 0] := ⟨by kernel_rfl, by kernel_rfl, _, Try.underlying162⟩
instance : TEl Try.prog 162 2 16 (.agg #[.int .i64 0, .int .i64 0]) := ⟨by kernel_rfl, rfl, by decide⟩
instance : TZero Try.prog 162 [.int .i64 0, .int .i64 0] := ⟨.agg #[.int .i64 0, .int .i64 0], by kernel_rfl, rfl⟩
instance : TRow Try.prog 163 12 := ⟨⟨_, Try.underlying163, rfl⟩, by kernel_rfl⟩
instance : TFld Try.prog 163 0 0 := ⟨_, _, 1, Try.underlying163, rfl, rfl, by kernel_rfl⟩
instance : TFld Try.prog 163 1 2 := ⟨_, _, 1, Try.underlying163, rfl, rfl, by kernel_rfl⟩
instance : TFld Try.prog 163 2 4 := ⟨_, _, 1, Try.underlying163, rfl, rfl, by kernel_rfl⟩
instance : TFld Try.prog 163 3 6 := ⟨_, _, 1, Try.underlying163, rfl, rfl, by kernel_rfl⟩
instance : TFld Try.prog 163 4 8 := ⟨_, _, 1, Try.underlying163, rfl, rfl, by kernel_rfl⟩
instance : TFld Try.prog 163 5 10 := ⟨_, _, 1, Try.underlying163, rfl, rfl, by kernel_rfl⟩
instance : TEq Try.prog 163 [0, 0, 0, 0, 0, 0, 0, 0, 0, 0, 0, 0] := ⟨by kernel_rfl, by kernel_rfl, _, Try.underlying163⟩
instance : TEl Try.prog 163 12 96 (.agg #[.int .i64 0, .int .i64 0, .int .i64 0, .int .i64 0, .int .i64 0, .int .i64 0, .int .i64 0, .int .i64 0, .int .i64 0, .int .i64 0, .int .i64 0, .int .i64 0]) := ⟨by kernel_rfl, rfl, by decide⟩
instance : TZero Try.prog 163 [.int .i64 0, .int .i64 0, .int .i64 0, .int .i64 0, .int .i64 0, .int .i64 0, .int .i64 0, .int .i64 0, .int .i64 0, .int .i64 0, .int .i64 0, .int .i64 0] := ⟨.agg #[.int .i64 0, .int .i64 0, .int .i64 0, .int .i64 0, .int .i64 0, .int .i64 0, .int .i64 0, .int .i64 0, .int .i64 0, .int .i64 0, .int .i64 0, .int .i64 0], by kernel_rfl, rfl⟩
instance : TRow Try.prog 164 12 := ⟨⟨_, Try.underlying164, rfl⟩, by kernel_rfl⟩
instance : TFld Try.prog 164 0 0 := ⟨_, _, 1, Try.underlying164, rfl, rfl, by kernel_rfl⟩
instance : TFld Try.prog 164 1 2 := ⟨_, _, 1, Try.underlying164, rfl, rfl, by kernel_rfl⟩
instance : TFld Try.prog 164 2 4 := ⟨_, _, 1, Try.underlying164, rfl, rfl, by kernel_rfl⟩
instance : TFld Try.prog 164 3 6 := ⟨_, _, 1, Try.underlying164, rfl, rfl, by kernel_rfl⟩
instance : TFld Try.prog 164 4 8 := ⟨_, _, 1, Try.underlying164, rfl, rfl, by kernel_rfl⟩
instance : TFld Try.prog 164 5 10 := ⟨_, _, 1, Try.underlying164, rfl, rfl, by kernel_rfl⟩
instance : TEq Try.prog 164 [0, 0, 0, 0, 0, 0, 0, 0, 0, 0, 0, 0] := ⟨by kernel_rfl, by kernel_rfl, _, Try.underlying164⟩
instance : TEl Try.prog 164 12 96 (.agg #[.int .i64 0, .int .i64 0, .int .i64 0, .int .i64 0, .int .i64 0, .int .i64 0, .int .i64 0, .int .i64 0, .int .i64 0, .int .i64 0, .int .i64 0, .int .i64 0]) := ⟨by kernel_rfl, rfl, by decide⟩
instance : TZero Try.prog 164 [.int .i64 0, .int .i64 0, .int .i64 0, .int .i64 0, .int .i64 0, .int .i64 0, .int .i64 0, .int .i64 0, .int .i64 0, .int .i64 0, .int .i64 0, .int .i64 0] := ⟨.agg #[.int .i64 0, .int .i64 0, .int .i64 0, .int .i64 0, .int .i64 0, .int .i64 0, .int .i64 0, .int .i64 0, .int .i64 0, .int .i64 0, .int .i64 0, .int .i64 0], by kernel_rfl, rfl⟩
instance : TRow Try.prog 165 4 := ⟨⟨_, Try.underlying165, rfl⟩, by kernel_rfl⟩
instance : TFld Try.prog 165 0 0 := ⟨_, _, 0, Try.underlying165, rfl, rfl, by kernel_rfl⟩
instance : TFld Try.prog 165 1 1 := ⟨_, _, 0, Try.underlying165, rfl, rfl, by kernel_rfl⟩
instance : TFld Try.prog 165 2 2 := ⟨_, _, 0, Try.underlying165, rfl, rfl, by kernel_rfl⟩
instance : TFld Try.prog 165 3 3 := ⟨_, _, 0, Try.underlying165, rfl, rfl, by kernel_rfl⟩
instance : TEq Try.prog 165 [0, 0, 0, 0] := ⟨by kernel_rfl, by kernel_rfl, _, Try.underlying165⟩
instance : TEl Try.prog 165 4 32 (.agg #[.int .i64 0, .int .i64 0, .int .i64 0, .int .i64 0]) := ⟨by kernel_rfl, rfl, by decide⟩
instance : TZero Try.prog 165 [.int .i64 0, .int .i64 0, .int .i64 0, .int .i64 0] := ⟨.agg #[.int .i64 0, .int .i64 0, .int .i64 0, .int .i64 0], by kernel_rfl, rfl⟩
instance : TRow Try.prog 166 4 := ⟨⟨_, Try.underlying166, rfl⟩, by kernel_rfl⟩
instance : TFld Try.prog 166 0 0 := ⟨_, _, 0, Try.underlying166, rfl, rfl, by kernel_rfl⟩
instance : TFld Try.prog 166 1 1 := ⟨_, _, 0, Try.underlying166, rfl, rfl, by kernel_rfl⟩
instance : TFld Try.prog 166 2 2 := ⟨_, _, 0, Try.underlying166, rfl, rfl, by kernel_rfl⟩
instance : TFld Try.prog 166 3 3 := ⟨_, _, 0, Try.underlying166, rfl, rfl, by kernel_rfl⟩
instance : TEq Try.prog 166 [0, 0, 0, 0] := ⟨by kernel_rfl, by kernel_rfl, _, Try.underlying166⟩
instance : TEl Try.prog 166 4 32 (.agg #[.int .i64 0, .int .i64 0, .int .i64 0, .int .i64 0]) := ⟨by kernel_rfl, rfl, by decide⟩
instance : TZero Try.prog 166 [.int .i64 0, .int .i64 0, .int .i64 0, .int .i64 0] := ⟨.agg #[.int .i64 0, .int .i64 0, .int .i64 0, .int .i64 0], by kernel_rfl, rfl⟩
instance : TRow Try.prog 167 60 := ⟨⟨_, Try.underlying167, rfl⟩, by kernel_rfl⟩
instance : TFld Try.prog 167 0 0 := ⟨_, _, 0, Try.underlying167, rfl, rfl, by kernel_rfl⟩
instance : TFld Try.prog 167 1 1 := ⟨_, _, 0, Try.underlying167, rfl, rfl, by kernel_rfl⟩
instance : TFld Try.prog 167 2 2 := ⟨_, _, 0, Try.underlying167, rfl, rfl, by kernel_rfl⟩
instance : TFld Try.prog 167 3 3 := ⟨_, _, 0, Try.underlying167, rfl, rfl, by kernel_rfl⟩
instance : TFld Try.prog 167 4 4 := ⟨_, _, 0, Try.underlying167, rfl, rfl, by kernel_rfl⟩
instance : TFld Try.prog 167 5 5 := ⟨_, _, 0, Try.underlying167, rfl, rfl, by kernel_rfl⟩
instance : TFld Try.prog 167 6 6 := ⟨_, _, 0, Try.underlying167, rfl, rfl, by kernel_rfl⟩
instance : TFld Try.prog 167 7 7 := ⟨_, _, 0, Try.underlying167, rfl, rfl, by kernel_rfl⟩
instance : TFld Try.prog 167 8 8 := ⟨_, _, 0, Try.underlying167, rfl, rfl, by kernel_rfl⟩
instance : TFld Try.prog 167 9 9 := ⟨_, _, 0, Try.underlying167, rfl, rfl, by kernel_rfl⟩
instance : TFld Try.prog 167 10 10 := ⟨_, _, 0, Try.underlying167, rfl, rfl, by kernel_rfl⟩
instance : TFld Try.prog 167 11 11 := ⟨_, _, 1, Try.underlying167, rfl, rfl, by kernel_rfl⟩
instance : TFld Try.prog 167 12 13 := ⟨_, _, 1, Try.underlying167, rfl, rfl, by kernel_rfl⟩
instance : TFld Try.prog 167 13 15 := ⟨_, _, 1, Try.underlying167, rfl, rfl, by kernel_rfl⟩
instance : TFld Try.prog 167 14 17 := ⟨_, _, 1, Try.underlying167, rfl, rfl, by kernel_rfl⟩
instance : TFld Try.prog 167 15 19 := ⟨_, _, 1, Try.underlying167, rfl, rfl, by kernel_rfl⟩
instance : TFld Try.prog 167 16 21 := ⟨_, _, 1, Try.underlying167, rfl, rfl, by kernel_rfl⟩
instance : TFld Try.prog 167 17 23 := ⟨_, _, 1, Try.underlying167, rfl, rfl, by kernel_rfl⟩
instance : TFld Try.prog 167 18 25 := ⟨_, _, 0, Try.underlying167, rfl, rfl, by kernel_rfl⟩
instance : TFld Try.prog 167 19 26 := ⟨_, _, 11, Try.underlying167, rfl, rfl, by kernel_rfl⟩
instance : TFld Try.prog 167 20 38 := ⟨_, _, 11, Try.underlying167, rfl, rfl, by kernel_rfl⟩
instance : TFld Try.prog 167 21 50 := ⟨_, _, 3, Try.underlying167, rfl, rfl, by kernel_rfl⟩
instance : TFld Try.prog 167 22 54 := ⟨_, _, 3, Try.underlying167, rfl, rfl, by kernel_rfl⟩
instance : TFld Try.prog 167 23 58 := ⟨_, _, 0, Try.underlying167, rfl, rfl, by kernel_rfl⟩
instance : TFld Try.prog 167 24 59 := ⟨_, _, 0, Try.underlying167, rfl, rfl, by kernel_rfl⟩
instance : TEq Try.prog 167 [0, 0, 0, 0, 0, 0, 1, 1, 0, 0, 0, 0, 0, 0, 0, 0, 0, 0, 0, 0, 0, 0, 0, 0, 0, 0, 0, 0, 0, 0, 0, 0, 0, 0, 0, 0, 0, 0, 0, 0, 0, 0, 0, 0, 0, 0, 0, 0, 0, 0, 0, 0, 0, 0, 0, 0, 0, 0, 0, 0] := ⟨by kernel_rfl, by kernel_rfl, _, Try.underlying167⟩
instance : TEl Try.prog 167 60 472 (.agg #[.int .i64 0, .int .i64 0, .int .i64 0, .int .i64 0, .int .i64 0, .int .i64 0, .bool false, .bool false, .int .i64 0, .int .i64 0, .int .i64 0, .int .i64 0, .int .i64 0, .int .i64 0, .int .i64 0, .int .i64 0, .int .i64 0, .int .i64 0, .int .i64 0, .int .i64 0, .int .i64 0, .int .i64 0, .int .i64 0, .int .i64 0, .int .i64 0, .int .i64 0, .int .i64 0, .int .i64 0, .int .i64 0, .int .i64 0, .int .i64 0, .int .i64 0, .int .i64 0, .int .i64 0, .int .i64 0, .int .i64 0, .int .i64 0, .int .i64 0, .int .i64 0, .int .i64 0, .int .i64 0, .int .i64 0, .int .i64 0, .int .i64 0, .int .i64 0, .int .i64 0, .int .i64 0, .int .i64 0, .int .i64 0, .int .i64 0, .int .i64 0, .int .i64 0, .int .i64 0, .int .i64 0, .int .i64 0, .int .i64 0, .int .i64 0, .int .i64 0, .int .i64 0, .int .i64 0]) := ⟨by kernel_rfl, rfl, by decide⟩
instance : TZero Try.prog 167 [.int .i64 0, .int .i64 0, .int .i64 0, .int .i64 0, .int .i64 0, .int .i64 0, .bool false, .bool false, .int .i64 0, .int .i64 0, .int .i64 0, .int .i64 0, .int .i64 0, .int .i64 0, .int .i64 0, .int .i64 0, .int .i64 0, .int .i64 0, .int .i64 0, .int .i64 0, .int .i64 0, .int .i64 0, .int .i64 0, .int .i64 0, .int .i64 0, .int .i64 0, .int .i64 0, .int .i64 0, .int .i64 0, .int .i64 0, .int .i64 0, .int .i64 0, .int .i64 0, .int .i64 0, .int .i64 0, .int .i64 0, .int .i64 0, .int .i64 0, .int .i64 0, .int .i64 0, .int .i64 0, .int .i64 0, .int .i64 0, .int .i64 0, .int .i64 0, .int .i64 0, .int .i64 0, .int .i64 0, .int .i64 0, .int .i64 0, .int .i64 0, .int .i64 0, .int .i64 0, .int .i64 0, .int .i64 0, .int .i64 0, .int .i64 0, .int .i64 0, .int .i64 0, .int .i64 0] := ⟨.agg #[.int .i64 0, .int .i64 0, .int .i64 0, .int .i64 0, .int .i64 0, .int .i64 0, .bool false, .bool false, .int .i64 0, .int .i64 0, .int .i64 0, .int .i64 0, .int .i64 0, .int .i64 0, .int .i64 0, .int .i64 0, .int .i64 0, .int .i64 0, .int .i64 0, .int .i64 0, .int .i64 0, .int .i64 0, .int .i64 0, .int .i64 0, .int .i64 0, .int .i64 0, .int .i64 0, .int .i64 0, .int .i64 0, .int .i64 0, .int .i64 0, .int .i64 0, .int .i64 0, .int .i64 0, .int .i64 0, .int .i64 0, .int .i64 0, .int .i64 0, .int .i64 0, .int .i64 0, .int .i64 0, .int .i64 0, .int .i64 0, .int .i64 0, .int .i64 0, .int .i64 0, .int .i64 0, .int .i64 0, .int .i64 0, .int .i64 0, .int .i64 0, .int .i64 0, .int .i64 0, .int .i64 0, .int .i64 0, .int .i64 0, .int .i64 0, .int .i64 0, .int .i64 0, .int .i64 0], by kernel_rfl, rfl⟩
instance : TRow Try.prog 168 60 := ⟨⟨_, Try.underlying168, rfl⟩, by kernel_rfl⟩
instance : TFld Try.prog 168 0 0 := ⟨_, _, 0, Try.underlying168, rfl, rfl, by kernel_rfl⟩
instance : TFld Try.prog 168 1 1 := ⟨_, _, 0, Try.underlying168, rfl, rfl, by kernel_rfl⟩
instance : TFld Try.prog 168 2 2 := ⟨_, _, 0, Try.underlying168, rfl, rfl, by kernel_rfl⟩
instance : TFld Try.prog 168 3 3 := ⟨_, _, 0, Try.underlying168, rfl, rfl, by kernel_rfl⟩
instance : TFld Try.prog 168 4 4 := ⟨_, _, 0, Try.underlying168, rfl, rfl, by kernel_rfl⟩
instance : TFld Try.prog 168 5 5 := ⟨_, _, 0, Try.underlying168, rfl, rfl, by kernel_rfl⟩
instance : TFld Try.prog 168 6 6 := ⟨_, _, 0, Try.underlying168, rfl, rfl, by kernel_rfl⟩
instance : TFld Try.prog 168 7 7 := ⟨_, _, 0, Try.underlying168, rfl, rfl, by kernel_rfl⟩
instance : TFld Try.prog 168 8 8 := ⟨_, _, 0, Try.underlying168, rfl, rfl, by kernel_rfl⟩
instance : TFld Try.prog 168 9 9 := ⟨_, _, 0, Try.underlying168, rfl, rfl, by kernel_rfl⟩
instance : TFld Try.prog 168 10 10 := ⟨_, _, 0, Try.underlying168, rfl, rfl, by kernel_rfl⟩
instance : TFld Try.prog 168 11 11 := ⟨_, _, 1, Try.underlying168, rfl, rfl, by kernel_rfl⟩
instance : TFld Try.prog 168 12 13 := ⟨_, _, 1, Try.underlying168, rfl, rfl, by kernel_rfl⟩
instance : TFld Try.prog 168 13 15 := ⟨_, _, 1, Try.underlying168, rfl, rfl, by kernel_rfl⟩
instance : TFld Try.prog 168 14 17 := ⟨_, _, 1, Try.underlying168, rfl, rfl, by kernel_rfl⟩
instance : TFld Try.prog 168 15 19 := ⟨_, _, 1, Try.underlying168, rfl, rfl, by kernel_rfl⟩
instance : TFld Try.prog 168 16 21 := ⟨_, _, 1, Try.underlying168, rfl, rfl, by kernel_rfl⟩
instance : TFld Try.prog 168 17 23 := ⟨_, _, 1, Try.underlying168, rfl, rfl, by kernel_rfl⟩
instance : TFld Try.prog 168 18 25 := ⟨_, _, 0, Try.underlying168, rfl, rfl, by kernel_rfl⟩
instance : TFld Try.prog 168 19 26 := ⟨_, _, 11, Try.underlying168, rfl, rfl, by kernel_rfl⟩
instance : TFld Try.prog 168 20 38 := ⟨_, _, 11, Try.underlying168, rfl, rfl, by kernel_rfl⟩
instance : TFld Try.prog 168 21 50 := ⟨_, _, 3, Try.underlying168, rfl, rfl, by kernel_rfl⟩
instance : TFld Try.prog 168 22 54 := ⟨_, _, 3, Try.underlying168, rfl, rfl, by kernel_rfl⟩
instance : TFld Try.prog 168 23 58 := ⟨_, _, 0, Try.underlying168, rfl, rfl, by kernel_rfl⟩
instance : TFld Try.prog 168 24 59 := ⟨_, _, 0, Try.underlying168, rfl, rfl, by kernel_rfl⟩
instance : TEq Try.prog 168 [0, 0, 0, 0, 0, 0, 1, 1, 0, 0, 0, 0, 0, 0, 0, 0, 0, 0, 0, 0, 0, 0, 0, 0, 0, 0, 0, 0, 0, 0, 0, 0, 0, 0, 0, 0, 0, 0, 0, 0, 0, 0, 0, 0, 0, 0, 0, 0, 0, 0, 0, 0, 0, 0, 0, 0, 0, 0, 0, 0] := ⟨by kernel_rfl, by kernel_rfl, _, Try.underlying168⟩
instance : TEl Try.prog 168 60 472 (.agg #[.int .i64 0, .int .i64 0, .int .i64 0, .int .i64 0, .int .i64 0, .int .i64 0, .bool false, .bool false, .int .i64 0, .int .i64 0, .int .i64 0, .int .i64 0, .int .i64 0, .int .i64 0, .int .i64 0, .int .i64 0, .int .i64 0, .int .i64 0, .int .i64 0, .int .i64 0, .int .i64 0, .int .i64 0, .int .i64 0, .int .i64 0, .int .i64 0, .int .i64 0, .int .i64 0, .int .i64 0, .int .i64 0, .int .i64 0, .int .i64 0, .int .i64 0, .int .i64 0, .int .i64 0, .int .i64 0, .int .i64 0, .int .i64 0, .int .i64 0, .int .i64 0, .int .i64 0, .int .i64 0, .int .i64 0, .int .i64 0, .int .i64 0, .int .i64 0, .int .i64 0, .int .i64 0, .int .i64 0, .int .i64 0, .int .i64 0, .int .i64 0, .int .i64 0, .int .i64 0, .int .i64 0, .int .i64 0, .int .i64 0, .int .i64 0, .int .i64 0, .int .i64 0, .int .i64 0]) := ⟨by kernel_rfl, rfl, by decide⟩
instance : TZero Try.prog 168 [.int .i64 0, .int .i64 0, .int .i64 0, .int .i64 0, .int .i64 0, .int .i64 0, .bool false, .bool false, .int .i64 0, .int .i64 0, .int .i64 0, .int .i64 0, .int .i64 0, .int .i64 0, .int .i64 0, .int .i64 0, .int .i64 0, .int .i64 0, .int .i64 0, .int .i64 0, .int .i64 0, .int .i64 0, .int .i64 0, .int .i64 0, .int .i64 0, .int .i64 0, .int .i64 0, .int .i64 0, .int .i64 0, .int .i64 0, .int .i64 0, .int .i64 0, .int .i64 0, .int .i64 0, .int .i64 0, .int .i64 0, .int .i64 0, .int .i64 0, .int .i64 0, .int .i64 0, .int .i64 0, .int .i64 0, .int .i64 0, .int .i64 0, .int .i64 0, .int .i64 0, .int .i64 0, .int .i64 0, .int .i64 0, .int .i64 0, .int .i64 0, .int .i64 0, .int .i64 0, .int .i64 0, .int .i64 0, .int .i64 0, .int .i64 0, .int .i64 0, .int .i64 0, .int .i64 0] := ⟨.agg #[.int .i64 0, .int .i64 0, .int .i64 0, .int .i64 0, .int .i64 0, .int .i64 0, .bool false, .bool false, .int .i64 0, .int .i64 0, .int .i64 0, .int .i64 0, .int .i64 0, .int .i64 0, .int .i64 0, .int .i64 0, .int .i64 0, .int .i64 0, .int .i64 0, .int .i64 0, .int .i64 0, .int .i64 0, .int .i64 0, .int .i64 0, .int .i64 0, .int .i64 0, .int .i64 0, .int .i64 0, .int .i64 0, .int .i64 0, .int .i64 0, .int .i64 0, .int .i64 0, .int .i64 0, .int .i64 0, .int .i64 0, .int .i64 0, .int .i64 0, .int .i64 0, .int .i64 0, .int .i64 0, .int .i64 0, .int .i64 0, .int .i64 0, .int .i64 0, .int .i64 0, .int .i64 0, .int .i64 0, .int .i64 0, .int .i64 0, .int .i64 0, .int .i64 0, .int .i64 0, .int .i64 0, .int .i64 0, .int .i64 0, .int .i64 0, .int .i64 0, .int .i64 0, .int .i64 0], by kernel_rfl, rfl⟩
instance : TOne Try.prog 169 := ⟨⟨_, Try.underlying169, rfl⟩, by kernel_rfl⟩
instance : TSl Try.prog 169 233 3 := ⟨Try.underlying169, by kernel_rfl⟩
instance : TEl Try.prog 169 1 24 (.slice none 0 0) := ⟨by kernel_rfl, rfl, by decide⟩
instance : TZero Try.prog 169 [.slice none 0 0] := ⟨.slice none 0 0, by kernel_rfl, rfl⟩
instance : TRow Try.prog 170 1 := ⟨⟨_, Try.underlying170, rfl⟩, by kernel_rfl⟩
instance : TFld Try.prog 170 0 0 := ⟨_, _, 0, Try.underlying170, rfl, rfl, by kernel_rfl⟩
instance : TEl Try.prog 170 1 24 (.agg #[.slice none 0 0]) := ⟨by kernel_rfl, rfl, by decide⟩
instance : TZero Try.prog 170 [.slice none 0 0] := ⟨.agg #[.slice none 0 0], by kernel_rfl, rfl⟩
instance : TRow Try.prog 171 1 := ⟨⟨_, Try.underlying171, rfl⟩, by kernel_rfl⟩
instance : TFld Try.prog 171 0 0 := ⟨_, _, 0, Try.underlying171, rfl, rfl, by kernel_rfl⟩
instance : TEl Try.prog 171 1 24 (.agg #[.slice none 0 0]) := ⟨by kernel_rfl, rfl, by decide⟩
instance : TZero Try.prog 171 [.slice none 0 0] := ⟨.agg #[.slice none 0 0], by kernel_rfl, rfl⟩
instance : TRow Try.prog 172 64 := ⟨⟨_, Try.underlying172, rfl⟩, by kernel_rfl⟩
instance : TFld Try.prog 172 0 0 := ⟨_, _, 0, Try.underlying172, rfl, rfl, by kernel_rfl⟩
instance : TFld Try.prog 172 1 1 := ⟨_, _, 0, Try.underlying172, rfl, rfl, by kernel_rfl⟩
instance : TFld Try.prog 172 2 2 := ⟨_, _, 59, Try.underlying172, rfl, rfl, by kernel_rfl⟩
instance : TFld Try.prog 172 3 62 := ⟨_, _, 0, Try.underlying172, rfl, rfl, by kernel_rfl⟩
instance : TFld Try.prog 172 4 63 := ⟨_, _, 0, Try.underlying172, rfl, rfl, by kernel_rfl⟩
instance : TEl Try.prog 172 64 536 (.agg #[.int .i64 0, .slice none 0 0, .int .i64 0, .int .i64 0, .int .i64 0, .int .i64 0, .int .i64 0, .int .i64 0, .bool false, .bool false, .int .i64 0, .int .i64 0, .int .i64 0, .int .i64 0, .int .i64 0, .int .i64 0, .int .i64 0, .int .i64 0, .int .i64 0, .int .i64 0, .int .i64 0, .int .i64 0, .int .i64 0, .int .i64 0, .int .i64 0, .int .i64 0, .int .i64 0, .int .i64 0, .int .i64 0, .int .i64 0, .int .i64 0, .int .i64 0, .int .i64 0, .int .i64 0, .int .i64 0, .int .i64 0, .int .i64 0, .int .i64 0, .int .i64 0, .int .i64 0, .int .i64 0, .int .i64 0, .int .i64 0, .int .i64 0, .int .i64 0, .int .i64 0, .int .i64 0, .int .i64 0, .int .i64 0, .int .i64 0, .int .i64 0, .int .i64 0, .int .i64 0, .int .i64 0, .int .i64 0, .int .i64 0, .int .i64 0, .int .i64 0, .int .i64 0, .int .i64 0, .int .i64 0, .int .i64 0, .bool false, .slice none 0 0]) := ⟨by kernel_rfl, rfl, by decide⟩
instance : TZero Try.prog 172 [.int .i64 0, .slice none 0 0, .int .i64 0, .int .i64 0, .int .i64 0, .int .i64 0, .int .i64 0, .int .i64 0, .bool false, .bool false, .int .i64 0, .int .i64 0, .int .i64 0, .int .i64 0, .int .i64 0, .int .i64 0, .int .i64 0, .int .i64 0, .int .i64 0, .int .i64 0, .int .i64 0, .int .i64 0, .int .i64 0, .int .i64 0, .int .i64 0, .int .i64 0, .int .i64 0, .int .i64 0, .int .i64 0, .int .i64 0, .int .i64 0, .int .i64 0, .int .i64 0, .int .i64 0, .int .i64 0, .int .i64 0, .int .i64 0, .int .i64 0, .int .i64 0, .int .i64 0, .int .i64 0, .int .i64 0, .int .i64 0, .int .i64 0, .int .i64 0, .int .i64 0, .int .i64 0, .int .i64 0, .int .i64 0, .int .i64 0, .int .i64 0, .int .i64 0, .int .i64 0, .int .i64 0, .int .i64 0, .int .i64 0, .int .i64 0, .int .i64 0, .int .i64 0, .int .i64 0, .int .i64 0, .int .i64 0, .bool false, .slice none 0 0] := ⟨.agg #[.int .i64 0, .slice none 0 0, .int .i64 0, .int .i64 0, .int .i64 0, .int .i64 0, .int .i64 0, .int .i64 0, .bool false, .bool false, .int .i64 0, .int .i64 0, .int .i64 0, .int .i64 0, .int .i64 0, .int .i64 0, .int .i64 0, .int .i64 0, .int .i64 0, .int .i64 0, .int .i64 0, .int .i64 0, .int .i64 0, .int .i64 0, .int .i64 0, .int .i64 0, .int .i64 0, .int .i64 0, .int .i64 0, .int .i64 0, .int .i64 0, .int .i64 0, .int .i64 0, .int .i64 0, .int .i64 0, .int .i64 0, .int .i64 0, .int .i64 0, .int .i64 0, .int .i64 0, .int .i64 0, .int .i64 0, .int .i64 0, .int .i64 0, .int .i64 0, .int .i64 0, .int .i64 0, .int .i64 0, .int .i64 0, .int .i64 0, .int .i64 0, .int .i64 0, .int .i64 0, .int .i64 0, .int .i64 0, .int .i64 0, .int .i64 0, .int .i64 0, .int .i64 0, .int .i64 0, .int .i64 0, .int .i64 0, .bool false, .slice none 0 0], by kernel_rfl, rfl⟩
instance : TRow Try.prog 173 64 := ⟨⟨_, Try.underlying173, rfl⟩, by kernel_rfl⟩
instance : TFld Try.prog 173 0 0 := ⟨_, _, 0, Try.underlying173, rfl, rfl, by kernel_rfl⟩
instance : TFld Try.prog 173 1 1 := ⟨_, _, 0, Try.underlying173, rfl, rfl, by kernel_rfl⟩
instance : TFld Try.prog 173 2 2 := ⟨_, _, 59, Try.underlying173, rfl, rfl, by kernel_rfl⟩
instance : TFld Try.prog 173 3 62 := ⟨_, _, 0, Try.underlying173, rfl, rfl, by kernel_rfl⟩
instance : TFld Try.prog 173 4 63 := ⟨_, _, 0, Try.underlying173, rfl, rfl, by kernel_rfl⟩
instance : TEl Try.prog 173 64 536 (.agg #[.int .i64 0, .slice none 0 0, .int .i64 0, .int .i64 0, .int .i64 0, .int .i64 0, .int .i64 0, .int .i64 0, .bool false, .bool false, .int .i64 0, .int .i64 0, .int .i64 0, .int .i64 0, .int .i64 0, .int .i64 0, .int .i64 0, .int .i64 0, .int .i64 0, .int .i64 0, .int .i64 0, .int .i64 0, .int .i64 0, .int .i64 0, .int .i64 0, .int .i64 0, .int .i64 0, .int .i64 0, .int .i64 0, .int .i64 0, .int .i64 0, .int .i64 0, .int .i64 0, .int .i64 0, .int .i64 0, .int .i64 0, .int .i64 0, .int .i64 0, .int .i64 0, .int .i64 0, .int .i64 0, .int .i64 0, .int .i64 0, .int .i64 0, .int .i64 0, .int .i64 0, .int .i64 0, .int .i64 0, .int .i64 0, .int .i64 0, .int .i64 0, .int .i64 0, .int .i64 0, .int .i64 0, .int .i64 0, .int .i64 0, .int .i64 0, .int .i64 0, .int .i64 0, .int .i64 0, .int .i64 0, .int .i64 0, .bool false, .slice none 0 0]) := ⟨by kernel_rfl, rfl, by decide⟩
instance : TZero Try.prog 173 [.int .i64 0, .slice none 0 0, .int .i64 0, .int .i64 0, .int .i64 0, .int .i64 0, .int .i64 0, .int .i64 0, .bool false, .bool false, .int .i64 0, .int .i64 0, .int .i64 0, .int .i64 0, .int .i64 0, .int .i64 0, .int .i64 0, .int .i64 0, .int .i64 0, .int .i64 0, .int .i64 0, .int .i64 0, .int .i64 0, .int .i64 0, .int .i64 0, .int .i64 0, .int .i64 0, .int .i64 0, .int .i64 0, .int .i64 0, .int .i64 0, .int .i64 0, .int .i64 0, .int .i64 0, .int .i64 0, .int .i64 0, .int .i64 0, .int .i64 0, .int .i64 0, .int .i64 0, .int .i64 0, .int .i64 0, .int .i64 0, .int .i64 0, .int .i64 0, .int .i64 0, .int .i64 0, .int .i64 0, .int .i64 0, .int .i64 0, .int .i64 0, .int .i64 0, .int .i64 0, .int .i64 0, .int .i64 0, .int .i64 0, .int .i64 0, .int .i64 0, .int .i64 0, .int .i64 0, .int .i64 0, .int .i64 0, .bool false, .slice none 0 0] := ⟨.agg #[.int .i64 0, .slice none 0 0, .int .i64 0, .int .i64 0, .int .i64 0, .int .i64 0, .int .i64 0, .int .i64 0, .bool false, .bool false, .int .i64 0, .int .i64 0, .int .i64 0, .int .i64 0, .int .i64 0, .int .i64 0, .int .i64 0, .int .i64 0, .int .i64 0, .int .i64 0, .int .i64 0, .int .i64 0, .int .i64 0, .int .i64 0, .int .i64 0, .int .i64 0, .int .i64 0, .int .i64 0, .int .i64 0, .int .i64 0, .int .i64 0, .int .i64 0, .int .i64 0, .int .i64 0, .int .i64 0, .int .i64 0, .int .i64 0, .int .i64 0, .int .i64 0, .int .i64 0, .int .i64 0, .int .i64 0, .int .i64 0, .int .i64 0, .int .i64 0, .int .i64 0, .int .i64 0, .int .i64 0, .int .i64 0, .int .i64 0, .int .i64 0, .int .i64 0, .int .i64 0, .int .i64 0, .int .i64 0, .int .i64 0, .int .i64 0, .int .i64 0, .int .i64 0, .int .i64 0, .int .i64 0, .int .i64 0, .bool false, .slice none 0 0], by kernel_rfl, rfl⟩
instance : TRow Try.prog 175 2 := ⟨⟨_, Try.underlying175, rfl⟩, by kernel_rfl⟩
instance : TFld Try.prog 175 0 0 := ⟨_, _, 0, Try.underlying175, rfl, rfl, by kernel_rfl⟩
instance : TFld Try.prog 175 1 1 := ⟨_, _, 0, Try.underlying175, rfl, rfl, by kernel_rfl⟩
instance : TEq Try.prog 175 [0, 0] := ⟨by kernel_rfl, by kernel_rfl, _, Try.underlying175⟩
instance : TEl Try.prog 175 2 16 (.agg #[.int .i64 0, .int .i64 0]) := ⟨by kernel_rfl, rfl, by decide⟩
instance : TZero Try.prog 175 [.int .i64 0, .int .i64 0] := ⟨.agg #[.int .i64 0, .int .i64 0], by kernel_rfl, rfl⟩
instance : TRow Try.prog 176 2 := ⟨⟨_, Try.underlying176, rfl⟩, by kernel_rfl⟩
instance : TFld Try.prog 176 0 0 := ⟨_, _, 0, Try.underlying176, rfl, rfl, by kernel_rfl⟩
instance : TFld Try.prog 176 1 1 := ⟨_, _, 0, Try.underlying176, rfl, rfl, by kernel_rfl⟩
instance : TEq Try.prog 176 [0, 0] := ⟨by kernel_rfl, by kernel_rfl, _, Try.underlying176⟩
instance : TEl Try.prog 176 2 16 (.agg #[.int .i64 0, .int .i64 0]) := ⟨by kernel_rfl, rfl, by decide⟩
instance : TZero Try.prog 176 [.int .i64 0, .int .i64 0] := ⟨.agg #[.int .i64 0, .int .i64 0], by kernel_rfl, rfl⟩
instance : TRow Try.prog 177 4 := ⟨⟨_, Try.underlying177, rfl⟩, by kernel_rfl⟩
instance : TFld Try.prog 177 0 0 := ⟨_, _, 0, Try.underlying177, rfl, rfl, by kernel_rfl⟩
instance : TFld Try.prog 177 1 1 := ⟨_, _, 0, Try.underlying177, rfl, rfl, by kernel_rfl⟩
instance : TFld Try.prog 177 2 2 := ⟨_, _, 0, Try.underlying177, rfl, rfl, by kernel_rfl⟩
instance : TFld Try.prog 177 3 3 := ⟨_, _, 0, Try.underlying177, rfl, rfl, by kernel_rfl⟩
instance : TEl Try.prog 177 4 48 (.agg #[.int .i64 0, .int .i64 0, .int .i64 0, .slice none 0 0]) := ⟨by kernel_rfl, rfl, by decide⟩
instance : TZero Try.prog 177 [.int .i64 0, .int .i64 0, .int .i64 0, .slice none 0 0] := ⟨.agg #[.int .i64 0, .int .i64 0, .int .i64 0, .slice none 0 0], by kernel_rfl, rfl⟩
instance : TRow Try.prog 178 4 := ⟨⟨_, Try.underlying178, rfl⟩, by kernel_rfl⟩
instance : TFld Try.prog 178 0 0 := ⟨_, _, 0, Try.underlying178, rfl, rfl, by kernel_rfl⟩
instance : TFld Try.prog 178 1 1 := ⟨_, _, 0, Try.underlying178, rfl, rfl, by kernel_rfl⟩
instance : TFld Try.prog 178 2 2 := ⟨_, _, 0, Try.underlying178, rfl, rfl, by kernel_rfl⟩
instance : TFld Try.prog 178 3 3 := ⟨_, _, 0, Try.underlying178, rfl, rfl, by kernel_rfl⟩
instance : TEl Try.prog 178 4 48 (.agg #[.int .i64 0, .int .i64 0, .int .i64 0, .slice none 0 0]) := ⟨by kernel_rfl, rfl, by decide⟩
instance : TZero Try.prog 178 [.int .i64 0, .int .i64 0, .int .i64 0, .slice none 0 0] := ⟨.agg #[.int .i64 0, .int .i64 0, .int .i64 0, .slice none 0 0], by kernel_rfl, rfl⟩
instance : TRow Try.prog 179 10 := ⟨⟨_, Try.underlying179, rfl⟩, by kernel_rfl⟩
instance : TFld Try.prog 179 0 0 := ⟨_, _, 0, Try.underlying179, rfl, rfl, by kernel_rfl⟩
instance : TFld Try.prog 179 1 1 := ⟨_, _, 1, Try.underlying179, rfl, rfl, by kernel_rfl⟩
instance : TFld Try.prog 179 2 3 := ⟨_, _, 1, Try.underlying179, rfl, rfl, by kernel_rfl⟩
instance : TFld Try.prog 179 3 5 := ⟨_, _, 0, Try.underlying179, rfl, rfl, by kernel_rfl⟩
instance : TFld Try.prog 179 4 6 := ⟨_, _, 3, Try.underlying179, rfl, rfl, by kernel_rfl⟩
instance : TEl Try.prog 179 10 96 (.agg #[.int .i64 0, .int .i64 0, .int .i64 0, .int .i64 0, .int .i64 0, .bool false, .int .i64 0, .int .i64 0, .int .i64 0, .slice none 0 0]) := ⟨by kernel_rfl, rfl, by decide⟩
instance : TZero Try.prog 179 [.int .i64 0, .int .i64 0, .int .i64 0, .int .i64 0, .int .i64 0, .bool false, .int .i64 0, .int .i64 0, .int .i64 0, .slice none 0 0] := ⟨.agg #[.int .i64 0, .int .i64 0, .int .i64 0, .int .i64 0, .int .i64 0, .bool false, .int .i64 0, .int .i64 0, .int .i64 0, .slice none 0 0], by kernel_rfl, rfl⟩
instance : TRow Try.prog 180 10 := ⟨⟨_, Try.underlying180, rfl⟩, by kernel_rfl⟩
instance : TFld Try.prog 180 0 0 := ⟨_, _, 0, Try.underlying180, rfl, rfl, by kernel_rfl⟩
instance : TFld Try.prog 180 1 1 := ⟨_, _, 1, Try.underlying180, rfl, rfl, by kernel_rfl⟩
instance : TFld Try.prog 180 2 3 := ⟨_, _, 1, Try.underlying180, rfl, rfl, by kernel_rfl⟩
instance : TFld Try.prog 180 3 5 := ⟨_, _, 0, Try.underlying180, rfl, rfl, by kernel_rfl⟩
instance : TFld Try.prog 180 4 6 := ⟨_, _, 3, Try.underlying180, rfl, rfl, by kernel_rfl⟩
instance : TEl Try.prog 180 10 96 (.agg #[.int .i64 0, .int .i64 0, .int .i64 0, .int .i64 0, .int .i64 0, .bool false, .int .i64 0, .int .i64 0, .int .i64 0, .slice none 0 0]) := ⟨by kernel_rfl, rfl, by decide⟩
instance : TZero Try.prog 180 [.int .i64 0, .int .i64 0, .int .i64 0, .int .i64 0, .int .i64 0, .bool false, .int .i64 0, .int .i64 0, .int .i64 0, .slice none 0 0] := ⟨.agg #[.int .i64 0, .int .i64 0, .int .i64 0, .int .i64 0, .int .i64 0, .bool false, .int .i64 0, .int .i64 0, .int .i64 0, .slice none 0 0], by kernel_rfl, rfl⟩
instance : TRow Try.prog 181 2 := ⟨⟨_, Try.underlying181, rfl⟩, by kernel_rfl⟩
instance : TFld Try.prog 181 0 0 := ⟨_, _, 0, Try.underlying181, rfl, rfl, by kernel_rfl⟩
instance : TFld Try.prog 181 1 1 := ⟨_, _, 0, Try.underlying181, rfl, rfl, by kernel_rfl⟩
instance : TEq Try.prog 181 [0, 0] := ⟨by kernel_rfl, by kernel_rfl, _, Try.underlying181⟩
instance : TEl Try.prog 181 2 16 (.agg #[.int .i64 0, .int .i64 0]) := ⟨by kernel_rfl, rfl, by decide⟩
instance : TZero Try.prog 181 [.int .i64 0, .int .i64 0] := ⟨.agg #[.int .i64 0, .int .i64 0], by kernel_rfl, rfl⟩
instance : TRow Try.prog 182 12 := ⟨⟨_, Try.underlying182, rfl⟩, by kernel_rfl⟩
instance : TFld Try.prog 182 0 0 := ⟨_, _, 1, Try.underlying182, rfl, rfl, by kernel_rfl⟩
instance : TFld Try.prog 182 1 2 := ⟨_, _, 1, Try.underlying182, rfl, rfl, by kernel_rfl⟩
instance : TFld Try.prog 182 2 4 := ⟨_, _, 1, Try.underlying182, rfl, rfl, by kernel_rfl⟩
instance : TFld Try.prog 182 3 6 := ⟨_, _, 1, Try.underlying182, rfl, rfl, by kernel_rfl⟩
instance : TFld Try.prog 182 4 8 := ⟨_, _, 1, Try.underlying182, rfl, rfl, by kernel_rfl⟩
instance : TFld Try.prog 182 5 10 := ⟨_, _, 1, Try.underlying182, rfl, rfl, by kernel_rfl⟩
instance : TEq Try.prog 182 [0, 0, 0, 0, 0, 0, 0, 0, 0, 0, 0, 0] := ⟨by kernel_rfl, by kernel_rfl, _, Try.underlying182⟩
instance : TEl Try.prog 182 12 96 (.agg #[.int .i64 0, .int .i64 0, .int .i64 0, .int .i64 0, .int .i64 0, .int .i64 0, .int .i64 0, .int .i64 0, .int .i64 0, .int .i64 0, .int .i64 0, .int .i64 0]) := ⟨by kernel_rfl, rfl, by decide⟩
instance : TZero Try.prog 182 [.int .i64 0, .int .i64 0, .int .i64 0, .int .i64 0, .int .i64 0, .int .i64 0, .int .i64 0, .int .i64 0, .int .i64 0, .int .i64 0, .int .i64 0, .int .i64 0] := ⟨.agg #[.int .i64 0, .int .i64 0, .int .i64 0, .int .i64 0, .int .i64 0, .int .i64 0, .int .i64 0, .int .i64 0, .int .i64 0, .int .i64 0, .int .i64 0, .int .i64 0], by kernel_rfl, rfl⟩
instance : TRow Try.prog 183 12 := ⟨⟨_, Try.underlying183, rfl⟩, by kernel_rfl⟩
instance : TFld Try.prog 183 0 0 := ⟨_, _, 1, Try.underlying183, rfl, rfl, by kernel_rfl⟩
instance : TFld Try.prog 183 1 2 := ⟨_, _, 1, Try.underlying183, rfl, rfl, by kernel_rfl⟩
instance : TFld Try.prog 183 2 4 := ⟨_, _, 1, Try.underlying183, rfl, rfl, by kernel_rfl⟩
instance : TFld Try.prog 183 3 6 := ⟨_, _, 1, Try.underlying183, rfl, rfl, by kernel_rfl⟩
instance : TFld Try.prog 183 4 8 := ⟨_, _, 1, Try.underlying183, rfl, rfl, by kernel_rfl⟩
instance : TFld Try.prog 183 5 10 := ⟨_, _, 1, Try.underlying183, rfl, rfl, by kernel_rfl⟩
instance : TEq Try.prog 183 [0, 0, 0, 0, 0, 0, 0, 0, 0, 0, 0, 0] := ⟨by kernel_rfl, by kernel_rfl, _, Try.underlying183⟩
instance : TEl Try.prog 183 12 96 (.agg #[.int .i64 0, .int .i64 0, .int .i64 0, .int .i64 0, .int .i64 0, .int .i64 0, .int .i64 0, .int .i64 0, .int .i64 0, .int .i64 0, .int .i64 0, .int .i64 0]) := ⟨by kernel_rfl, rfl, by decide⟩
instance : TZero Try.prog 183 [.int .i64 0, .int .i64 0, .int .i64 0, .int .i64 0, .int .i64 0, .int .i64 0, .int .i64 0, .int .i64 0, .int .i64 0, .int .i64 0, .int .i64 0, .int .i64 0] := ⟨.agg #[.int .i64 0, .int .i64 0, .int .i64 0, .int .i64 0, .int .i64 0, .int .i64 0, .int .i64 0, .int .i64 0, .int .i64 0, .int .i64 0, .int .i64 0, .int .i64 0], by kernel_rfl, rfl⟩
instance : TRow Try.prog 184 4 := ⟨⟨_, Try.underlying184, rfl⟩, by kernel_rfl⟩
instance : TFld Try.prog 184 0 0 := ⟨_, _, 0, Try.underlying184, rfl, rfl, by kernel_rfl⟩
instance : TFld Try.prog 184 1 1 := ⟨_, _, 0, Try.underlying184, rfl, rfl, by kernel_rfl⟩
instance : TFld Try.prog 184 2 2 := ⟨_, _, 0, Try.underlying184, rfl, rfl, by kernel_rfl⟩
instance : TFld Try.prog 184 3 3 := ⟨_, _, 0, Try.underlying184, rfl, rfl, by kernel_rfl⟩
instance : TEq Try.prog 184 [0, 0, 0, 0] := ⟨by kernel_rfl, by kernel_rfl, _, Try.underlying184⟩
instance : TEl Try.prog 184 4 32 (.agg #[.int .i64 0, .int .i64 0, .int .i64 0, .int .i64 0]) := ⟨by kernel_rfl, rfl, by decide⟩
instance : TZero Try.prog 184 [.int .i64 0, .int .i64 0, .int .i64 0, .int .i64 0] := ⟨.agg #[.int .i64 0, .int .i64 0, .int .i64 0, .int .i64 0], by kernel_rfl, rfl⟩
instance : TRow Try.prog 185 60 := ⟨⟨_, Try.underlying185, rfl⟩, by kernel_rfl⟩
instance : TFld Try.prog 185 0 0 := ⟨_, _, 0, Try.underlying185, rfl, rfl, by kernel_rfl⟩
instance : TFld Try.prog 185 1 1 := ⟨_, _, 0, Try.underlying185, rfl, rfl, by kernel_rfl⟩
instance : TFld Try.prog 185 2 2 := ⟨_, _, 0, Try.underlying185, rfl, rfl, by kernel_rfl⟩
instance : TFld Try.prog 185 3 3 := ⟨_, _, 0, Try.underlying185, rfl, rfl, by kernel_rfl⟩
instance : TFld Try.prog 185 4 4 := ⟨_, _, 0, Try.underlying185, rfl, rfl, by kernel_rfl⟩
instance : TFld Try.prog 185 5 5 := ⟨_, _, 0, Try.underlying185, rfl, rfl, by kernel_rfl⟩
instance : TFld Try.prog 185 6 6 := ⟨_, _, 0, Try.underlying185, rfl, rfl, by kernel_rfl⟩
instance : TFld Try.prog 185 7 7 := ⟨_, _, 0, Try.underlying185, rfl, rfl, by kernel_rfl⟩
instance : TFld Try.prog 185 8 8 := ⟨_, _, 0, Try.underlying185, rfl, rfl, by kernel_rfl⟩
instance : TFld Try.prog 185 9 9 := ⟨_, _, 0, Try.underlying185, rfl, rfl, by kernel_rfl⟩
instance : TFld Try.prog 185 10 10 := ⟨_, _, 0, Try.underlying185, rfl, rfl, by kernel_rfl⟩
instance : TFld Try.prog 185 11 11 := ⟨_, _, 1, Try.underlying185, rfl, rfl, by kernel_rfl⟩
instance : TFld Try.prog 185 12 13 := ⟨_, _, 1, Try.underlying185, rfl, rfl, by kernel_rfl⟩
instance : TFld Try.prog 185 13 15 := ⟨_, _, 1, Try.underlying185, rfl, rfl, by kernel_rfl⟩
instance : TFld Try.prog 185 14 17 := ⟨_, _, 1, Try.underlying185, rfl, rfl, by kernel_rfl⟩
instance : TFld Try.prog 185 15 19 := ⟨_, _, 1, Try.underlying185, rfl, rfl, by kernel_rfl⟩
instance : TFld Try.prog 185 16 21 := ⟨_, _, 1, Try.underlying185, rfl, rfl, by kernel_rfl⟩
instance : TFld Try.prog 185 17 23 := ⟨_, _, 1, Try.underlying185, rfl, rfl, by kernel_rfl⟩
instance : TFld Try.prog 185 18 25 := ⟨_, _, 0, Try.underlying185, rfl, rfl, by kernel_rfl⟩
instance : TFld Try.prog 185 19 26 := ⟨_, _, 11, Try.underlying185, rfl, rfl, by kernel_rfl⟩
instance : TFld Try.prog 185 20 38 := ⟨_, _, 11, Try.underlying185, rfl, rfl, by kernel_rfl⟩
instance : TFld Try.prog 185 21 50 := ⟨_, _, 3, Try.underlying185, rfl, rfl, by kernel_rfl⟩
instance : TFld Try.prog 185 22 54 := ⟨_, _, 3, Try.underlying185, rfl, rfl, by kernel_rfl⟩
instance : TFld Try.prog 185 23 58 := ⟨_, _, 0, Try.underlying185, rfl, rfl, by kernel_rfl⟩
instance : TFld Try.prog 185 24 59 := ⟨_, _, 0, Try.underlying185, rfl, rfl, by kernel_rfl⟩
instance : TEq Try.prog 185 [0, 0, 0, 0, 0, 0, 1, 1, 0, 0, 0, 0, 0, 0, 0, 0, 0, 0, 0, 0, 0, 0, 0, 0, 0, 0, 0, 0, 0, 0, 0, 0, 0, 0, 0, 0, 0, 0, 0, 0, 0, 0, 0, 0, 0, 0, 0, 0, 0, 0, 0, 0, 0, 0, 0, 0, 0, 0, 0, 0] := ⟨by kernel_rfl, by kernel_rfl, _, Try.underlying185⟩
instance : TEl Try.prog 185 60 472 (.agg #[.int .i64 0, .int .i64 0, .int .i64 0, .int .i64 0, .int .i64 0, .int .i64 0, .bool false, .bool false, .int .i64 0, .int .i64 0, .int .i64 0, .int .i64 0, .int .i64 0, .int .i64 0, .int .i64 0, .int .i64 0, .int .i64 0, .int .i64 0, .int .i64 0, .int .i64 0, .int .i64 0, .int .i64 0, .int .i64 0, .int .i64 0, .int .i64 0, .int .i64 0, .int .i64 0, .int .i64 0, .int .i64 0, .int .i64 0, .int .i64 0, .int .i64 0, .int .i64 0, .int .i64 0, .int .i64 0, .int .i64 0, .int .i64 0, .int .i64 0, .int .i64 0, .int .i64 0, .int .i64 0, .int .i64 0, .int .i64 0, .int .i64 0, .int .i64 0, .int .i64 0, .int .i64 0, .int .i64 0, .int .i64 0, .int .i64 0, .int .i64 0, .int .i64 0, .int .i64 0, .int .i64 0, .int .i64 0, .int .i64 0, .int .i64 0, .int .i64 0, .int .i64 0, .int .i64 0]) := ⟨by kernel_rfl, rfl, by decide⟩
instance : TZero Try.prog 185 [.int .i64 0, .int .i64 0, .int .i64 0, .int .i64 0, .int .i64 0, .int .i64 0, .bool false, .bool false, .int .i64 0, .int .i64 0, .int .i64 0, .int .i64 0, .int .i64 0, .int .i64 0, .int .i64 0, .int .i64 0, .int .i64 0, .int .i64 0, .int .i64 0, .int .i64 0, .int .i64 0, .int .i64 0, .int .i64 0, .int .i64 0, .int .i64 0, .int .i64 0, .int .i64 0, .int .i64 0, .int .i64 0, .int .i64 0, .int .i64 0, .int .i64 0, .int .i64 0, .int .i64 0, .int .i64 0, .int .i64 0, .int .i64 0, .int .i64 0, .int .i64 0, .int .i64 0, .int .i64 0, .int .i64 0, .int .i64 0, .int .i64 0, .int .i64 0, .int .i64 0, .int .i64 0, .int .i64 0, .int .i64 0, .int .i64 0, .int .i64 0, .int .i64 0, .int .i64 0, .int .i64 0, .int .i64 0, .int .i64 0, .int .i64 0, .int .i64 0, .int .i64 0, .int .i64 0] := ⟨.agg #[.int .i64 0, .int .i64 0, .int .i64 0, .int .i64 0, .int .i64 0, .int .i64 0, .bool false, .bool false, .int .i64 0, .int .i64 0, .int .i64 0, .int .i64 0, .int .i64 0, .int .i64 0, .int .i64 0, .int .i64 0, .int .i64 0, .int .i64 0, .int .i64 0, .int .i64 0, .int .i64 0, .int .i64 0, .int .i64 0, .int .i64 0, .int .i64 0, .int .i64 0, .int .i64 0, .int .i64 0, .int .i64 0, .int .i64 0, .int .i64 0, .int .i64 0, .int .i64 0, .int .i64 0, .int .i64 0, .int .i64 0, .int .i64 0, .int .i64 0, .int .i64 0, .int .i64 0, .int .i64 0, .int .i64 0, .int .i64 0, .int .i64 0, .int .i64 0, .int .i64 0, .int .i64 0, .int .i64 0, .int .i64 0, .int .i64 0, .int .i64 0, .int .i64 0, .int .i64 0, .int .i64 0, .int .i64 0, .int .i64 0, .int .i64 0, .int .i64 0, .int .i64 0, .int .i64 0], by kernel_rfl, rfl⟩
instance : TRow Try.prog 186 60 := ⟨⟨_, Try.underlying186, rfl⟩, by kernel_rfl⟩
instance : TFld Try.prog 186 0 0 := ⟨_, _, 0, Try.underlying186, rfl, rfl, by kernel_rfl⟩
instance : TFld Try.prog 186 1 1 := ⟨_, _, 0, Try.underlying186, rfl, rfl, by kernel_rfl⟩
instance : TFld Try.prog 186 2 2 := ⟨_, _, 0, Try.underlying186, rfl, rfl, by kernel_rfl⟩
instance : TFld Try.prog 186 3 3 := ⟨_, _, 0, Try.underlying186, rfl, rfl, by kernel_rfl⟩
instance : TFld Try.prog 186 4 4 := ⟨_, _, 0, Try.underlying186, rfl, rfl, by kernel_rfl⟩
instance : TFld Try.prog 186 5 5 := ⟨_, _, 0, Try.underlying186, rfl, rfl, by kernel_rfl⟩
instance : TFld Try.prog 186 6 6 := ⟨_, _, 0, Try.underlying186, rfl, rfl, by kernel_rfl⟩
instance : TFld Try.prog 186 7 7 := ⟨_, _, 0, Try.underlying186, rfl, rfl, by kernel_rfl⟩
instance : TFld Try.prog 186 8 8 := ⟨_, _, 0, Try.underlying186, rfl, rfl, by kernel_rfl⟩
instance : TFld Try.prog 186 9 9 := ⟨_, _, 0, Try.underlying186, rfl, rfl, by kernel_rfl⟩
instance : TFld Try.prog 186 10 10 := ⟨_, _, 0, Try.underlying186, rfl, rfl, by kernel_rfl⟩
instance : TFld Try.prog 186 11 11 := ⟨_, _, 1, Try.underlying186, rfl, rfl, by kernel_rfl⟩
instance : TFld Try.prog 186 12 13 := ⟨_, _, 1, Try.underlying186, rfl, rfl, by kernel_rfl⟩
instance : TFld Try.prog 186 13 15 := ⟨_, _, 1, Try.underlying186, rfl, rfl, by kernel_rfl⟩
instance : TFld Try.prog 186 14 17 := ⟨_, _, 1, Try.underlying186, rfl, rfl, by kernel_rfl⟩
instance : TFld Try.prog 186 15 19 := ⟨_, _, 1, Try.underlying186, rfl, rfl, by kernel_rfl⟩
instance : TFld Try.prog 186 16 21 := ⟨_, _, 1, Try.underlying186, rfl, rfl, by kernel_rfl⟩
instance : TFld Try.prog 186 17 23 := ⟨_, _, 1, Try.underlying186, rfl, rfl, by kernel_rfl⟩
instance : TFld Try.prog 186 18 25 := ⟨_, _, 0, Try.underlying186, rfl, rfl, by kernel_rfl⟩
instance : TFld Try.prog 186 19 26 := ⟨_, _, 11, Try.underlying186, rfl, rfl, by kernel_rfl⟩
instance : TFld Try.prog 186 20 38 := ⟨_, _, 11, Try.underlying186, rfl, rfl, by kernel_rfl⟩
instance : TFld Try.prog 186 21 50 := ⟨_, _, 3, Try.underlying186, rfl, rfl, by kernel_rfl⟩
instance : TFld Try.prog 186 22 54 := ⟨_, _, 3, Try.underlying186, rfl, rfl, by kernel_rfl⟩
instance : TFld Try.prog 186 23 58 := ⟨_, _, 0, Try.underlying186, rfl, rfl, by kernel_rfl⟩
instance : TFld Try.prog 186 24 59 := ⟨_, _, 0, Try.underlying186, rfl, rfl, by kernel_rfl⟩
instance : TEq Try.prog 186 [0, 0, 0, 0, 0, 0, 1, 1, 0, 0, 0, 0, 0, 0, 0, 0, 0, 0, 0, 0, 0, 0, 0, 0, 0, 0, 0, 0, 0, 0, 0, 0, 0, 0, 0, 0, 0, 0, 0, 0, 0, 0, 0, 0, 0, 0, 0, 0, 0, 0, 0, 0, 0, 0, 0, 0, 0, 0, 0, 0] := ⟨by kernel_rfl, by kernel_rfl, _, Try.underlying186⟩
instance : TEl Try.prog 186 60 472 (.agg #[.int .i64 0, .int .i64 0, .int .i64 0, .int .i64 0, .int .i64 0, .int .i64 0, .bool false, .bool false, .int .i64 0, .int .i64 0, .int .i64 0, .int .i64 0, .int .i64 0, .int .i64 0, .int .i64 0, .int .i64 0, .int .i64 0, .int .i64 0, .int .i64 0, .int .i64 0, .int .i64 0, .int .i64 0, .int .i64 0, .int .i64 0, .int .i64 0, .int .i64 0, .int .i64 0, .int .i64 0, .int .i64 0, .int .i64 0, .int .i64 0, .int .i64 0, .int .i64 0, .int .i64 0, .int .i64 0, .int .i64 0, .int .i64 0, .int .i64 0, .int .i64 0, .int .i64 0, .int .i64 0, .int .i64 0, .int .i64 0, .int .i64 0, .int .i64 0, .int .i64 0, .int .i64 0, .int .i64 0, .int .i64 0, .int .i64 0, .int .i64 0, .int .i64 0, .int .i64 0, .int .i64 0, .int .i64 0, .int .i64 0, .int .i64 0, .int .i64 0, .int .i64 0, .int .i64 0]) := ⟨by kernel_rfl, rfl, by decide⟩
instance : TZero Try.prog 186 [.int .i64 0, .int .i64 0, .int .i64 0, .int .i64 0, .int .i64 0, .int .i64 0, .bool false, .bool false, .int .i64 0, .int .i64 0, .int .i64 0, .int .i64 0, .int .i64 0, .int .i64 0, .int .i64 0, .int .i64 0, .int .i64 0, .int .i64 0, .int .i64 0, .int .i64 0, .int .i64 0, .int .i64 0, .int .i64 0, .int .i64 0, .int .i64 0, .int .i64 0, .int .i64 0, .int .i64 0, .int .i64 0, .int .i64 0, .int .i64 0, .int .i64 0, .int .i64 0, .int .i64 0, .int .i64 0, .int .i64 0, .int .i64 0, .int .i64 0, .int .i64 0, .int .i64 0, .int .i64 0, .int .i64 0, .int .i64 0, .int .i64 0, .int .i64 0, .int .i64 0, .int .i64 0, .int .i64 0, .int .i64 0, .int .i64 0, .int .i64 0, .int .i64 0, .int .i64 0, .int .i64 0, .int .i64 0, .int .i64 0, .int .i64 0, .int .i64 0, .int .i64 0, .int .i64 0] := ⟨.agg #[.int .i64 0, .int .i64 0, .int .i64 0, .int .i64 0, .int .i64 0, .int .i64 0, .bool false, .bool false, .int .i64 0, .int .i64 0, .int .i64 0, .int .i64 0, .int .i64 0, .int .i64 0, .int .i64 0, .int .i64 0, .int .i64 0, .int .i64 0, .int .i64 0, .int .i64 0, .int .i64 0, .int .i64 0, .int .i64 0, .int .i64 0, .int .i64 0, .int .i64 0, .int .i64 0, .int .i64 0, .int .i64 0, .int .i64 0, .int .i64 0, .int .i64 0, .int .i64 0, .int .i64 0, .int .i64 0, .int .i64 0, .int .i64 0, .int .i64 0, .int .i64 0, .int .i64 0, .int .i64 0, .int .i64 0, .int .i64 0, .int .i64 0, .int .i64 0, .int .i64 0, .int .i64 0, .int .i64 0, .int .i64 0, .int .i64 0, .int .i64 0, .int .i64 0, .int .i64 0, .int .i64 0, .int .i64 0, .int .i64 0, .int .i64 0, .int .i64 0, .int .i64 0, .int .i64 0], by kernel_rfl, rfl⟩
instance : TOne Try.prog 187 := ⟨⟨_, Try.underlying187, rfl⟩, by kernel_rfl⟩
instance : TSl Try.prog 187 222 3 := ⟨Try.underlying187, by kernel_rfl⟩
instance : TEl Try.prog 187 1 24 (.slice none 0 0) := ⟨by kernel_rfl, rfl, by decide⟩
instance : TZero Try.prog 187 [.slice none 0 0] := ⟨.slice none 0 0, by kernel_rfl, rfl⟩
instance : TRow Try.prog 188 1 := ⟨⟨_, Try.underlying188, rfl⟩, by kernel_rfl⟩
instance : TFld Try.prog 188 0 0 := ⟨_, _, 0, Try.underlying188, rfl, rfl, by kernel_rfl⟩
instance : TEl Try.prog 188 1 24 (.agg #[.slice none 0 0]) := ⟨by kernel_rfl, rfl, by decide⟩
instance : TZero Try.prog 188 [.slice none 0 0] := ⟨.agg #[.slice none 0 0], by kernel_rfl, rfl⟩
instance : TRow Try.prog 189 1 := ⟨⟨_, Try.underlying189, rfl⟩, by kernel_rfl⟩
instance : TFld Try.prog 189 0 0 := ⟨_, _, 0, Try.underlying189, rfl, rfl, by kernel_rfl⟩
instance : TEl Try.prog 189 1 24 (.agg #[.slice none 0 0]) := ⟨by kernel_rfl, rfl, by decide⟩
instance : TZero Try.prog 189 [.slice none 0 0] := ⟨.agg #[.slice none 0 0], by kernel_rfl, rfl⟩
instance : TRow Try.prog 190 64 := ⟨⟨_, Try.underlying190, rfl⟩, by kernel_rfl⟩
instance : TFld Try.prog 190 0 0 := ⟨_, _, 0, Try.underlying190, rfl, rfl, by kernel_rfl⟩
instance : TFld Try.prog 190 1 1 := ⟨_, _, 0, Try.underlying190, rfl, rfl, by kernel_rfl⟩
instance : TFld Try.prog 190 2 2 := ⟨_, _, 59, Try.underlying190, rfl, rfl, by kernel_rfl⟩
instance : TFld Try.prog 190 3 62 := ⟨_, _, 0, Try.underlying190, rfl, rfl, by kernel_rfl⟩
instance : TFld Try.prog 190 4 63 := ⟨_, _, 0, Try.underlying190, rfl, rfl, by kernel_rfl⟩
instance : TEl Try.prog 190 64 536 (.agg #[.int .i64 0, .slice none 0 0, .int .i64 0, .int .i64 0, .int .i64 0, .int .i64 0, .int .i64 0, .int .i64 0, .bool false, .bool false, .int .i64 0, .int .i64 0, .int .i64 0, .int .i64 0, .int .i64 0, .int .i64 0, .int .i64 0, .int .i64 0, .int .i64 0, .int .i64 0, .int .i64 0, .int .i64 0, .int .i64 0, .int .i64 0, .int .i64 0, .int .i64 0, .int .i64 0, .int .i64 0, .int .i64 0, .int .i64 0, .int .i64 0, .int .i64 0, .int .i64 0, .int .i64 0, .int .i64 0, .int .i64 0, .int .i64 0, .int .i64 0, .int .i64 0, .int .i64 0, .int .i64 0, .int .i64 0, .int .i64 0, .int .i64 0, .int .i64 0, .int .i64 0, .int .i64 0, .int .i64 0, .int .i64 0, .int .i64 0, .int .i64 0, .int .i64 0, .int .i64 0, .int .i64 0, .int .i64 0, .int .i64 0, .int .i64 0, .int .i64 0, .int .i64 0, .int .i64 0, .int .i64 0, .int .i64 0, .bool false, .slice none 0 0]) := ⟨by kernel_rfl, rfl, by decide⟩
instance : TZero Try.prog 190 [.int .i64 0, .slice none 0 0, .int .i64 0, .int .i64 0, .int .i64 0, .int .i64 0, .int .i64 0, .int .i64 0, .bool false, .bool false, .int .i64 0, .int .i64 0, .int .i64 0, .int .i64 0, .int .i64 0, .int .i64 0, .int .i64 0, .int .i64 0, .int .i64 0, .int .i64 0, .int .i64 0, .int .i64 0, .int .i64 0, .int .i64 0, .int .i64 0, .int .i64 0, .int .i64 0, .int .i64 0, .int .i64 0, .int .i64 0, .int .i64 0, .int .i64 0, .int .i64 0, .int .i64 0, .int .i64 0, .int .i64 0, .int .i64 0, .int .i64 0, .int .i64 0, .int .i64 0, .int .i64 0, .int .i64 0, .int .i64 0, .int .i64 0, .int .i64 0, .int .i64 0, .int .i64 0, .int .i64 0, .int .i64 0, .int .i64 0, .int .i64 0, .int .i64 0, .int .i64 0, .int .i64 0, .int .i64 0, .int .i64 0, .int .i64 0, .int .i64 0, .int .i64 0, .int .i64 0, .int .i64 0, .int .i64 0, .bool false, .slice none 0 0] := ⟨.agg #[.int .i64 0, .slice none 0 0, .int .i64 0, .int .i64 0, .int .i64 0, .int .i64 0, .int .i64 0, .int .i64 0, .bool false, .bool false, .int .i64 0, .int .i64 0, .int .i64 0, .int .i64 0, .int .i64 0, .int .i64 0, .int .i64 0, .int .i64 0, .int .i64 0, .int .i64 0, .int .i64 0, .int .i64 0, .int .i64 0, .int .i64 0, .int .i64 0, .int .i64 0, .int .i64 0, .int .i64 0, .int .i64 0, .int .i64 0, .int .i64 0, .int .i64 0, .int .i64 0, .int .i64 0, .int .i64 0, .int .i64 0, .int .i64 0, .int .i64 0, .int .i64 0, .int .i64 0, .int .i64 0, .int .i64 0, .int .i64 0, .int .i64 0, .int .i64 0, .int .i64 0, .int .i64 0, .int .i64 0, .int .i64 0, .int .i64 0, .int .i64 0, .int .i64 0, .int .i64 0, .int .i64 0, .int .i64 0, .int .i64 0, .int .i64 0, .int .i64 0, .int .i64 0, .int .i64 0, .int .i64 0, .int .i64 0, .bool false, .slice none 0 0], by kernel_rfl, rfl⟩
instance : TRow Try.prog 191 64 := ⟨⟨_, Try.underlying191, rfl⟩, by kernel_rfl⟩
instance : TFld Try.prog 191 0 0 := ⟨_, _, 0, Try.underlying191, rfl, rfl, by kernel_rfl⟩
instance : TFld Try.prog 191 1 1 := ⟨_, _, 0, Try.underlying191, rfl, rfl, by kernel_rfl⟩
instance : TFld Try.prog 191 2 2 := ⟨_, _, 59, Try.underlying191, rfl, rfl, by kernel_rfl⟩
instance : TFld Try.prog 191 3 62 := ⟨_, _, 0, Try.underlying191, rfl, rfl, by kernel_rfl⟩
instance : TFld Try.prog 191 4 63 := ⟨_, _, 0, Try.underlying191, rfl, rfl, by kernel_rfl⟩
instance : TEl Try.prog 191 64 536 (.agg #[.int .i64 0, .slice none 0 0, .int .i64 0, .int .i64 0, .int .i64 0, .int .i64 0, .int .i64 0, .int .i64 0, .bool false, .bool false, .int .i64 0, .int .i64 0, .int .i64 0, .int .i64 0, .int .i64 0, .int .i64 0, .int .i64 0, .int .i64 0, .int .i64 0, .int .i64 0, .int .i64 0, .int .i64 0, .int .i64 0, .int .i64 0, .int .i64 0, .int .i64 0, .int .i64 0, .int .i64 0, .int .i64 0, .int .i64 0, .int .i64 0, .int .i64 0, .int .i64 0, .int .i64 0, .int .i64 0, .int .i64 0, .int .i64 0, .int .i64 0, .int .i64 0, .int .i64 0, .int .i64 0, .int .i64 0, .int .i64 0, .int .i64 0, .int .i64 0, .int .i64 0, .int .i64 0, .int .i64 0, .int .i64 0, .int .i64 0, .int .i64 0, .int .i64 0, .int .i64 0, .int .i64 0, .int .i64 0, .int .i64 0, .int .i64 0, .int .i64 0, .int .i64 0, .int .i64 0, .int .i64 0, .int .i64 0, .bool false, .slice none 0 0]) := ⟨by kernel_rfl, rfl, by decide⟩
instance : TZero Try.prog 191 [.int .i64 0, .slice none 0 0, .int .i64 0, .int .i64 0, .int .i64 0, .int .i64 0, .int .i64 0, .int .i64 0, .bool false, .bool false, .int .i64 0, .int .i64 0, .int .i64 0, .int .i64 0, .int .i64 0, .int .i64 0, .int .i64 0, .int .i64 0, .int .i64 0, .int .i64 0, .int .i64 0, .int .i64 0, .int .i64 0, .int .i64 0, .int .i64 0, .int .i64 0, .int .i64 0, .int .i64 0, .int .i64 0, .int .i64 0, .int .i64 0, .int .i64 0, .int .i64 0, .int .i64 0, .int .i64 0, .int .i64 0, .int .i64 0, .int .i64 0, .int .i64 0, .int .i64 0, .int .i64 0, .int .i64 0, .int .i64 0, .int .i64 0, .int .i64 0, .int .i64 0, .int .i64 0, .int .i64 0, .int .i64 0, .int .i64 0, .int .i64 0, .int .i64 0, .int .i64 0, .int .i64 0, .int .i64 0, .int .i64 0, .int .i64 0, .int .i64 0, .int .i64 0, .int .i64 0, .int .i64 0, .int .i64 0, .bool false, .slice none 0 0] := ⟨.agg #[.int .i64 0, .slice none 0 0, .int .i64 0, .int .i64 0, .int .i64 0, .int .i64 0, .int .i64 0, .int .i64 0, .bool false, .bool false, .int .i64 0, .int .i64 0, .int .i64 0, .int .i64 0, .int .i64 0, .int .i64 0, .int .i64 0, .int .i64 0, .int .i64 0, .int .i64 0, .int .i64 0, .int .i64 0, .int .i64 0, .int .i64 0, .int .i64 0, .int .i64 0, .int .i64 0, .int .i64 0, .int .i64 0, .int .i64 0, .int .i64 0, .int .i64 0, .int .i64 0, .int .i64 0, .int .i64 0, .int .i64 0, .int .i64 0, .int .i64 0, .int .i64 0, .int .i64 0, .int .i64 0, .int .i64 0, .int .i64 0, .int .i64 0, .int .i64 0, .int .i64 0, .int .i64 0, .int .i64 0, .int .i64 0, .int .i64 0, .int .i64 0, .int .i64 0, .int .i64 0, .int .i64 0, .int .i64 0, .int .i64 0, .int .i64 0, .int .i64 0, .int .i64 0, .int .i64 0, .int .i64 0, .int .i64 0, .bool false, .slice none 0 0], by kernel_rfl, rfl⟩
instance : TRow Try.prog 192 2 := ⟨⟨_, Try.underlying192, rfl⟩, by kernel_rfl⟩
instance : TFld Try.prog 192 0 0 := ⟨_, _, 0, Try.underlying192, rfl, rfl, by kernel_rfl⟩
instance : TFld Try.prog 192 1 1 := ⟨_, _, 0, Try.underlying192, rfl, rfl, by kernel_rfl⟩
instance : TEq Try.prog 192 [0, 0] := ⟨by kernel_rfl, by kernel_rfl, _, Try.underlying192⟩
instance : TEl Try.prog 192 2 16 (.agg #[.int .i64 0, .int .i64 0]) := ⟨by kernel_rfl, rfl, by decide⟩
instance : TZero Try.prog 192 [.int .i64 0, .int .i64 0] := ⟨.agg #[.int .i64 0, .int .i64 0], by kernel_rfl, rfl⟩
instance : TRow Try.prog 193 4 := ⟨⟨_, Try.underlying193, rfl⟩, by kernel_rfl⟩
instance : TFld Try.prog 193 0 0 := ⟨_, _, 0, Try.underlying193, rfl, rfl, by kernel_rfl⟩
instance : TFld Try.prog 193 1 1 := ⟨_, _, 0, Try.underlying193, rfl, rfl, by kernel_rfl⟩
instance : TFld Try.prog 193 2 2 := ⟨_, _, 0, Try.underlying193, rfl, rfl, by kernel_rfl⟩
instance : TFld Try.prog 193 3 3 := ⟨_, _, 0, Try.underlying193, rfl, rfl, by kernel_rfl⟩
instance : TEl Try.prog 193 4 48 (.agg #[.int .i64 0, .int .i64 0, .int .i64 0, .slice none 0 0]) := ⟨by kernel_rfl, rfl, by decide⟩
instance : TZero Try.prog 193 [.int .i64 0, .int .i64 0, .int .i64 0, .slice none 0 0] := ⟨.agg #[.int .i64 0, .int .i64 0, .int .i64 0, .slice none 0 0], by kernel_rfl, rfl⟩
instance : TRow Try.prog 194 4 := ⟨⟨_, Try.underlying194, rfl⟩, by kernel_rfl⟩
instance : TFld Try.prog 194 0 0 := ⟨_, _, 0, Try.underlying194, rfl, rfl, by kernel_rfl⟩
instance : TFld Try.prog 194 1 1 := ⟨_, _, 0, Try.underlying194, rfl, rfl, by kernel_rfl⟩
instance : TFld Try.prog 194 2 2 := ⟨_, _, 0, Try.underlying194, rfl, rfl, by kernel_rfl⟩
instance : TFld Try.prog 194 3 3 := ⟨_, _, 0, Try.underlying194, rfl, rfl, by kernel_rfl⟩
instance : TEl Try.prog 194 4 48 (.agg #[.int .i64 0, .int .i64 0, .int .i64 0, .slice none 0 0]) := ⟨by kernel_rfl, rfl, by decide⟩
instance : TZero Try.prog 194 [.int .i64 0, .int .i64 0, .int .i64 0, .slice none 0 0] := ⟨.agg #[.int .i64 0, .int .i64 0, .int .i64 0, .slice none 0 0], by kernel_rfl, rfl⟩
instance : TRow Try.prog 195 10 := ⟨⟨_, Try.underlying195, rfl⟩, by kernel_rfl⟩
instance : TFld Try.prog 195 0 0 := ⟨_, _, 0, Try.underlying195, rfl, rfl, by kernel_rfl⟩
instance : TFld Try.prog 195 1 1 := ⟨_, _, 1, Try.underlying195, rfl, rfl, by kernel_rfl⟩
instance : TFld Try.prog 195 2 3 := ⟨_, _, 1, Try.underlying195, rfl, rfl, by kernel_rfl⟩
instance : TFld Try.prog 195 3 5 := ⟨_, _, 0, Try.underlying195, rfl, rfl, by kernel_rfl⟩
instance : TFld Try.prog 195 4 6 := ⟨_, _, 3, Try.underlying195, rfl, rfl, by kernel_rfl⟩
instance : TEl Try.prog 195 10 96 (.agg #[.int .i64 0, .int .i64 0, .int .i64 0, .int .i64 0, .int .i64 0, .bool false, .int .i64 0, .int .i64 0, .int .i64 0, .slice none 0 0]) := ⟨by kernel_rfl, rfl, by decide⟩
instance : TZero Try.prog 195 [.int .i64 0, .int .i64 0, .int .i64 0, .int .i64 0, .int .i64 0, .bool false, .int .i64 0, .int .i64 0, .int .i64 0, .slice none 0 0] := ⟨.agg #[.int .i64 0, .int .i64 0, .int .i64 0, .int .i64 0, .int .i64 0, .bool false, .int .i64 0, .int .i64 0, .int .i64 0, .slice none 0 0], by kernel_rfl, rfl⟩
instance : TRow Try.prog 196 10 := ⟨⟨_, Try.underlying196, rfl⟩, by kernel_rfl⟩
instance : TFld Try.prog 196 0 0 := ⟨_, _, 0, Try.underlying196, rfl, rfl, by kernel_rfl⟩
instance : TFld Try.prog 196 1 1 := ⟨_, _, 1, Try.underlying196, rfl, rfl, by kernel_rfl⟩
instance : TFld Try.prog 196 2 3 := ⟨_, _, 1, Try.underlying196, rfl, rfl, by kernel_rfl⟩
instance : TFld Try.prog 196 3 5 := ⟨_, _, 0, Try.underlying196, rfl, rfl, by kernel_rfl⟩
instance : TFld Try.prog 196 4 6 := ⟨_, _, 3, Try.underlying196, rfl, rfl, by kernel_rfl⟩
instance : TEl Try.prog 196 10 96 (.agg #[.int .i64 0, .int .i64 0, .int .i64 0, .int .i64 0, .int .i64 0, .bool false, .int .i64 0, .int .i64 0, .int .i64 0, .slice none 0 0]) := ⟨by kernel_rfl, rfl, by decide⟩
instance : TZero Try.prog 196 [.int .i64 0, .int .i64 0, .int .i64 0, .int .i64 0, .int .i64 0, .bool false, .int .i64 0, .int .i64 0, .int .i64 0, .slice none 0 0] := ⟨.agg #[.int .i64 0, .int .i64 0, .int .i64 0, .int .i64 0, .int .i64 0, .bool false, .int .i64 0, .int .i64 0, .int .i64 0, .slice none 0 0], by kernel_rfl, rfl⟩
instance : TRow Try.prog 200 6 := ⟨⟨_, Try.underlying200, rfl⟩, by kernel_rfl⟩
instance : TFld Try.prog 200 0 0 := ⟨_, _, 0, Try.underlying200, rfl, rfl, by kernel_rfl⟩
instance : TFld Try.prog 200 1 1 := ⟨_, _, 1, Try.underlying200, rfl, rfl, by kernel_rfl⟩
instance : TFld Try.prog 200 2 3 := ⟨_, _, 1, Try.underlying200, rfl, rfl, by kernel_rfl⟩
instance : TFld Try.prog 200 3 5 := ⟨_, _, 0, Try.underlying200, rfl, rfl, by kernel_rfl⟩
instance : TEq Try.prog 200 [0, 0, 0, 0, 0, 1] := ⟨by kernel_rfl, by kernel_rfl, _, Try.underlying200⟩
instance : TEl Try.prog 200 6 48 (.agg #[.int .i64 0, .int .i64 0, .int .i64 0, .int .i64 0, .int .i64 0, .bool false]) := ⟨by kernel_rfl, rfl, by decide⟩
instance : TZero Try.prog 200 [.int .i64 0, .int .i64 0, .int .i64 0, .int .i64 0, .int .i64 0, .bool false] := ⟨.agg #[.int .i64 0, .int .i64 0, .int .i64 0, .int .i64 0, .int .i64 0, .bool false], by kernel_rfl, rfl⟩
instance : TRow Try.prog 201 6 := ⟨⟨_, Try.underlying201, rfl⟩, by kernel_rfl⟩
instance : TFld Try.prog 201 0 0 := ⟨_, _, 0, Try.underlying201, rfl, rfl, by kernel_rfl⟩
instance : TFld Try.prog 201 1 1 := ⟨_, _, 1, Try.underlying201, rfl, rfl, by kernel_rfl⟩
instance : TFld Try.prog 201 2 3 := ⟨_, _, 1, Try.underlying201, rfl, rfl, by kernel_rfl⟩
instance : TFld Try.prog 201 3 5 := ⟨_, _, 0, Try.underlying201, rfl, rfl, by kernel_rfl⟩
instance : TEq Try.prog 201 [0, 0, 0, 0, 0, 1] := ⟨by kernel_rfl, by kernel_rfl, _, Try.underlying201⟩
instance : TEl Try.prog 201 6 48 (.agg #[.int .i64 0, .int .i64 0, .int .i64 0, .int .i64 0, .int .i64 0, .bool false]) := ⟨by kernel_rfl, rfl, by decide⟩
instance : TZero Try.prog 201 [.int .i64 0, .int .i64 0, .int .i64 0, .int .i64 0, .int .i64 0, .bool false] := ⟨.agg #[.int .i64 0, .int .i64 0, .int .i64 0, .int .i64 0, .int .i64 0, .bool false], by kernel_rfl, rfl⟩
instance : TRow Try.prog 203 6 := ⟨⟨_, Try.underlying203, rfl⟩, by kernel_rfl⟩
instance : TFld Try.prog 203 0 0 := ⟨_, _, 0, Try.underlying203, rfl, rfl, by kernel_rfl⟩
instance : TFld Try.prog 203 1 1 := ⟨_, _, 1, Try.underlying203, rfl, rfl, by kernel_rfl⟩
instance : TFld Try.prog 203 2 3 := ⟨_, _, 1, Try.underlying203, rfl, rfl, by kernel_rfl⟩
instance : TFld Try.prog 203 3 5 := ⟨_, _, 0, Try.underlying203, rfl, rfl, by kernel_rfl⟩
instance : TEq Try.prog 203 [0, 0, 0, 0, 0, 1] := ⟨by kernel_rfl, by kernel_rfl, _, Try.underlying203⟩
instance : TEl Try.prog 203 6 48 (.agg #[.int .i64 0, .int .i64 0, .int .i64 0, .int .i64 0, .int .i64 0, .bool false]) := ⟨by kernel_rfl, rfl, by decide⟩
instance : TZero Try.prog 203 [.int .i64 0, .int .i64 0, .int .i64 0, .int .i64 0, .int .i64 0, .bool false] := ⟨.agg #[.int .i64 0, .int .i64 0, .int .i64 0, .int .i64 0, .int .i64 0, .bool false], by kernel_rfl, rfl⟩
instance : TRow Try.prog 204 6 := ⟨⟨_, Try.underlying204, rfl⟩, by kernel_rfl⟩
instance : TFld Try.prog 204 0 0 := ⟨_, _, 0, Try.underlying204, rfl, rfl, by kernel_rfl⟩
instance : TFld Try.prog 204 1 1 := ⟨_, _, 1, Try.underlying204, rfl, rfl, by kernel_rfl⟩
instance : TFld Try.prog 204 2 3 := ⟨_, _, 1, Try.underlying204, rfl, rfl, by kernel_rfl⟩
instance : TFld Try.prog 204 3 5 := ⟨_, _, 0, Try.underlying204, rfl, rfl, by kernel_rfl⟩
instance : TEq Try.prog 204 [0, 0, 0, 0, 0, 1] := ⟨by kernel_rfl, by kernel_rfl, _, Try.underlying204⟩
instance : TEl Try.prog 204 6 48 (.agg #[.int .i64 0, .int .i64 0, .int .i64 0, .int .i64 0, .int .i64 0, .bool false]) := ⟨by kernel_rfl, rfl, by decide⟩
instance : TZero Try.prog 204 [.int .i64 0, .int .i64 0, .int .i64 0, .int .i64 0, .int .i64 0, .bool false] := ⟨.agg #[.int .i64 0, .int .i64 0, .int .i64 0, .int .i64 0, .int .i64 0, .bool false], by kernel_rfl, rfl⟩
instance : TRow Try.prog 221 3 := ⟨⟨_, Try.underlying221, rfl⟩, by kernel_rfl⟩
instance : TFld Try.prog 221 0 0 := ⟨_, _, 0, Try.underlying221, rfl, rfl, by kernel_rfl⟩
instance : TFld Try.prog 221 1 1 := ⟨_, _, 0, Try.underlying221, rfl, rfl, by kernel_rfl⟩
instance : TFld Try.prog 221 2 2 := ⟨_, _, 0, Try.underlying221, rfl, rfl, by kernel_rfl⟩
instance : TEq Try.prog 221 [0, 0, 0] := ⟨by kernel_rfl, by kernel_rfl, _, Try.underlying221⟩
instance : TEl Try.prog 221 3 24 (.agg #[.int .i64 0, .int .i64 0, .int .i64 0]) := ⟨by kernel_rfl, rfl, by decide⟩
instance : TZero Try.prog 221 [.int .i64 0, .int .i64 0, .int .i64 0] := ⟨.agg #[.int .i64 0, .int .i64 0, .int .i64 0], by kernel_rfl, rfl⟩
instance : TRow Try.prog 222 3 := ⟨⟨_, Try.underlying222, rfl⟩, by kernel_rfl⟩
instance : TFld Try.prog 222 0 0 := ⟨_, _, 0, Try.underlying222, rfl, rfl, by kernel_rfl⟩
instance : TFld Try.prog 222 1 1 := ⟨_, _, 0, Try.underlying222, rfl, rfl, by kernel_rfl⟩
instance : TFld Try.prog 222 2 2 := ⟨_, _, 0, Try.underlying222, rfl, rfl, by kernel_rfl⟩
instance : TEq Try.prog 222 [0, 0, 0] := ⟨by kernel_rfl, by kernel_rfl, _, Try.underlying222⟩
instance : TEl Try.prog 222 3 24 (.agg #[.int .i64 0, .int .i64 0, .int .i64 0]) := ⟨by kernel_rfl, rfl, by decide⟩
instance : TZero Try.prog 222 [.int .i64 0, .int .i64 0, .int .i64 0] := ⟨.agg #[.int .i64 0, .int .i64 0, .int .i64 0], by kernel_rfl, rfl⟩
instance : TRow Try.prog 233 3 := ⟨⟨_, Try.underlying233, rfl⟩, by kernel_rfl⟩
instance : TFld Try.prog 233 0 0 := ⟨_, _, 0, Try.underlying233, rfl, rfl, by kernel_rfl⟩
instance : TFld Try.prog 233 1 1 := ⟨_, _, 0, Try.underlying233, rfl, rfl, by kernel_rfl⟩
instance : TFld Try.prog 233 2 2 := ⟨_, _, 0, Try.underlying233, rfl, rfl, by kernel_rfl⟩
instance : TEq Try.prog 233 [0, 0, 0] := ⟨by kernel_rfl, by kernel_rfl, _, Try.underlying233⟩
instance : TEl Try.prog 233 3 24 (.agg #[.int .i64 0, .int .i64 0, .int .i64 0]) := ⟨by kernel_rfl, rfl, by decide⟩
instance : TZero Try.prog 233 [.int .i64 0, .int .i64 0, .int .i64 0] := ⟨.agg #[.int .i64 0, .int .i64 0, .int .i64 0], by kernel_rfl, rfl⟩
instance : TRow Try.prog 236 4 := ⟨⟨_, Try.underlying236, rfl⟩, by kernel_rfl⟩
instance : TFld Try.prog 236 0 0 := ⟨_, _, 0, Try.underlying236, rfl, rfl, by kernel_rfl⟩
instance : TFld Try.prog 236 1 1 := ⟨_, _, 0, Try.underlying236, rfl, rfl, by kernel_rfl⟩
instance : TFld Try.prog 236 2 2 := ⟨_, _, 0, Try.underlying236, rfl, rfl, by kernel_rfl⟩
instance : TFld Try.prog 236 3 3 := ⟨_, _, 0, Try.underlying236, rfl, rfl, by kernel_rfl⟩
instance : TEl Try.prog 236 4 40 (.agg #[.pointer none, .pointer none, .pointer none, .string ⟨#[]⟩]) := ⟨by kernel_rfl, rfl, by decide⟩
instance : TZero Try.prog 236 [.pointer none, .pointer none, .pointer none, .string ⟨#[]⟩] := ⟨.agg #[.pointer none, .pointer none, .pointer none, .string ⟨#[]⟩], by kernel_rfl, rfl⟩
instance : TRow Try.prog 237 4 := ⟨⟨_, Try.underlying237, rfl⟩, by kernel_rfl⟩
instance : TFld Try.prog 237 0 0 := ⟨_, _, 0, Try.underlying237, rfl, rfl, by kernel_rfl⟩
instance : TFld Try.prog 237 1 1 := ⟨_, _, 0, Try.underlying237, rfl, rfl, by kernel_rfl⟩
instance : TFld Try.prog 237 2 2 := ⟨_, _, 0, Try.underlying237, rfl, rfl, by kernel_rfl⟩
instance : TFld Try.prog 237 3 3 := ⟨_, _, 0, Try.underlying237, rfl, rfl, by kernel_rfl⟩
instance : TEl Try.prog 237 4 40 (.agg #[.pointer none, .pointer none, .pointer none, .string ⟨#[]⟩]) := ⟨by kernel_rfl, rfl, by decide⟩
instance : TZero Try.prog 237 [.pointer none, .pointer none, .pointer none, .string ⟨#[]⟩] := ⟨.agg #[.pointer none, .pointer none, .pointer none, .string ⟨#[]⟩], by kernel_rfl, rfl⟩
instance : TOne Try.prog 242 := ⟨⟨_, Try.underlying242, rfl⟩, by kernel_rfl⟩
instance : TEl Try.prog 242 1 4 (.int .u32 0) := ⟨by kernel_rfl, rfl, by decide⟩
instance : TZero Try.prog 242 [.int .u32 0] := ⟨.int .u32 0, by kernel_rfl, rfl⟩
instance : TOne Try.prog 243 := ⟨⟨_, Try.underlying243, rfl⟩, by kernel_rfl⟩
instance : TEl Try.prog 243 1 1 (.int .u8 0) := ⟨by kernel_rfl, rfl, by decide⟩
instance : TZero Try.prog 243 [.int .u8 0] := ⟨.int .u8 0, by kernel_rfl, rfl⟩
instance : TOne Try.prog 244 := ⟨⟨_, Try.underlying244, rfl⟩, by kernel_rfl⟩
instance : TEl Try.prog 244 1 1 (.int .u8 0) := ⟨by kernel_rfl, rfl, by decide⟩
instance : TZero Try.prog 244 [.int .u8 0] := ⟨.int .u8 0, by kernel_rfl, rfl⟩
instance : TOne Try.prog 246 := ⟨⟨_, Try.underlying246, rfl⟩, by kernel_rfl⟩
instance : TPtr Try.prog 246 := ⟨⟨_, Try.underlying246⟩⟩
instance : TEl Try.prog 246 1 8 (.pointer none) := ⟨by kernel_rfl, rfl, by decide⟩
instance : TZero Try.prog 246 [.pointer none] := ⟨.pointer none, by kernel_rfl, rfl⟩
instance : TOne Try.prog 247 := ⟨⟨_, Try.underlying247, rfl⟩, by kernel_rfl⟩
instance : TEl Try.prog 247 1 4 (.int .i32 0) := ⟨by kernel_rfl, rfl, by decide⟩
instance : TZero Try.prog 247 [.int .i32 0] := ⟨.int .i32 0, by kernel_rfl, rfl⟩
instance : TOne Try.prog 248 := ⟨⟨_, Try.underlying248, rfl⟩, by kernel_rfl⟩
instance : TEl Try.prog 248 1 4 (.int .i32 0) := ⟨by kernel_rfl, rfl, by decide⟩
instance : TZero Try.prog 248 [.int .i32 0] := ⟨.int .i32 0, by kernel_rfl, rfl⟩
instance : TRow Try.prog 249 11 := ⟨⟨_, Try.underlying249, rfl⟩, by kernel_rfl⟩
instance : TFld Try.prog 249 0 0 := ⟨_, _, 0, Try.underlying249, rfl, rfl, by kernel_rfl⟩
instance : TFld Try.prog 249 1 1 := ⟨_, _, 0, Try.underlying249, rfl, rfl, by kernel_rfl⟩
instance : TFld Try.prog 249 2 2 := ⟨_, _, 0, Try.underlying249, rfl, rfl, by kernel_rfl⟩
instance : TFld Try.prog 249 3 3 := ⟨_, _, 0, Try.underlying249, rfl, rfl, by kernel_rfl⟩
instance : TFld Try.prog 249 4 4 := ⟨_, _, 0, Try.underlying249, rfl, rfl, by kernel_rfl⟩
instance : TFld Try.prog 249 5 5 := ⟨_, _, 0, Try.underlying249, rfl, rfl, by kernel_rfl⟩
instance : TFld Try.prog 249 6 6 := ⟨_, _, 0, Try.underlying249, rfl, rfl, by kernel_rfl⟩
instance : TFld Try.prog 249 7 7 := ⟨_, _, 0, Try.underlying249, rfl, rfl, by kernel_rfl⟩
instance : TFld Try.prog 249 8 8 := ⟨_, _, 0, Try.underlying249, rfl, rfl, by kernel_rfl⟩
instance : TFld Try.prog 249 9 9 := ⟨_, _, 0, Try.underlying249, rfl, rfl, by kernel_rfl⟩
instance : TFld Try.prog 249 10 10 := ⟨_, _, 0, Try.underlying249, rfl, rfl, by kernel_rfl⟩
instance : TRow Try.prog 250 11 := ⟨⟨_, Try.underlying250, rfl⟩, by kernel_rfl⟩
instance : TFld Try.prog 250 0 0 := ⟨_, _, 0, Try.underlying250, rfl, rfl, by kernel_rfl⟩
instance : TFld Try.prog 250 1 1 := ⟨_, _, 0, Try.underlying250, rfl, rfl, by kernel_rfl⟩
instance : TFld Try.prog 250 2 2 := ⟨_, _, 0, Try.underlying250, rfl, rfl, by kernel_rfl⟩
instance : TFld Try.prog 250 3 3 := ⟨_, _, 0, Try.underlying250, rfl, rfl, by kernel_rfl⟩
instance : TFld Try.prog 250 4 4 := ⟨_, _, 0, Try.underlying250, rfl, rfl, by kernel_rfl⟩
instance : TFld Try.prog 250 5 5 := ⟨_, _, 0, Try.underlying250, rfl, rfl, by kernel_rfl⟩
instance : TFld Try.prog 250 6 6 := ⟨_, _, 0, Try.underlying250, rfl, rfl, by kernel_rfl⟩
instance : TFld Try.prog 250 7 7 := ⟨_, _, 0, Try.underlying250, rfl, rfl, by kernel_rfl⟩
instance : TFld Try.prog 250 8 8 := ⟨_, _, 0, Try.underlying250, rfl, rfl, by kernel_rfl⟩
instance : TFld Try.prog 250 9 9 := ⟨_, _, 0, Try.underlying250, rfl, rfl, by kernel_rfl⟩
instance : TFld Try.prog 250 10 10 := ⟨_, _, 0, Try.underlying250, rfl, rfl, by kernel_rfl⟩
instance : TFun Try.prog 3 := ⟨_, Try.func3, by kernel_rfl, by kernel_rfl⟩
instance : TFun Try.prog 4 := ⟨_, Try.func4, by kernel_rfl, by kernel_rfl⟩
instance : TFun Try.prog 5 := ⟨_, Try.func5, by kernel_rfl, by kernel_rfl⟩
instance : TFun Try.prog 6 := ⟨_, Try.func6, by kernel_rfl, by kernel_rfl⟩
instance : TFun Try.prog 7 := ⟨_, Try.func7, by kernel_rfl, by kernel_rfl⟩
instance : TFun Try.prog 8 := ⟨_, Try.func8, by kernel_rfl, by kernel_rfl⟩
instance : TFun Try.prog 9 := ⟨_, Try.func9, by kernel_rfl, by kernel_rfl⟩
instance : TFun Try.prog 10 := ⟨_, Try.func10, by kernel_rfl, by kernel_rfl⟩
instance : TFun Try.prog 11 := ⟨_, Try.func11, by kernel_rfl, by kernel_rfl⟩
instance : TFun Try.prog 12 := ⟨_, Try.func12, by kernel_rfl, by kernel_rfl⟩
instance : TFun Try.prog 13 := ⟨_, Try.func13, by kernel_rfl, by kernel_rfl⟩
instance : TFun Try.prog 14 := ⟨_, Try.func14, by kernel_rfl, by kernel_rfl⟩
instance : TFun Try.prog 15 := ⟨_, Try.func15, by kernel_rfl, by kernel_rfl⟩
instance : TFun Try.prog 16 := ⟨_, Try.func16, by kernel_rfl, by kernel_rfl⟩
instance : TFun Try.prog 17 := ⟨_, Try.func17, by kernel_rfl, by kernel_rfl⟩
instance : TFun Try.prog 18 := ⟨_, Try.func18, by kernel_rfl, by kernel_rfl⟩
instance : TFun Try.prog 19 := ⟨_, Try.func19, by kernel_rfl, by kernel_rfl⟩
instance : TFun Try.prog 20 := ⟨_, Try.func20, by kernel_rfl, by kernel_rfl⟩
instance : TFun Try.prog 21 := ⟨_, Try.func21, by kernel_rfl, by kernel_rfl⟩
instance : TFun Try.prog 22 := ⟨_, Try.func22, by kernel_rfl, by kernel_rfl⟩
instance : TFun Try.prog 23 := ⟨_, Try.func23, by kernel_rfl, by kernel_rfl⟩
instance : TFun Try.prog 24 := ⟨_, Try.func24, by kernel_rfl, by kernel_rfl⟩
instance : TFun Try.prog 25 := ⟨_, Try.func25, by kernel_rfl, by kernel_rfl⟩
instance : TFun Try.prog 26 := ⟨_, Try.func26, by kernel_rfl, by kernel_rfl⟩
instance : TFun Try.prog 27 := ⟨_, Try.func27, by kernel_rfl, by kernel_rfl⟩
instance : TFun Try.prog 28 := ⟨_, Try.func28, by kernel_rfl, by kernel_rfl⟩
instance : TFun Try.prog 29 := ⟨_, Try.func29, by kernel_rfl, by kernel_rfl⟩
instance : TFun Try.prog 30 := ⟨_, Try.func30, by kernel_rfl, by kernel_rfl⟩
instance : TFun Try.prog 31 := ⟨_, Try.func31, by kernel_rfl, by kernel_rfl⟩
instance : TFun Try.prog 32 := ⟨_, Try.func32, by kernel_rfl, by kernel_rfl⟩
instance : TFun Try.prog 33 := ⟨_, Try.func33, by kernel_rfl, by kernel_rfl⟩
instance : TFun Try.prog 34 := ⟨_, Try.func34, by kernel_rfl, by kernel_rfl⟩
instance : TFun Try.prog 35 := ⟨_, Try.func35, by kernel_rfl, by kernel_rfl⟩
instance : TFun Try.prog 36 := ⟨_, Try.func36, by kernel_rfl, by kernel_rfl⟩
instance : TFun Try.prog 37 := ⟨_, Try.func37, by kernel_rfl, by kernel_rfl⟩
instance : TFun Try.prog 38 := ⟨_, Try.func38, by kernel_rfl, by kernel_rfl⟩
instance : TFun Try.prog 39 := ⟨_, Try.func39, by kernel_rfl, by kernel_rfl⟩
instance : TFun Try.prog 40 := ⟨_, Try.func40, by kernel_rfl, by kernel_rfl⟩
instance : TFun Try.prog 41 := ⟨_, Try.func41, by kernel_rfl, by kernel_rfl⟩
instance : TFun Try.prog 42 := ⟨_, Try.func42, by kernel_rfl, by kernel_rfl⟩
instance : TFun Try.prog 43 := ⟨_, Try.func43, by kernel_rfl, by kernel_rfl⟩
instance : TFun Try.prog 44 := ⟨_, Try.func44, by kernel_rfl, by kernel_rfl⟩
instance : TFun Try.prog 45 := ⟨_, Try.func45, by kernel_rfl, by kernel_rfl⟩
instance : TFun Try.prog 46 := ⟨_, Try.func46, by kernel_rfl, by kernel_rfl⟩
instance : TFun Try.prog 47 := ⟨_, Try.func47, by kernel_rfl, by kernel_rfl⟩
instance : TFun Try.prog 48 := ⟨_, Try.func48, by kernel_rfl, by kernel_rfl⟩
instance : TFun Try.prog 49 := ⟨_, Try.func49, by kernel_rfl, by kernel_rfl⟩
instance : TFun Try.prog 50 := ⟨_, Try.func50, by kernel_rfl, by kernel_rfl⟩
instance : TFun Try.prog 51 := ⟨_, Try.func51, by kernel_rfl, by kernel_rfl⟩
instance : TFun Try.prog 52 := ⟨_, Try.func52, by kernel_rfl, by kernel_rfl⟩
instance : TFun Try.prog 53 := ⟨_, Try.func53, by kernel_rfl, by kernel_rfl⟩
instance : TFun Try.prog 54 := ⟨_, Try.func54, by kernel_rfl, by kernel_rfl⟩
instance : TFun Try.prog 55 := ⟨_, Try.func55, by kernel_rfl, by kernel_rfl⟩
instance : TFun Try.prog 56 := ⟨_, Try.func56, by kernel_rfl, by kernel_rfl⟩
instance : TFun Try.prog 57 := ⟨_, Try.func57, by kernel_rfl, by kernel_rfl⟩
instance : TFun Try.prog 58 := ⟨_, Try.func58, by kernel_rfl, by kernel_rfl⟩
instance : TFun Try.prog 59 := ⟨_, Try.func59, by kernel_rfl, by kernel_rfl⟩
instance : TFun Try.prog 60 := ⟨_, Try.func60, by kernel_rfl, by kernel_rfl⟩
instance : TFun Try.prog 61 := ⟨_, Try.func61, by kernel_rfl, by kernel_rfl⟩
instance : TFun Try.prog 62 := ⟨_, Try.func62, by kernel_rfl, by kernel_rfl⟩
instance : TFun Try.prog 63 := ⟨_, Try.func63, by kernel_rfl, by kernel_rfl⟩
instance : TFun Try.prog 64 := ⟨_, Try.func64, by kernel_rfl, by kernel_rfl⟩
instance : TFun Try.prog 65 := ⟨_, Try.func65, by kernel_rfl, by kernel_rfl⟩
instance : TFun Try.prog 66 := ⟨_, Try.func66, by kernel_rfl, by kernel_rfl⟩
instance : TFun Try.prog 67 := ⟨_, Try.func67, by kernel_rfl, by kernel_rfl⟩
instance : TFun Try.prog 68 := ⟨_, Try.func68, by kernel_rfl, by kernel_rfl⟩
instance : TFun Try.prog 69 := ⟨_, Try.func69, by kernel_rfl, by kernel_rfl⟩
instance : TFun Try.prog 70 := ⟨_, Try.func70, by kernel_rfl, by kernel_rfl⟩
instance : TFun Try.prog 71 := ⟨_, Try.func71, by kernel_rfl, by kernel_rfl⟩
instance : TFun Try.prog 72 := ⟨_, Try.func72, by kernel_rfl, by kernel_rfl⟩
instance : TFun Try.prog 73 := ⟨_, Try.func73, by kernel_rfl, by kernel_rfl⟩
instance : TFun Try.prog 74 := ⟨_, Try.func74, by kernel_rfl, by kernel_rfl⟩
instance : TFun Try.prog 75 := ⟨_, Try.func75, by kernel_rfl, by kernel_rfl⟩
instance : TFun Try.prog 76 := ⟨_, Try.func76, by kernel_rfl, by kernel_rfl⟩
instance : TFun Try.prog 77 := ⟨_, Try.func77, by kernel_rfl, by kernel_rfl⟩
instance : TFun Try.prog 78 := ⟨_, Try.func78, by kernel_rfl, by kernel_rfl⟩
instance : TFun Try.prog 79 := ⟨_, Try.func79, by kernel_rfl, by kernel_rfl⟩
instance : TFun Try.prog 80 := ⟨_, Try.func80, by kernel_rfl, by kernel_rfl⟩
instance : TFun Try.prog 81 := ⟨_, Try.func81, by kernel_rfl, by kernel_rfl⟩
instance : TFun Try.prog 82 := ⟨_, Try.func82, by kernel_rfl, by kernel_rfl⟩
instance : TFun Try.prog 83 := ⟨_, Try.func83, by kernel_rfl, by kernel_rfl⟩
instance : TFun Try.prog 84 := ⟨_, Try.func84, by kernel_rfl, by kernel_rfl⟩
instance : TFun Try.prog 85 := ⟨_, Try.func85, by kernel_rfl, by kernel_rfl⟩
instance : TFun Try.prog 86 := ⟨_, Try.func86, by kernel_rfl, by kernel_rfl⟩
instance : TFun Try.prog 87 := ⟨_, Try.func87, by kernel_rfl, by kernel_rfl⟩
instance : TFun Try.prog 88 := ⟨_, Try.func88, by kernel_rfl, by kernel_rfl⟩
instance : TFun Try.prog 89 := ⟨_, Try.func89, by kernel_rfl, by kernel_rfl⟩
instance : TFun Try.prog 90 := ⟨_, Try.func90, by kernel_rfl, by kernel_rfl⟩
instance : TFun Try.prog 91 := ⟨_, Try.func91, by kernel_rfl, by kernel_rfl⟩
instance : TFun Try.prog 92 := ⟨_, Try.func92, by kernel_rfl, by kernel_rfl⟩
instance : TFun Try.prog 93 := ⟨_, Try.func93, by kernel_rfl, by kernel_rfl⟩
instance : TFun Try.prog 94 := ⟨_, Try.func94, by kernel_rfl, by kernel_rfl⟩
instance : TFun Try.prog 95 := ⟨_, Try.func95, by kernel_rfl, by kernel_rfl⟩
instance : TFun Try.prog 96 := ⟨_, Try.func96, by kernel_rfl, by kernel_rfl⟩
instance : TFun Try.prog 97 := ⟨_, Try.func97, by kernel_rfl, by kernel_rfl⟩
instance : TFun Try.prog 98 := ⟨_, Try.func98, by kernel_rfl, by kernel_rfl⟩
instance : TFun Try.prog 99 := ⟨_, Try.func99, by kernel_rfl, by kernel_rfl⟩
instance : TFun Try.prog 100 := ⟨_, Try.func100, by kernel_rfl, by kernel_rfl⟩
instance : TFun Try.prog 101 := ⟨_, Try.func101, by kernel_rfl, by kernel_rfl⟩
instance : TFun Try.prog 102 := ⟨_, Try.func102, by kernel_rfl, by kernel_rfl⟩
instance : TFun Try.prog 103 := ⟨_, Try.func103, by kernel_rfl, by kernel_rfl⟩
instance : TFun Try.prog 104 := ⟨_, Try.func104, by kernel_rfl, by kernel_rfl⟩
instance : TFun Try.prog 105 := ⟨_, Try.func105, by kernel_rfl, by kernel_rfl⟩
instance : TFun Try.prog 106 := ⟨_, Try.func106, by kernel_rfl, by kernel_rfl⟩
instance : TFun Try.prog 107 := ⟨_, Try.func107, by kernel_rfl, by kernel_rfl⟩
instance : TFun Try.prog 108 := ⟨_, Try.func108, by kernel_rfl, by kernel_rfl⟩
instance : TFun Try.prog 109 := ⟨_, Try.func109, by kernel_rfl, by kernel_rfl⟩
instance : TFun Try.prog 110 := ⟨_, Try.func110, by kernel_rfl, by kernel_rfl⟩
instance : TFun Try.prog 111 := ⟨_, Try.func111, by kernel_rfl, by kernel_rfl⟩
instance : TFun Try.prog 112 := ⟨_, Try.func112, by kernel_rfl, by kernel_rfl⟩
instance : TFun Try.prog 113 := ⟨_, Try.func113, by kernel_rfl, by kernel_rfl⟩
instance : TFun Try.prog 114 := ⟨_, Try.func114, by kernel_rfl, by kernel_rfl⟩
instance : TFun Try.prog 115 := ⟨_, Try.func115, by kernel_rfl, by kernel_rfl⟩
instance : TFun Try.prog 116 := ⟨_, Try.func116, by kernel_rfl, by kernel_rfl⟩
instance : TFun Try.prog 117 := ⟨_, Try.func117, by kernel_rfl, by kernel_rfl⟩
instance : TFun Try.prog 118 := ⟨_, Try.func118, by kernel_rfl, by kernel_rfl⟩
instance : TFun Try.prog 119 := ⟨_, Try.func119, by kernel_rfl, by kernel_rfl⟩
instance : TFun Try.prog 120 := ⟨_, Try.func120, by kernel_rfl, by kernel_rfl⟩
instance : TFun Try.prog 121 := ⟨_, Try.func121, by kernel_rfl, by kernel_rfl⟩
instance : TFun Try.prog 122 := ⟨_, Try.func122, by kernel_rfl, by kernel_rfl⟩
instance : TFun Try.prog 123 := ⟨_, Try.func123, by kernel_rfl, by kernel_rfl⟩
instance : TFun Try.prog 124 := ⟨_, Try.func124, by kernel_rfl, by kernel_rfl⟩
instance : TFun Try.prog 125 := ⟨_, Try.func125, by kernel_rfl, by kernel_rfl⟩
instance : TFun Try.prog 126 := ⟨_, Try.func126, by kernel_rfl, by kernel_rfl⟩
instance : TFun Try.prog 127 := ⟨_, Try.func127, by kernel_rfl, by kernel_rfl⟩
instance : TFun Try.prog 128 := ⟨_, Try.func128, by kernel_rfl, by kernel_rfl⟩
instance : TFun Try.prog 129 := ⟨_, Try.func129, by kernel_rfl, by kernel_rfl⟩
instance : TFun Try.prog 130 := ⟨_, Try.func130, by kernel_rfl, by kernel_rfl⟩
instance : TFun Try.prog 131 := ⟨_, Try.func131, by kernel_rfl, by kernel_rfl⟩
instance : TFun Try.prog 132 := ⟨_, Try.func132, by kernel_rfl, by kernel_rfl⟩
instance : TFun Try.prog 133 := ⟨_, Try.func133, by kernel_rfl, by kernel_rfl⟩
instance : TFun Try.prog 134 := ⟨_, Try.func134, by kernel_rfl, by kernel_rfl⟩
instance : TFun Try.prog 135 := ⟨_, Try.func135, by kernel_rfl, by kernel_rfl⟩
instance : TFun Try.prog 136 := ⟨_, Try.func136, by kernel_rfl, by kernel_rfl⟩
instance : TFun Try.prog 137 := ⟨_, Try.func137, by kernel_rfl, by kernel_rfl⟩
instance : TFun Try.prog 138 := ⟨_, Try.func138, by kernel_rfl, by kernel_rfl⟩
instance : TFun Try.prog 139 := ⟨_, Try.func139, by kernel_rfl, by kernel_rfl⟩
instance : TFun Try.prog 140 := ⟨_, Try.func140, by kernel_rfl, by kernel_rfl⟩
instance : TFun Try.prog 141 := ⟨_, Try.func141, by kernel_rfl, by kernel_rfl⟩
instance : TFun Try.prog 142 := ⟨_, Try.func142, by kernel_rfl, by kernel_rfl⟩
instance : TFun Try.prog 143 := ⟨_, Try.func143, by kernel_rfl, by kernel_rfl⟩
instance : TFun Try.prog 144 := ⟨_, Try.func144, by kernel_rfl, by kernel_rfl⟩
instance : TFun Try.prog 145 := ⟨_, Try.func145, by kernel_rfl, by kernel_rfl⟩
instance : TFun Try.prog 146 := ⟨_, Try.func146, by kernel_rfl, by kernel_rfl⟩
instance : TFun Try.prog 147 := ⟨_, Try.func147, by kernel_rfl, by kernel_rfl⟩
instance : TFun Try.prog 148 := ⟨_, Try.func148, by kernel_rfl, by kernel_rfl⟩
instance : TFun Try.prog 149 := ⟨_, Try.func149, by kernel_rfl, by kernel_rfl⟩
instance : TFun Try.prog 150 := ⟨_, Try.func150, by kernel_rfl, by kernel_rfl⟩
instance : TFun Try.prog 151 := ⟨_, Try.func151, by kernel_rfl, by kernel_rfl⟩
instance : TFun Try.prog 152 := ⟨_, Try.func152, by kernel_rfl, by kernel_rfl⟩
instance : TFun Try.prog 153 := ⟨_, Try.func153, by kernel_rfl, by kernel_rfl⟩
instance : TFun Try.prog 154 := ⟨_, Try.func154, by kernel_rfl, by kernel_rfl⟩
instance : TFun Try.prog 155 := ⟨_, Try.func155, by kernel_rfl, by kernel_rfl⟩
instance : TFun Try.prog 156 := ⟨_, Try.func156, by kernel_rfl, by kernel_rfl⟩
instance : TFun Try.prog 157 := ⟨_, Try.func157, by kernel_rfl, by kernel_rfl⟩
instance : TFun Try.prog 158 := ⟨_, Try.func158, by kernel_rfl, by kernel_rfl⟩
instance : TFun Try.prog 159 := ⟨_, Try.func159, by kernel_rfl, by kernel_rfl⟩
instance : TFun Try.prog 160 := ⟨_, Try.func160, by kernel_rfl, by kernel_rfl⟩
instance : TFun Try.prog 161 := ⟨_, Try.func161, by kernel_rfl, by kernel_rfl⟩
instance : TFun Try.prog 162 := ⟨_, Try.func162, by kernel_rfl, by kernel_rfl⟩
instance : TFun Try.prog 163 := ⟨_, Try.func163, by kernel_rfl, by kernel_rfl⟩
instance : TFun Try.prog 164 := ⟨_, Try.func164, by kernel_rfl, by kernel_rfl⟩
instance : TFun Try.prog 165 := ⟨_, Try.func165, by kernel_rfl, by kernel_rfl⟩
instance : TFun Try.prog 166 := ⟨_, Try.func166, by kernel_rfl, by kernel_rfl⟩
instance : TFun Try.prog 167 := ⟨_, Try.func167, by kernel_rfl, by kernel_rfl⟩
instance : TFun Try.prog 168 := ⟨_, Try.func168, by kernel_rfl, by kernel_rfl⟩
instance : TFun Try.prog 169 := ⟨_, Try.func169, by kernel_rfl, by kernel_rfl⟩
instance : TFun Try.prog 170 := ⟨_, Try.func170, by kernel_rfl, by kernel_rfl⟩
instance : TFun Try.prog 171 := ⟨_, Try.func171, by kernel_rfl, by kernel_rfl⟩
instance : TFun Try.prog 172 := ⟨_, Try.func172, by kernel_rfl, by kernel_rfl⟩
instance : TFun Try.prog 173 := ⟨_, Try.func173, by kernel_rfl, by kernel_rfl⟩
instance : TFun Try.prog 174 := ⟨_, Try.func174, by kernel_rfl, by kernel_rfl⟩
instance : TFun Try.prog 175 := ⟨_, Try.func175, by kernel_rfl, by kernel_rfl⟩
instance : TFun Try.prog 176 := ⟨_, Try.func176, by kernel_rfl, by kernel_rfl⟩
instance : TFun Try.prog 177 := ⟨_, Try.func177, by kernel_rfl, by kernel_rfl⟩
instance : TFun Try.prog 178 := ⟨_, Try.func178, by kernel_rfl, by kernel_rfl⟩
instance : TFun Try.prog 179 := ⟨_, Try.func179, by kernel_rfl, by kernel_rfl⟩
instance : TFun Try.prog 180 := ⟨_, Try.func180, by kernel_rfl, by kernel_rfl⟩
instance : TFun Try.prog 181 := ⟨_, Try.func181, by kernel_rfl, by kernel_rfl⟩
instance : TFun Try.prog 182 := ⟨_, Try.func182, by kernel_rfl, by kernel_rfl⟩
instance : TFun Try.prog 183 := ⟨_, Try.func183, by kernel_rfl, by kernel_rfl⟩

end Go.Proofs.Ytdohglcjjlmhhaa
namespace Go.Proofs.Ytdohglcjjlmhhaa
open Go.RowKit

set_option maxRecDepth 100000 in
theorem l01Byte_any (B g : Nat) (w : World) (hc : Cur B 116 w g) :
    Calls Try.prog 87 #[.pointer (some ⟨g, 0, none⟩)] w (Drew B 116 g w fun x => 0 ≤ x ∧ x ≤ 255) := by
  obtain ⟨a, len, cap, i, h, hb, hg, hi, hl, hy⟩ := hc
  have hgs : g < w.heap.size := (Array.getElem?_eq_some_iff.1 hg).1
  have c0 : w.cell? ⟨g, 0, none⟩ = some (.slice a len cap) := by simp [World.cell?, hg]
  have c1 : w.cell? ⟨g, 1, none⟩ = some (.int .i64 i) := by simp [World.cell?, hg]
  have c2 : w.cell? ⟨g, 2, none⟩ = some (.int .i64 h) := by simp [World.cell?, hg]
  have z1 : w.frozen? ⟨g, 1, none⟩ = false := by simp [World.frozen?, hg]
  have z2 : w.frozen? ⟨g, 2, none⟩ = false := by simp [World.frozen?, hg]
  have hg' := Lib.hid hg
  have hy' := Lib.hid hy
  clear hg
  by_cases hlt : i < len
  · rcases hy with h0 | ⟨b, off, rfl, hbB, hcell⟩
    · omega
    obtain ⟨n, hn0, hn1, hn⟩ := hcell i hlt
    have hbg : b ≠ g := by omega
    have hgb : g ≠ b := by omega
    clear hcell
    go_enter Try.func87, Try.ntmps87
    go_wp2
    go_quiet (fail)
    go_wp2
    go_quiet (fail)
    go_wp2
    go_quiet (fail)
    go_wp2
    go_ret
    refine drew_mk (B := B) (T := 116) (g := g) (w := w) (and255 _) ⟨_, len, cap, i + 1, wrap64 (wrap64 (h * 6364136223846793005) + 1442695040888963407), hb, by simp [World.setCell, World.drewN, Array.getElem?_modify, hg'.out], by omega, hl, hy'.out⟩ ?_
    repeat (first | exact Mod.refl _ _ | refine Mod.drewN ?_ _ | refine Mod.setAt ?_ _ _ _)
  · go_enter Try.func87, Try.ntmps87
    go_wp2
    go_quiet (fail)
    go_wp2
    go_quiet (fail)
    go_wp2
    go_ret
    refine drew_mk (B := B) (T := 116) (g := g) (w := w) (and255 _) ⟨_, len, cap, i, wrap64 (wrap64 (h * 6364136223846793005) + 1442695040888963407), hb, by simp [World.setCell, World.drewN, Array.getElem?_modify, hg'.out], by omega, hl, hy'.out⟩ ?_
    repeat (first | exact Mod.refl _ _ | refine Mod.drewN ?_ _ | refine Mod.setAt ?_ _ _ _)

set_option maxRecDepth 100000 in
theorem l01Below_any (B g : Nat) (w : World) (hc : Cur B 116 w g) (n : Int) (hn : n ≤ 1000000000) :
    Calls Try.prog 57 #[.pointer (some ⟨g, 0, none⟩), .int .i64 n] w (Drew B 116 g w fun x => 0 ≤ x ∧ (x < n ∨ n ≤ 0 ∧ x = 0)) := by
  by_cases h0 : n ≤ 0
  · go_enter Try.func57, Try.ntmps57
    go_wp2
    go_ret
    exact ⟨0, ⟨by omega, .inr ⟨h0, rfl⟩⟩, rfl, hc, Mod.refl _ _⟩
  · have hp : 0 < n := by omega
    by_cases h1 : n ≤ 256
    · go_enter Try.func57, Try.ntmps57
      go_wp2_with fail
      refine (l01Byte_any B g w hc).mono ?_
      rintro e w1 ⟨x, hx, rfl, hc1, hm1⟩
      have hx0 := hx.1
      have hx1 := hx.2
      clear hx
      go_wp2
      go_ret
      refine ⟨_, ?_, rfl, hc1, hm1⟩
      have := Int.emod_nonneg x (show n ≠ 0 by omega)
      have := Int.emod_lt_of_pos x hp
      omega
    · have h2 : 256 < n := by omega
      go_enter Try.func57, Try.ntmps57
      go_wp2_with fail
      refine (l01Byte_any B g w hc).mono ?_
      rintro e w1 ⟨x1, ⟨hx1, hy1⟩, rfl, hc1, hm1⟩
      go_wp2_with fail
      refine (l01Byte_any B g w1 hc1).mono ?_
      rintro e w2 ⟨x2, ⟨hx2, hy2⟩, rfl, hc2, hm2⟩
      go_wp2_with fail
      refine (l01Byte_any B g w2 hc2).mono ?_
      rintro e w3 ⟨x3, ⟨hx3, hy3⟩, rfl, hc3, hm3⟩
      go_wp2_with fail
      refine (l01Byte_any B g w3 hc3).mono ?_
      rintro e w4 ⟨x4, ⟨hx4, hy4⟩, rfl, hc4, hm4⟩
      go_wp2
      go_ret
      refine ⟨_, ?_, rfl, hc4, ((hm1.trans hm2).trans hm3).trans hm4⟩
      have := Int.emod_nonneg (x1 * 16777216 + x2 * 65536 + x3 * 256 + x4) (show n ≠ 0 by omega)
      have := Int.emod_lt_of_pos (x1 * 16777216 + x2 * 65536 + x3 * 256 + x4) hp
      omega

theorem l01Once_any (B g : Nat) (w : World) (hc : Cur B 116 w g) (n : Int) (hn : n ≤ 1000000000) :
    Calls Try.prog 89 #[.pointer (some ⟨g, 0, none⟩), .int .i64 n] w fun e w' => ∃ b, e = .returned (.bool b) ∧ Cur B 116 w' g ∧ Mod (fun k => k = g) w w' := by
  go_enter Try.func89, Try.ntmps89
  go_wp2_with fail
  refine (l01Below_any B g w hc n hn).mono ?_
  rintro e w1 ⟨x, hx, rfl, hc1, hm1⟩
  clear hx
  go_wp2
  go_ret
  exact ⟨_, rfl, hc1, hm1⟩

set_option maxRecDepth 100000 in
theorem l01New_any (B : Nat) (w : World) (a : Option Addr) (len cap : Nat) (hB : B ≤ w.heap.size) (hl : len ≤ 1048576) (hy : Bytes B w a len) :
    Calls Try.prog 48 #[.slice a len cap] w (NewCur B 116 w) := by
  have Hy := Lib.hid hy
  clear hy
  go_enter Try.func48, Try.ntmps48
  go_wp2
  go_loop [3, 4] (fun h i => ∃ (k : Nat) (n : Int), k ≤ len ∧ h = .int .i64 n ∧ i = .int .i64 k) (fun _ i => len - (intOf i).toNat)
  case atStart => exact ⟨0, _, by omega, rfl, rfl⟩
  case round =>
    obtain ⟨k, n, hk, rfl, rfl⟩ := hrel
    by_cases hlt : k < len ∧ k < 4000
    · obtain ⟨h1, h2⟩ := hlt
      rcases Hy.out with h0 | ⟨b, off, rfl, hbB, hcell⟩
      · omega
      obtain ⟨m, hm0, hm1, hm⟩ := hcell k h1
      clear hcell
      go_wp2
      go_round
      case rel => exact ⟨k + 1, _, by omega, rfl, by go_num⟩
      case measure => simp [intOf]; omega
    · have hn : ¬ (k < len) ∨ (k < len ∧ ¬ k < 4000) := by omega
      clear hlt
      rcases hn with hn | ⟨hp, hn⟩
      all_goals
        go_wp2
        go_ret
        refine ⟨w.heap.size, Nat.le_refl _, rfl, ⟨a, len, cap, 0, n, hB, heap_alloc_new w _, by omega, hl, Hy.out.same fun k hk => ?_⟩, (Mod.refl _ w).alloc _⟩
        exact Below.heap_alloc _ _ _ (by omega)

/-- One of a list's numbers. -/
theorem l01PickInt_any (B g : Nat) (w : World) (hc : Cur B 116 w g) (b cap : Nat) (l : List Int) (hl : Ints w b 0 l) (hp : 0 < l.length) (hm : l.length ≤ 1000) (hbg : b ≠ g) :
    Calls Try.prog 65 #[.pointer (some ⟨g, 0, none⟩), .slice (some ⟨b, 0, none⟩) l.length cap] w (Drew B 116 g w fun x => x ∈ l) := by
  have Hl := Lib.hid hl
  clear hl
  go_enter Try.func65, Try.ntmps65
  go_wp2_with fail
  refine (l01Below_any B g w hc l.length (by omega)).mono ?_
  rintro e w1 ⟨x, ⟨hx0, hx1⟩, rfl, hc1, hm1⟩
  obtain ⟨k, rfl⟩ := Int.eq_ofNat_of_zero_le hx0
  have hk : k < l.length := by omega
  have hcell := (Hl.out.mod hm1 (show ¬ b = g from hbg)) k hk
  rw [Nat.zero_add] at hcell
  clear hx1
  go_wp2
  go_ret
  exact ⟨_, by simp, rfl, hc1, hm1⟩

end Go.Proofs.Ytdohglcjjlmhhaa
namespace Go.Proofs.Ytdohglcjjlmhhaa
open Go.RowKit
set_option linter.unusedVariables false
set_option linter.unusedSimpArgs false

section
variable {P : Program} {n : Nat} {W : World} {R : Rg W} {L : List Blk} {O : List Own} {E : List Res} {f : List (Nat × Value)} {Q : Exit → Go.Act → World → Prop} {ops : Array Oper} {rest : List Oper}
theorem wp_mono_then {c y : Code} {K : Go.Act → World → Prop} {a : Go.Act} {w : World} (h : c.wp P (Exit.then K Q) a w) (hK : ∀ a w, K a w → y.wp P Q a w) : c.wp P (Exit.then (y.wp P Q) Q) a w :=
  wp_mono h (fun e a w q => by
    cases e with
    | normal => exact hK a w q
    | exit id => exact q
    | goto l => exact q
    | ret => exact q
    | panic ch => exact q
    | outgrown => exact q)
/-- A part of the text whose ways are told by one kind of state, and what follows. -/
theorem SX.join {ι : Type} {c y : Code} (inv : ι → Prop) (Lf : ι → List Blk) (Of : ι → List Own) (Ef : ι → List Res) (ff : ι → List (Nat × Value))
    (h1 : SX P n W R L O E f c (Exit.then (fun a w => ∃ i, inv i ∧ Fr n (ff i) a ∧ Loc W R (Lf i) (Of i) (Ef i) w) Q))
    (h2 : ∀ i, inv i → SX P n W R (Lf i) (Of i) (Ef i) (ff i) y Q) : SX P n W R L O E f c (Exit.then (y.wp P Q) Q) := ⟨fun a w hf hl =>
  wp_mono_then (h1.run a w hf hl) fun a w ⟨i, hi, hf, hl⟩ => (h2 i hi).run a w hf hl⟩
theorem SQ.join {ι : Type} {inv : ι → Prop} {Lf : ι → List Blk} {Of : ι → List Own} {Ef : ι → List Res} {ff : ι → List (Nat × Value)} (i : ι) (h : inv i) (hs : subF f (ff i)) (hl : ∀ w, Loc W R L O E w → Loc W R (Lf i) (Of i) (Ef i) w) :
    SQ n W R L O E f .normal (Exit.then (fun a w => ∃ i, inv i ∧ Fr n (ff i) a ∧ Loc W R (Lf i) (Of i) (Ef i) w) Q) := ⟨fun _ w hf hl' => ⟨i, h, hf.sub hs, hl w hl'⟩⟩
/-- A cursor may turn. -/
def curRg (T : TypeId) (B g : Nat) (W : World) (hg : g < W.heap.size) (hB : B ≤ g) : Rg W where
  p := fun k => k = g
  q := fun _ => False
  J := fun w => Cur B T w g
  low := fun k hk => by subst hk; exact hg
  sub := fun _ h => h.elim
  keep := fun S w w' h hm hs => h.mod hm (fun hS => hs g hg hS) (fun k hk hS => hs k (by omega) hS)
/-- What a drawing call gives. -/
def DrewV {ξ : Type} (T : TypeId) (B g : Nat) (w : World) (v : ξ → Value) (K : ξ → Prop) (e : Ending) (w' : World) : Prop := ∃ x, e = .returned (v x) ∧ K x ∧ Mod (fun k => k = g) w w' ∧ Cur B T w' g
theorem Drew.v {T : TypeId} {B g : Nat} {w : World} {p : Int → Prop} {e : Ending} {w' : World} (h : Drew B T g w p e w') : DrewV T B g w (fun x : Int => .int .i64 x) p e w' := by
  obtain ⟨x, hp, he, hc, hm⟩ := h
  exact ⟨x, he, hp, hm, hc⟩
variable {d : Option Nat} {dn g B T : Nat} {fn : FuncId} {ars : List Operand} {args : List Value} {aT : Array TypeId} {ty : TypeId} {pos : String} {af : Array Edge} {gd : Option (Nat × Bool)} {hg : g < W.heap.size} {hB : B ≤ g}
theorem SXl.draw {ξ : Type} {v : ξ → Value} [TFun P fn] (hw : wantO ops f ⟨some dn, .call ⟨.value (.func fn), ars.toArray, aT⟩, ty, pos, af, gd⟩ = some true) (hd : Nat.blt dn n = true) (ha : evL f ars = some args) (K : ξ → Prop)
    (hc : ∀ w, Loc W (curRg T B g W hg hB) L O [] w → Calls P fn args.toArray w (DrewV T B g w v K))
    (h : ∀ x, K x → SXl P n W (curRg T B g W hg hB) ops L O [] ((dn, v x) :: f) rest Q) : SXl P n W (curRg T B g W hg hB) ops L O [] f (⟨some dn, .call ⟨.value (.func fn), ars.toArray, aT⟩, ty, pos, af, gd⟩ :: rest) Q :=
  SXl.callJ (ξ := ξ) (v := v) (fun _ h => h) hw hd ha K hc h
theorem calls_draw {fid : FuncId} {fun_ : Func} {c : Code} {as_ : List Value} {w : World} {R' : Ending → World → Prop} (hc : Cur B T w g) (hf : P.funcs[fid]? = some fun_) (hb : fun_.body = some c) (hn : fun_.ntmps = n)
    (hfr : ∀ a : Go.Act, a.defers = [] → n ≤ a.tmps.size → (∀ (t : Nat) (v : Value), as_[t]? = some v → a.tmps[t]? = some v) → Fr n f a)
    (h : SX P n w (curRg T B g w hc.size hc.base) [] [] [] f c (bodyPost P fun_ R')) : Calls P fid as_.toArray w R' :=
  calls_sxJ (curRg T B g w hc.size hc.base) hc hf hb hn hfr h
/-- The same, with facts on other memory. -/
theorem SXl.drawE {ξ : Type} {v : ξ → Value} [TFun P fn] (hw : wantO ops f ⟨some dn, .call ⟨.value (.func fn), ars.toArray, aT⟩, ty, pos, af, gd⟩ = some true) (hd : Nat.blt dn n = true) (ha : evL f ars = some args) (K : ξ → Prop)
    (hc : ∀ w, Loc W (curRg T B g W hg hB) L O E w → Calls P fn args.toArray w (DrewV T B g w v K))
    (h : ∀ x, K x → SXl P n W (curRg T B g W hg hB) ops L O E ((dn, v x) :: f) rest Q) : SXl P n W (curRg T B g W hg hB) ops L O E f (⟨some dn, .call ⟨.value (.func fn), ars.toArray, aT⟩, ty, pos, af, gd⟩ :: rest) Q := ⟨fun a w hf hl => by
  unfold wpList
  rw [if_pos (wanted_of hf hw)]
  refine .inl ?_
  unfold Oper.wp
  rw [run_callop hf ha w _ _, Oper.upon_enter]
  refine (hc w hl).mono ?_
  rintro e w' ⟨x, rfl, hk, hm, hj⟩
  refine (h x hk).run _ _ (hf.put hd _) ?_
  exact {
    mod := hl.mod.then hm fun _ _ h => h
    inv := hj
    blk := fun b hb => ⟨(hl.blk b hb).1, hm.blk (hl.blk b hb).2 fun e => by
      rcases (hl.blk b hb).1 with h2 | h2
      · exact h2.elim
      · omega⟩
    apart := hl.apart
    own := fun q hq' => ⟨ownsRow_keep (hl.own q hq').1 hm fun k hk e => by have := (ownBlock_lt (hl.own q hq').1 hk).1; omega, (hl.own q hq').2⟩
    ownApart := hl.ownApart
    res := fun F hF => ⟨F.stable _ _ _ (hl.res F hF).1 hm (fun k hk e => by have := hl.resNew F hF k hk; omega), fun k hk => Nat.lt_of_lt_of_le ((hl.res F hF).2.1 k hk) hm.size, (hl.res F hF).2.2⟩
    resNew := hl.resNew
    resApart := hl.resApart }⟩
/-- A cursor of the call's own, over old bytes. -/
def curRes (T : TypeId) (W : World) (g : Nat) : Res where
  foot := fun k => k = g
  says := fun w => W.heap.size ≤ g ∧ ∃ (a : Option Addr) (len cap i : Nat) (h : Int), w.heap[g]? = some (.cells #[.slice a len cap, .int .i64 (i : Int), .int .i64 h] T (0, 0)) ∧ i ≤ len ∧ len ≤ 1048576 ∧ Bytes W.heap.size W a len
  stable := fun S w w' ⟨h0, a, len, cap, i, h, h1, h2⟩ hm hs => ⟨h0, a, len, cap, i, h, hm.blk h1 (hs g rfl), h2⟩
theorem cur_of {w : World} (hm : Mod (fun _ => False) W w) (h : (curRes T W g).says w) : Cur W.heap.size T w g := by
  obtain ⟨h0, a, len, cap, i, hh, h1, h2, h3, h4⟩ := h
  exact ⟨a, len, cap, i, hh, h0, h1, h2, h3, h4.same fun k hk => hm.block k hk (fun f => f)⟩
theorem of_cur {w : World} (hk : ∀ k, k < W.heap.size → w.heap[k]? = W.heap[k]?) (h : Cur W.heap.size T w g) : (curRes T W g).says w := by
  obtain ⟨a, len, cap, i, hh, h0, h1, h2, h3, h4⟩ := h
  exact ⟨h0, a, len, cap, i, hh, h1, h2, h3, h4.same fun k hk2 => (hk k hk2).symm⟩
/-- A new cursor. -/
theorem SXl.newCur [TFun P fn] (hw : wantO ops f ⟨some dn, .call ⟨.value (.func fn), ars.toArray, aT⟩, ty, pos, af, gd⟩ = some true) (hd : Nat.blt dn n = true) (ha : evL f ars = some args)
    (hc : ∀ w, Loc W (Rg.none W) L O E w → Calls P fn args.toArray w (NewCur W.heap.size T w))
    (h : ∀ g, SXl P n W (Rg.none W) ops L O (curRes T W g :: E) ((dn, .pointer (some ⟨g, 0, none⟩)) :: f) rest Q) : SXl P n W (Rg.none W) ops L O E f (⟨some dn, .call ⟨.value (.func fn), ars.toArray, aT⟩, ty, pos, af, gd⟩ :: rest) Q :=
  SXl.calln1 (ξ := Nat) (v := fun g => .pointer (some ⟨g, 0, none⟩)) (F1 := curRes T W) hw hd ha (fun w hl => (hc w hl).mono fun e w' ⟨g, h1, h2, h3, h4⟩ => ⟨g, h2, ⟨of_cur (fun k hk => by
    have e1 := hl.mod.block k hk (fun f => f)
    have e2 := h4.block k (Nat.lt_of_lt_of_le hk hl.mod.size) (fun f => f)
    rw [e2, e1]) h3, fun k hk => by subst hk; exact ⟨h1, h3.size⟩⟩, h4⟩) h
/-- A draw from it. -/
theorem SXl.drawC {ξ : Type} {v : ξ → Value} [TFun P fn] (i : Nat) (hw : wantO ops f ⟨some dn, .call ⟨.value (.func fn), ars.toArray, aT⟩, ty, pos, af, gd⟩ = some true) (hd : Nat.blt dn n = true) (ha : evL f ars = some args) (hi : E[i]? = some (curRes T W g)) (K : ξ → Prop)
    (hc : ∀ w, Loc W (Rg.none W) L O E w → Cur W.heap.size T w g → Calls P fn args.toArray w (DrewV T W.heap.size g w v K))
    (h : ∀ x, K x → SXl P n W (Rg.none W) ops L O E ((dn, v x) :: f) rest Q) : SXl P n W (Rg.none W) ops L O E f (⟨some dn, .call ⟨.value (.func fn), ars.toArray, aT⟩, ty, pos, af, gd⟩ :: rest) Q := by
  have hE : E.set i (curRes T W g) = E := by
    refine List.ext_getElem? fun j => ?_
    rw [List.getElem?_set]
    split
    · rename_i e
      subst e
      rw [hi]
      split
      · rfl
      · rename_i hlt
        have := (List.getElem?_eq_some_iff.1 hi).1
        exact (hlt this).elim
    · rfl
  refine SXl.callM (ξ := ξ) (v := v) (F' := fun _ => curRes T W g) i hw hd ha hi (fun _ _ h => h) K (fun w hl => ?_) (fun x hx => by rw [hE]; exact h x hx)
  have hmem : curRes T W g ∈ E := List.mem_iff_getElem?.2 ⟨i, hi⟩
  have hs := (hl.res _ hmem).1
  have hnew := hl.resNew _ hmem g rfl
  refine (hc w hl (cur_of hl.mod hs)).mono ?_
  rintro e w' ⟨x, he, hk, hm, hcur⟩
  refine ⟨x, he, hk, of_cur (fun k hk2 => ?_) hcur, hm⟩
  rw [hm.block k (Nat.lt_of_lt_of_le hk2 hl.mod.size) (fun e => by omega), hl.mod.block k hk2 (fun f => f)]
end
end Go.Proofs.Ytdohglcjjlmhhaa
namespace Go.Proofs.Ytdohglcjjlmhhaa
open Go.RowKit

/-- What a block that a pointer names is. -/
def gOf (v : Value) : Nat := match v with
  | .pointer (some a) => a.block
  | _ => 0
/-- Only a new block of the cells z may turn, to the cells r. -/
def TQ (B T0 : Nat) (z r : List Value) (w w' : World) : Prop := Mod (fun k => B ≤ k ∧ w.heap[k]? = some (.cells z.toArray T0 (0, 0)) ∧ w'.heap[k]? = some (.cells r.toArray T0 (0, 0))) w w'
structure Far (W : World) (L : List Blk) (O : List Own) (E : List Res) (B : Nat) : Prop where
  old : W.heap.size ≤ B
  blk : ∀ b ∈ L, b.g < B
  own : ∀ o ∈ O, ∀ k, o.v.ownBlock = some k → k < B
  res : ∀ F ∈ E, ∀ k, F.foot k → k < B
section
variable {P : Program} {n : Nat} {W : World} {R : Rg W} {L : List Blk} {O : List Own} {E : List Res} {w w' : World} {B T0 : Nat} {z r : List Value}
theorem Loc.far (h : Loc W R L O E w) : Far W L O E w.heap.size := ⟨h.mod.size, fun b hb => h.blk_lt hb, fun o ho k hk => (ownBlock_lt (h.own o ho).1 hk).2, fun F hF k hk => (h.res F hF).2.1 k hk⟩
theorem Loc.keepQ (hf : Far W L O E B) (h : Loc W R L O E w) (hm : TQ B T0 z r w w') : Loc W R L O E w' :=
  h.frame hm (fun k hk hs => by have := hf.old; have := hs.1; omega) (fun b hb hs => by have := hf.blk b hb; have := hs.1; omega) (fun o ho k hk hs => by have := hf.own o ho k hk; have := hs.1; omega) (fun F hF k hk hs => by have := hf.res F hF k hk; have := hs.1; omega)
theorem Loc.addNew (hf : Far W L O E B) (h : Loc W R L O E w) {g : Nat} (hg : B ≤ g) (hb : w.heap[g]? = some (.cells r.toArray T0 (0, 0))) : Loc W R (⟨g, r, T0⟩ :: L) O E w where
  mod := h.mod
  inv := h.inv
  blk := fun b hbm => by
    rcases List.mem_cons.1 hbm with rfl | hbm
    · exact ⟨.inr (Nat.le_trans hf.old hg), hb⟩
    · exact h.blk b hbm
  apart := List.pairwise_cons.2 ⟨fun b hbm e => by have := hf.blk b hbm; simp only at e; omega, h.apart⟩
  own := fun o ho => ⟨(h.own o ho).1, fun b hbm e => by
    rcases List.mem_cons.1 hbm with rfl | hbm
    · have := hf.own o ho _ e; simp only at this; omega
    · exact (h.own o ho).2 b hbm e⟩
  ownApart := h.ownApart
  res := fun F hF => ⟨(h.res F hF).1, (h.res F hF).2.1, fun b hbm f => by
    rcases List.mem_cons.1 hbm with rfl | hbm
    · have := hf.res F hF _ f; simp only at this; omega
    · exact (h.res F hF).2.2.1 b hbm f, (h.res F hF).2.2.2⟩
  resNew := h.resNew
  resApart := h.resApart
/-- A pointer at a new block of the cells z or r. -/
def AV (B T0 : Nat) (z r : List Value) (w : World) (v : Value) : Prop := ∃ g, v = .pointer (some ⟨g, 0, none⟩) ∧ B ≤ g ∧ (w.heap[g]? = some (.cells z.toArray T0 (0, 0)) ∨ w.heap[g]? = some (.cells r.toArray T0 (0, 0)))
theorem AV.keep {v : Value} (h : AV B T0 z r w v) (hm : TQ B T0 z r w w') : AV B T0 z r w' v := by
  obtain ⟨g, h1, h2, h3⟩ := h
  refine ⟨g, h1, h2, ?_⟩
  by_cases hs : B ≤ g ∧ w.heap[g]? = some (.cells z.toArray T0 (0, 0)) ∧ w'.heap[g]? = some (.cells r.toArray T0 (0, 0))
  · exact .inr hs.2.2
  · have hlt : g < w.heap.size := by rcases h3 with h3 | h3 <;> exact (Array.getElem?_eq_some_iff.1 h3).1
    rw [hm.block g hlt hs]
    exact h3
/-- The block that operation ka made holds the cells r. -/
def SV (ka T0 : Nat) (r : List Value) (x : Nat → Value) (w : World) (_ : Value) : Prop := w.heap[gOf (x ka)]? = some (.cells r.toArray T0 (0, 0))
theorem SV.keep {ka : Nat} {x : Nat → Value} {v : Value} (h : SV ka T0 r x w v) (hm : TQ B T0 z r w w') : SV ka T0 r x w' v := by
  unfold SV at *
  by_cases hs : B ≤ gOf (x ka) ∧ w.heap[gOf (x ka)]? = some (.cells z.toArray T0 (0, 0)) ∧ w'.heap[gOf (x ka)]? = some (.cells r.toArray T0 (0, 0))
  · exact hs.2.2
  · rw [hm.block _ (Array.getElem?_eq_some_iff.1 h).1 hs]
    exact h
structure SXq (P : Program) (n : Nat) (W : World) (R : Rg W) (ops : Array Oper) (L : List Blk) (O : List Own) (E : List Res) (B T0 : Nat) (z r : List Value) (k : Nat) (U : List (Nat × ((Nat → Value) → World → Value → Prop))) (f : (Nat → Value) → List (Nat × Value)) (l : List Oper) (Q : Exit → Act → World → Prop) : Prop where
  run : ∀ F : (Nat → Value) → Act, (∀ x, Fr n (f x) (F x)) → RS P ops (TQ B T0 z r) (fun w => Loc W R L O E w ∧ B ≤ w.heap.size) Q k l F U
end
section
variable {P : Program} {n : Nat} {W : World} {R : Rg W} {L : List Blk} {O : List Own} {E : List Res} {U : List (Nat × ((Nat → Value) → World → Value → Prop))} {f : (Nat → Value) → List (Nat × Value)} {f0 : List (Nat × Value)} {Q : Exit → Act → World → Prop} {ops : Array Oper} {rest : List Oper} {k B T0 : Nat} {z r : List Value}
theorem SX.drawnQ {id : Nat} {l : List Oper} (T0 : Nat) (z r : List Value) (hm : P.follows .mixedOrders = true) (hc : regOk l.toArray = true) (h : ∀ B, Far W L O E B → SXq P n W R l.toArray L O E B T0 z r 0 [] (fun _ => f0) l Q) : SX P n W R L O E f0 (.region id l.toArray true) Q := ⟨fun a w hf hl =>
  wp_region_rs (fun w' => Loc W R L O E w' ∧ w.heap.size ≤ w'.heap.size) (TQ w.heap.size T0 z r) hm hc ⟨hl.keep ((Mod.refl _ w).drew), Nat.le_refl _⟩ ((h w.heap.size hl.far).run _ fun _ => hf)⟩
theorem SXq.v {o : Oper} {v : Value} {d : Nat} (hr : ∀ x, OpW P n W R L O E (f x) o v) (hdst : o.dst = some d) (hw : ∀ x, wantO ops (f x) o = some true) (hd : Nat.blt d n = true) (h : SXq P n W R ops L O E B T0 z r (k + 1) U (fun x => (d, v) :: f x) rest Q) : SXq P n W R ops L O E B T0 z r k U f (o :: rest) Q := ⟨fun F hF =>
  RS.val [] (fun _ => v) rfl (fun _ _ _ => rfl) (fun x => wanted_of (hF x) (hw x)) (fun x w hS _ => wp_never ((hr x).run _ w (hF x) hS.1) fun _ _ ⟨h1, h2⟩ => ⟨h1, ⟨hS.1.keep h2, Nat.le_trans hS.2 h2.size⟩, h2.mono fun _ _ f => f.elim⟩) (by rw [hdst]; exact h.run _ fun x => (hF x).put hd v)⟩
theorem SXq.no {o : Oper} {d : Nat} (hw : ∀ x, wantO ops (f x) o = some false) (hdst : o.dst = some d) (hd : Nat.blt d n = true) (h : SXq P n W R ops L O E B T0 z r (k + 1) U (fun x => (d, undef) :: f x) rest Q) : SXq P n W R ops L O E B T0 z r k U f (o :: rest) Q := ⟨fun F hF =>
  RS.skip (fun x => wanted_of (hF x) (hw x)) (by rw [hdst]; exact h.run _ fun x => (hF x).put hd undef)⟩
variable {d m ka ks : Nat} {xo yo : Operand} {ty : TypeId} {pos : String} {af : Array Edge} {gd : Option (Nat × Bool)}
theorem SXq.alloc [t : TZero P T0 z] (hf : Far W L O E B) (hw : ∀ x, wantO ops (f x) ⟨some d, .alloc T0, ty, pos, af, gd⟩ = some true) (hd : Nat.blt d n = true)
    (h : SXq P n W R ops L O E B T0 z r (k + 1) ((k, fun _ => AV B T0 z r) :: U) (fun x => (d, .pointer (some ⟨gOf (x k), 0, none⟩)) :: f x) rest Q) : SXq P n W R ops L O E B T0 z r k U f (⟨some d, .alloc T0, ty, pos, af, gd⟩ :: rest) Q := ⟨fun F hF =>
  RS.new [] (AV B T0 z r) (fun v => .pointer (some ⟨gOf v, 0, none⟩)) (fun _ v ⟨g, hv, _⟩ => by subst hv; rfl) rfl (fun _ _ _ h hm => h.keep hm) (fun x => wanted_of (hF x) (hw x)) (fun x w hS _ => by
    obtain ⟨v, h1, h2⟩ := t.h
    obtain ⟨i, hi, hz⟩ := Option.map_eq_some_iff.1 h1
    have hrun : (execOp (F x).eval ⟨some d, .alloc T0, ty, pos, af, gd⟩).run P w = .ok (.value (.pointer (some ⟨w.heap.size, 0, none⟩))) (w.alloc (.cells z.toArray T0)) := by
      simp [execOp, Instr.alloc, zeroValue, typeInfo, hi, hz, newVar, newRow, h2]
    unfold Oper.wp
    rw [hrun, Oper.upon_value]
    have hm : Mod (fun _ => False) w (w.alloc (.cells z.toArray T0)) := (Mod.refl _ w).alloc _
    exact ⟨_, rfl, ⟨w.heap.size, rfl, hS.2, .inl (heap_alloc_new w _)⟩, ⟨hS.1.keep hm, Nat.le_trans hS.2 hm.size⟩, hm.mono fun _ _ f => f.elim⟩) (h.run _ fun x => (hF x).put hd _)⟩
theorem SXq.store (ka : Nat) [t : TRow P T0 m] (hf : Far W L O E B) (hus : ([ka].all fun i => (reach ops ops.size k).contains i) = true) (hU : (ka, fun _ => AV B T0 z r) ∈ U) (hw : ∀ x, wantO ops (f x) ⟨none, .store T0 xo yo, ty, pos, af, gd⟩ = some true) (hx : ∀ x, evO (f x) xo = some (.pointer (some ⟨gOf (x ka), 0, none⟩))) (hy : ∀ x, evO (f x) yo = some (.agg r.toArray)) (hr : r.length = m) (hz : z.length = m) (hv : r.all (·.oneCell') = true)
    (h : SXq P n W R ops L O E B T0 z r (k + 1) ((k, SV ka T0 r) :: U) f rest Q) : SXq P n W R ops L O E B T0 z r k U f (⟨none, .store T0 xo yo, ty, pos, af, gd⟩ :: rest) Q := ⟨fun F hF =>
  RS.newx [ka] (SV ka T0 r) id (fun _ _ _ _ => rfl) hus ⟨fun _ _ _ _ h hm => h.keep hm, fun x y w v hxy h => by unfold SV at *; rw [← hxy ka List.mem_cons_self]; exact h⟩ (fun x => wanted_of (hF x) (hw x)) (fun x w hS hK => by
    obtain ⟨_, h3⟩ := t.h
    obtain ⟨g, hg, hB, hc⟩ := hK _ hU List.mem_cons_self
    have eg : gOf (x ka) = g := by rw [hg]; rfl
    have hxx := hx x
    rw [eg] at hxx
    have key : ∀ cs : List Value, cs.length = m → w.heap[g]? = some (.cells cs.toArray T0 (0, 0)) → (execOp (F x).eval ⟨none, .store T0 xo yo, ty, pos, af, gd⟩).run P w = .ok .skip (w.setCells g 0 r) ∧ (w.setCells g 0 r).heap[g]? = some (.cells r.toArray T0 (0, 0)) := fun cs hcs hb => by
      have e := run_store_row (P := P) (ty := T0) h3 (w := w) (b := g) (o := 0) (S := r.toArray) (by simp [hasRow, hb, hcs]) (by simp [openRow, hb]) (by simpa using hr) (by simpa using hv)
      refine ⟨by simp [execOp, (hF x).eval hxx, (hF x).eval (hy x), e], ?_⟩
      rw [setCells_heap g r 0 w _ _ _ hb, spl_over]
      have := over_all r cs [] (by omega)
      simp only [List.nil_append, List.length_nil] at this
      rw [this]
    have hmm := mod_setCells g r 0 w
    have fin : (execOp (F x).eval ⟨none, .store T0 xo yo, ty, pos, af, gd⟩).run P w = .ok .skip (w.setCells g 0 r) ∧ (w.setCells g 0 r).heap[g]? = some (.cells r.toArray T0 (0, 0)) ∧ TQ B T0 z r w (w.setCells g 0 r) := by
      rcases hc with hc | hc
      · obtain ⟨k1, k2⟩ := key z hz hc
        exact ⟨k1, k2, hmm.mono fun k _ e => by subst e; exact ⟨hB, hc, k2⟩⟩
      · obtain ⟨k1, k2⟩ := key r hr hc
        exact ⟨k1, k2, hmm.os, hmm.tape, hmm.output, hmm.size, fun k hk hn => by
          by_cases e : k = g
          · subst e; rw [k2, hc]
          · exact hmm.block k hk e⟩
    obtain ⟨k1, k2, k3⟩ := fin
    unfold Oper.wp
    rw [k1, Oper.upon_skip]
    exact ⟨undef, rfl, by unfold SV; rw [eg]; exact k2, ⟨Loc.keepQ hf hS.1 k3, Nat.le_trans hS.2 k3.size⟩, k3⟩) (h.run _ hF)⟩
theorem SXq.nil (ka ks : Nat) (hf : Far W L O E B) (hA : (ka, fun _ => AV B T0 z r) ∈ U) (hS : (ks, SV ka T0 r) ∈ U) (h : ∀ x, SQ n W R (⟨gOf (x ka), r, T0⟩ :: L) O E (f x) .normal Q) : SXq P n W R ops L O E B T0 z r k U f [] Q := ⟨fun F hF => RS.done fun x w hSw hU => by
  obtain ⟨g, hg, hB, _⟩ := hU _ hA
  have hs := hU _ hS
  have eg : gOf (x ka) = g := by rw [hg]; rfl
  exact (h x).run _ w (hF x) (Loc.addNew hf hSw.1 (by rw [eg]; exact hB) hs)⟩
/-! A literal slice of one cell, made in the region's head. -/
def sOf (v : Value) : Nat := match v with
  | .slice (some a) _ _ => a.block
  | _ => 0
def BV (B e : Nat) (u : Value) (w : World) (v : Value) : Prop := ∃ g, v = .slice (some ⟨g, 0, none⟩) 1 1 ∧ B ≤ g ∧ w.heap[g]? = some (.cells #[u] e (0, 0))
theorem SXq.lit1 {T e by_ : Nat} {zv u : Value} [t : TSl P T e 1] [te : TEl P e 1 by_ zv] (hf : Far W L O E B) (hw : ∀ x, wantO ops (f x) ⟨some d, .buildSlice T 1 #[(0, xo)], ty, pos, af, gd⟩ = some true) (hd : Nat.blt d n = true) (hx : ∀ x, evO (f x) xo = some u) (hv : u.cells = #[u]) (hz : zv.cells = #[zv])
    (h : SXq P n W R ops L O E B T0 [] r (k + 1) ((k, fun _ => BV B e u) :: U) (fun x => (d, .slice (some ⟨sOf (x k), 0, none⟩) 1 1) :: f x) rest Q) : SXq P n W R ops L O E B T0 [] r k U f (⟨some d, .buildSlice T 1 #[(0, xo)], ty, pos, af, gd⟩ :: rest) Q := ⟨fun F hF =>
  RS.new [] (BV B e u) (fun v => .slice (some ⟨sOf v, 0, none⟩) 1 1) (fun _ v ⟨g, hv, _⟩ => by subst hv; rfl) rfl (fun w w' v ⟨g, h1, h2, h3⟩ hm => ⟨g, h1, h2, by
    rw [hm.block g (Array.getElem?_eq_some_iff.1 h3).1 (fun hs => by have := hs.2.1; rw [h3] at this; simp at this)]
    exact h3⟩) (fun x => wanted_of (hF x) (hw x)) (fun x w hS _ => by
    obtain ⟨i0, q1, q2, q3, q4, q5, q6⟩ := te.h
    have hfill : Instr.fill (fun i => some (i, 1)) #[zv] [(0, u)] = some #[u] := by
      unfold Instr.fill
      simp [hv, Instr.fill, List.zipIdx]
      rw [hv]
      rfl
    have hrun : (execOp (F x).eval ⟨some d, .buildSlice T 1 #[(0, xo)], ty, pos, af, gd⟩).run P w = .ok (.value (.slice (some ⟨w.heap.size, 0, none⟩) 1 1)) (w.alloc (.cells #[u] e)) := by
      have e3 : (Array.range 1).map (fun _ => zv) = #[zv] := by
        apply Array.ext_getElem?
        intro i
        cases i <;> simp [Array.getElem?_map, Array.getElem?_range]
      simp only [execOp, Instr.buildSlice, Sem.run_bind, run_underlying t.h.1, Result.andThen_ok, sizeOf, typeInfo, run_program, q1, Sem.run_pure, q3, Nat.mul_one]
      simp [newRow, zeroValue, typeInfo, q1, q2, hz, Nat.mod_one, (hF x).eval (hx x), e3, hfill]
    unfold Oper.wp
    rw [hrun, Oper.upon_value]
    have hm : Mod (fun _ => False) w (w.alloc (.cells #[u] e)) := (Mod.refl _ w).alloc _
    exact ⟨_, rfl, ⟨w.heap.size, rfl, hS.2, heap_alloc_new w _⟩, ⟨hS.1.keep hm, Nat.le_trans hS.2 hm.size⟩, hm.mono fun _ _ f => f.elim⟩) (h.run _ fun x => (hF x).put hd _)⟩
theorem SXq.tail (h : ∀ x, SXl P n W R ops L O E (f x) rest Q) : SXq P n W R ops L O E B T0 z r k U f [] (fun _ a w => wpList P ops Q rest a w) := ⟨fun F hF => RS.done fun x w hSw _ => (h x).run _ w (hF x) hSw.1⟩
end
end Go.Proofs.Ytdohglcjjlmhhaa
namespace Go.Proofs.Ytdohglcjjlmhhaa
open Go.RowKit

/-- Where a slice lies. -/
structure SlP where
  a : Option Addr
  c : Nat
  lo : Nat
def ownRes {α : Type} (cells : α → List Value) (e sz : Nat) (l : List α) (q : SlP) : Res where
  foot := fun k => (Value.slice q.a l.length q.c).ownBlock = some k
  says := fun w => w.ownsRow q.lo e sz (.slice q.a l.length q.c) l.length (l.map cells).flatten
  stable := fun _ _ _ h hm hs => ownsRow_keep h hm hs
theorem new_own {α : Type} {cells : α → List Value} {e sz : Nat} {l : List α} {w w' : World} {en : Ending} (h : NewSlice e sz w l.length (l.map cells).flatten en w') : NewR SlP (fun q => .slice q.a l.length q.c) (ownRes cells e sz l) w en w' := by
  obtain ⟨a, c, he, ho, hm⟩ := h
  exact ⟨⟨a, c, w.heap.size⟩, he, ⟨ho, fun k hk => ownBlock_lt ho hk⟩, hm⟩
theorem own_in {α : Type} {cells : α → List Value} {e sz : Nat} {l : List α} {q : SlP} {W : World} {R : Rg W} {L : List Blk} {O : List Own} {E : List Res} {w : World} (h : Loc W R L O E w) (hm : ownRes cells e sz l q ∈ E) (hc : ∀ x, (cells x).length = sz) (hsz : sz ≠ 0) : SliceAt (Flat cells) sz (fun k => q.lo ≤ k) w q.a l := own_slice (h.res _ hm).1 hc hsz
end Go.Proofs.Ytdohglcjjlmhhaa
namespace Go.Proofs.Ytdohglcjjlmhhaa
open Go.RowKit
set_option linter.unusedVariables false
set_option linter.unusedSimpArgs false

/-- Slices of the call's own, each in a block of its own. -/
structure Owns (base : Nat) (w : World) (os : List Own) : Prop where
  row : ∀ o ∈ os, w.ownsRow base o.e o.sz o.v o.n o.xs
  apart : os.Pairwise (fun a b => ∀ k, a.v.ownBlock = some k → b.v.ownBlock ≠ some k)
theorem Owns.nil (base : Nat) (w : World) : Owns base w [] := ⟨fun _ h => (List.not_mem_nil h).elim, .nil⟩
theorem Owns.mod {base : Nat} {w w' : World} {os : List Own} {S : Nat → Prop} (h : Owns base w os) (hm : Mod S w w') (hs : ∀ o ∈ os, ∀ k, o.v.ownBlock = some k → ¬ S k) : Owns base w' os :=
  ⟨fun o ho => ownsRow_keep (h.row o ho) hm (hs o ho), h.apart⟩
theorem Owns.keep {base : Nat} {w w' : World} {os : List Own} (h : Owns base w os) (hm : Mod (fun _ => False) w w') : Owns base w' os := h.mod hm fun _ _ _ _ f => f
theorem Owns.low {base base' : Nat} {w : World} {os : List Own} (h : Owns base w os) (hb : base' ≤ base) : Owns base' w os := ⟨fun o ho => World.ownsRow.mono (h.row o ho) hb, h.apart⟩
theorem Owns.left {base : Nat} {w : World} {os ps : List Own} (h : Owns base w (os ++ ps)) : Owns base w os := ⟨fun o ho => h.row o (List.mem_append_left _ ho), (List.pairwise_append.1 h.apart).1⟩
theorem Owns.sub {base : Nat} {w : World} {os ps : List Own} (h : Owns base w ps) (hs : os.Sublist ps) : Owns base w os := ⟨fun o ho => h.row o (hs.subset ho), h.apart.sublist hs⟩
def NewO (ξ : Type) (v : ξ → Value) (os : ξ → List Own) (K : ξ → Prop) (w : World) (e : Ending) (w' : World) : Prop :=
  ∃ x, e = .returned (v x) ∧ K x ∧ Owns w.heap.size w' (os x) ∧ Mod (fun _ => False) w w'
def DrewO (ξ : Type) (T : TypeId) (B g : Nat) (v : ξ → Value) (os : ξ → List Own) (K : ξ → Prop) (w : World) (e : Ending) (w' : World) : Prop :=
  ∃ x, e = .returned (v x) ∧ K x ∧ Owns w.heap.size w' (os x) ∧ Mod (fun k => k = g) w w' ∧ Cur B T w' g

section
variable {P : Program} {n : Nat} {W : World} {R : Rg W} {L : List Blk} {O : List Own} {E : List Res} {w w' : World} {B : Nat} {os : List Own}
theorem Loc.owns (h : Loc W R L O E w) : Owns W.heap.size w O := ⟨fun o ho => (h.own o ho).1, h.ownApart⟩
theorem Loc.addOwns (hf : Far W L O E B) (h : Loc W R L O E w) (ho : Owns B w os) : Loc W R L (os ++ O) E w where
  mod := h.mod
  inv := h.inv
  blk := h.blk
  apart := h.apart
  own := fun o hm => by
    rcases List.mem_append.1 hm with hm | hm
    · refine ⟨World.ownsRow.mono (ho.row o hm) hf.old, fun b hb e => ?_⟩
      have := hf.blk b hb
      have := (ownBlock_lt (ho.row o hm) e).1
      omega
    · exact h.own o hm
  ownApart := List.pairwise_append.2 ⟨ho.apart, h.ownApart, fun a ha b hb k hk e => by
    have := hf.own b hb k e
    have := (ownBlock_lt (ho.row a ha) hk).1
    omega⟩
  res := fun F hF => ⟨(h.res F hF).1, (h.res F hF).2.1, (h.res F hF).2.2.1, fun o hm k hk f => by
    rcases List.mem_append.1 hm with hm | hm
    · have := hf.res F hF k f
      have := (ownBlock_lt (ho.row o hm) hk).1
      omega
    · exact (h.res F hF).2.2.2 o hm k hk f⟩
  resNew := h.resNew
  resApart := h.resApart
theorem Loc.gotOwns (h : Loc W R L O E w) (hm : Mod (fun _ => False) w w') (ho : Owns w.heap.size w' os) : Loc W R L (os ++ O) E w' :=
  (h.keep hm).addOwns h.far ho
/-- Slices are put in another order, or dropped. -/
theorem Loc.ownSub (h : Loc W R L O E w) (hs : os.Sublist O) : Loc W R L os E w where
  mod := h.mod
  inv := h.inv
  blk := h.blk
  apart := h.apart
  own := fun o hm => h.own o (hs.subset hm)
  ownApart := h.ownApart.sublist hs
  res := fun F hF => ⟨(h.res F hF).1, (h.res F hF).2.1, (h.res F hF).2.2.1, fun o hm k hk f => (h.res F hF).2.2.2 o (hs.subset hm) k hk f⟩
  resNew := h.resNew
  resApart := h.resApart
theorem Loc.dropO {o : Own} (h : Loc W R L (o :: O) E w) : Loc W R L O E w := h.ownSub (List.sublist_cons_self _ _)
theorem Loc.ownCell {i g m c e sz j : Nat} {xs : List Value} (h : Loc W R L O E w) (hi : O[i]? = some ⟨.slice (some ⟨g, 0, none⟩) m c, e, sz, m, xs⟩) {v : Value} (hv : xs[j]? = some v) : w.cell? ⟨g, j, none⟩ = some v := by
  have ho := (h.own _ (List.mem_iff_getElem?.2 ⟨i, hi⟩)).1
  simp only at ho
  rw [ho.cellAt j (by rw [← ho.1]; exact (List.getElem?_eq_some_iff.1 hv).1), hv]
end
section
variable {P : Program} {n : Nat} {W : World} {R : Rg W} {L : List Blk} {O : List Own} {E : List Res} {f : List (Nat × Value)} {Q : Exit → Act → World → Prop} {ops : Array Oper} {rest : List Oper} {d : Option Tmp} {dn : Nat} {T : TypeId} {x y : Operand} {ty : TypeId} {pos : String} {af : Array Edge} {gd : Option (Nat × Bool)} {g o : Nat}
/-- One cell that is told. -/
theorem OpW.loadLoc {v : Value} [TOne P T] (hx : evO f x = some (.pointer (some ⟨g, o, none⟩))) (hv : ∀ w, Loc W R L O E w → w.cell? ⟨g, o, none⟩ = some v) : OpW P n W R L O E f ⟨d, .load T x, ty, pos, af, gd⟩ v :=
  OpW.of (fun a w hf hl => by simp [execOp, hf.eval hx, run_load1 (hv w hl)])
/-- One cell of a slice of the call's own. -/
theorem OpW.loadOwn {v : Value} {m c e sz : Nat} {xs : List Value} (i : Nat) [TOne P T] (hx : evO f x = some (.pointer (some ⟨g, o, none⟩))) (hi : O[i]? = some ⟨.slice (some ⟨g, 0, none⟩) m c, e, sz, m, xs⟩) (hv : xs[o]? = some v) : OpW P n W R L O E f ⟨d, .load T x, ty, pos, af, gd⟩ v :=
  OpW.loadLoc hx fun w hl => hl.ownCell hi hv
theorem SXl.storeOwn {v : Value} {O' : List Own} {m c e sz : Nat} {xs : List Value} (i : Nat) [TOne P T] (hw : wantO ops f ⟨none, .store T x y, ty, pos, af, gd⟩ = some true) (hx : evO f x = some (.pointer (some ⟨g, o, none⟩))) (hy : evO f y = some v)
    (hi : O[i]? = some ⟨.slice (some ⟨g, 0, none⟩) m c, e, sz, m, xs⟩) (ho : o < xs.length) (hv : v.oneCell' = true) (hO : O.set i ⟨.slice (some ⟨g, 0, none⟩) m c, e, sz, m, xs.set o v⟩ = O') (h : SXl P n W R ops L O' E f rest Q) : SXl P n W R ops L O E f (⟨none, .store T x y, ty, pos, af, gd⟩ :: rest) Q :=
  SXl.steps hw rfl (fun a w hf hl => by
    have hown := (hl.own _ (List.mem_iff_getElem?.2 ⟨i, hi⟩)).1
    simp only at hown
    refine ⟨w.setCell ⟨g, o, none⟩ v, ?_, hO ▸ hl.ownTurned hi ?_ (hown.stored o v).1 (.inl rfl)⟩
    · simp [execOp, hf.eval hx, hf.eval hy, run_store1 (hl.ownCell hi (List.getElem?_eq_getElem ho)) (hown.frozenAt o) hv]
    · exact ((Mod.refl _ w).setAt _ _ _).mono fun k _ e => by subst e; rfl) h
/-- A call that hands back slices of the call's own. -/
theorem SXl.callO {ξ : Type} {v : ξ → Value} {os : ξ → List Own} {K : ξ → Prop} {fn : FuncId} {ars : List Operand} {args : List Value} {aT : Array TypeId} [TFun P fn] (hw : wantO ops f ⟨some dn, .call ⟨.value (.func fn), ars.toArray, aT⟩, ty, pos, af, gd⟩ = some true) (hd : Nat.blt dn n = true) (ha : evL f ars = some args)
    (hc : ∀ w, Loc W R L O E w → Calls P fn args.toArray w (NewO ξ v os K w))
    (h : ∀ x, K x → SXl P n W R ops L (os x ++ O) E ((dn, v x) :: f) rest Q) : SXl P n W R ops L O E f (⟨some dn, .call ⟨.value (.func fn), ars.toArray, aT⟩, ty, pos, af, gd⟩ :: rest) Q := ⟨fun a w hf hl => by
  unfold wpList
  rw [if_pos (wanted_of hf hw)]
  refine .inl ?_
  unfold Oper.wp
  rw [run_callop hf ha w _ _, Oper.upon_enter]
  refine (hc w hl).mono ?_
  rintro e w' ⟨x, rfl, hk, ho, hm⟩
  exact (h x hk).run _ _ (hf.put hd _) (hl.gotOwns hm ho)⟩
/-- The same, with a draw from a cursor. -/
theorem SXl.drawO {ξ : Type} {v : ξ → Value} {os : ξ → List Own} {K : ξ → Prop} {fn : FuncId} {ars : List Operand} {args : List Value} {aT : Array TypeId} [TFun P fn] (i : Nat) (hw : wantO ops f ⟨some dn, .call ⟨.value (.func fn), ars.toArray, aT⟩, ty, pos, af, gd⟩ = some true) (hd : Nat.blt dn n = true) (ha : evL f ars = some args)
    {TC gc : Nat} (hi : E[i]? = some (curRes TC W gc))
    (hc : ∀ w, Loc W (Rg.none W) L O E w → Cur W.heap.size TC w gc → Calls P fn args.toArray w (DrewO ξ TC W.heap.size gc v os K w))
    (h : ∀ x, K x → SXl P n W (Rg.none W) ops L (os x ++ O) E ((dn, v x) :: f) rest Q) : SXl P n W (Rg.none W) ops L O E f (⟨some dn, .call ⟨.value (.func fn), ars.toArray, aT⟩, ty, pos, af, gd⟩ :: rest) Q := ⟨fun a w hf hl => by
  unfold wpList
  rw [if_pos (wanted_of hf hw)]
  refine .inl ?_
  unfold Oper.wp
  rw [run_callop hf ha w _ _, Oper.upon_enter]
  have hmem : curRes TC W gc ∈ E := List.mem_iff_getElem?.2 ⟨i, hi⟩
  have hs := (hl.res _ hmem).1
  have hnew := hl.resNew _ hmem gc rfl
  have hE : E.set i (curRes TC W gc) = E := by
    refine List.ext_getElem? fun j => ?_
    rw [List.getElem?_set]
    split
    · rename_i e
      subst e
      rw [hi]
      split
      · rfl
      · rename_i hlt
        exact (hlt (List.getElem?_eq_some_iff.1 hi).1).elim
    · rfl
  refine (hc w hl (cur_of hl.mod hs)).mono ?_
  rintro e w' ⟨x, rfl, hk, ho, hm, hcur⟩
  have h1 : Loc W (Rg.none W) L O E w' := by
    have := hl.retold (F' := curRes TC W gc) hi hm (of_cur (fun k hk2 => by
      rw [hm.block k (Nat.lt_of_lt_of_le hk2 hl.mod.size) (fun e => by omega), hl.mod.block k hk2 (fun f => f)]) hcur) (fun _ h => h)
    rwa [hE] at this
  exact (h x hk).run _ _ (hf.put hd _) (h1.addOwns hl.far ho)⟩
/-- The same, where the cursor is old memory that the call may turn. -/
theorem SXl.drawOJ {ξ : Type} {v : ξ → Value} {os : ξ → List Own} {K : ξ → Prop} {fn : FuncId} {ars : List Operand} {args : List Value} {aT : Array TypeId} [TFun P fn] {TC B gc : Nat} {hg : gc < W.heap.size} {hB : B ≤ gc} (hw : wantO ops f ⟨some dn, .call ⟨.value (.func fn), ars.toArray, aT⟩, ty, pos, af, gd⟩ = some true) (hd : Nat.blt dn n = true) (ha : evL f ars = some args)
    (hc : ∀ w, Loc W (curRg TC B gc W hg hB) L O E w → Calls P fn args.toArray w (DrewO ξ TC B gc v os K w))
    (h : ∀ x, K x → SXl P n W (curRg TC B gc W hg hB) ops L (os x ++ O) E ((dn, v x) :: f) rest Q) : SXl P n W (curRg TC B gc W hg hB) ops L O E f (⟨some dn, .call ⟨.value (.func fn), ars.toArray, aT⟩, ty, pos, af, gd⟩ :: rest) Q := ⟨fun a w hf hl => by
  unfold wpList
  rw [if_pos (wanted_of hf hw)]
  refine .inl ?_
  unfold Oper.wp
  rw [run_callop hf ha w _ _, Oper.upon_enter]
  refine (hc w hl).mono ?_
  rintro e w' ⟨x, rfl, hk, ho, hm, hj⟩
  refine (h x hk).run _ _ (hf.put hd _) (Loc.addOwns hl.far ?_ ho)
  exact {
    mod := hl.mod.then hm fun _ _ h => h
    inv := hj
    blk := fun b hb => ⟨(hl.blk b hb).1, hm.blk (hl.blk b hb).2 fun e => by
      rcases (hl.blk b hb).1 with h2 | h2
      · exact h2.elim
      · omega⟩
    apart := hl.apart
    own := fun q hq' => ⟨ownsRow_keep (hl.own q hq').1 hm fun k hk e => by have := (ownBlock_lt (hl.own q hq').1 hk).1; omega, (hl.own q hq').2⟩
    ownApart := hl.ownApart
    res := fun F hF => ⟨F.stable _ _ _ (hl.res F hF).1 hm (fun k hk e => by have := hl.resNew F hF k hk; omega), fun k hk => Nat.lt_of_lt_of_le ((hl.res F hF).2.1 k hk) hm.size, (hl.res F hF).2.2⟩
    resNew := hl.resNew
    resApart := hl.resApart }⟩
end
end Go.Proofs.Ytdohglcjjlmhhaa
namespace Go.Proofs.Ytdohglcjjlmhhaa
open Go.RowKit

/-- A line, and where it lies. -/
abbrev PLine := List Int × (Option Addr × Nat)
def lineV (p : PLine) : Value := .slice p.2.1 p.1.length p.2.2
def lineO (p : PLine) : Own := ⟨lineV p, 3, 1, p.1.length, (p.1.map icell).flatten⟩
def rowsO (ps : List PLine) (a : Option Addr) (c : Nat) : Own := ⟨.slice a ps.length c, 29, 1, ps.length, ps.map lineV⟩
structure LinesQ where
  ps : List PLine
  a : Option Addr
  c : Nat
def LinesQ.v (q : LinesQ) : Value := .slice q.a q.ps.length q.c
def LinesQ.os (q : LinesQ) : List Own := rowsO q.ps q.a q.c :: q.ps.map lineO
def pcell (p : PLine) : List Value := [lineV p]
/-- Lines that are read. -/
def LinesAt (R : Nat → Prop) (w : World) (a : Option Addr) (ps : List PLine) : Prop := SliceAt (Flat pcell) 1 R w a ps ∧ ∀ p ∈ ps, IntSlice R w p.2.1 p.1
theorem LinesAt.keep {R : Nat → Prop} {w w' : World} {a : Option Addr} {ps : List PLine} (h : LinesAt R w a ps) (hm : Mod (fun _ => False) w w') : LinesAt R w' a ps := ⟨h.1.flatKeep hm, fun p hp => SliceAt.flatKeep (h.2 p hp) hm⟩
theorem LinesAt.get {R : Nat → Prop} {w : World} {a : Option Addr} {ps : List PLine} (h : LinesAt R w a ps) {k : Nat} {p : PLine} (hk : ps[k]? = some p) : ∃ b o, a = some ⟨b, o, none⟩ ∧ b < w.heap.size ∧ w.cell? ⟨b, o + k, none⟩ = some (lineV p) := by
  obtain ⟨b, o, x, r, rfl, hR, hb, hx, hr, _, hc⟩ := SliceAt.get h.1 (List.getElem?_eq_some_iff.1 hk).1
  obtain rfl : r = pcell x := hr
  rw [hx.out] at hk
  obtain rfl := Option.some.inj hk
  have := hc 0 _ rfl
  rw [Nat.mul_one, Nat.add_zero] at this
  exact ⟨b, o, rfl, hb, this⟩
section
variable {W : World} {R : Rg W} {L : List Blk} {E : List Res} {w : World} {ps : List PLine} {p : PLine} {a : Option Addr} {c : Nat}
end
section
variable {P : Program} {n : Nat} {W : World} {R : Rg W} {L : List Blk} {O : List Own} {E : List Res} {f : List (Nat × Value)} {Q : Exit → Act → World → Prop} {ops : Array Oper} {rest : List Oper}
theorem SXl.knowI {φ : Prop} (hφ : ∀ w, Loc W R L O E w → φ) (h : φ → SXl P n W R ops L O E f rest Q) : SXl P n W R ops L O E f rest Q := ⟨fun a w hf hl => (h (hφ w hl)).run a w hf hl⟩
theorem SX.knowI {φ : Prop} {co : Code} (hφ : ∀ w, Loc W R L O E w → φ) (h : φ → SX P n W R L O E f co Q) : SX P n W R L O E f co Q := ⟨fun a w hf hl => (h (hφ w hl)).run a w hf hl⟩
end
end Go.Proofs.Ytdohglcjjlmhhaa
namespace Go.Proofs.Ytdohglcjjlmhhaa
open Go.RowKit
set_option linter.unusedVariables false
set_option linter.unusedSimpArgs false

theorem fold_over : ∀ (r : List Value) (k : Nat) (c : List Value), (r.zipIdx k).foldl (fun (cs : Array Value) (p : Value × Nat) => cs.setIfInBounds (0 + p.2) p.1) c.toArray = (over c k r).toArray
  | [], _, _ => rfl
  | v :: r, k, c => by
    rw [List.zipIdx_cons, List.foldl_cons]
    have := fold_over r (k + 1) (c.set k v)
    simp only [Nat.zero_add] at this ⊢
    rw [over, ← this]
    simp
theorem fill_one {r c : List Value} {v : Value} {sz : Nat} (hv : v.cells = r.toArray) (hr : r.length = sz) (hc : c.length = sz) : Instr.fill (fun i => some (i * sz, sz)) c.toArray [(0, v)] = some r.toArray := by
  have h0 : over c 0 r = r := by
    have := over_all r c [] (by omega)
    simpa using this
  unfold Instr.fill
  simp only [hv, Nat.zero_mul, List.size_toArray, hr, hc]
  rw [if_neg (by simp)]
  unfold Instr.fill
  have := fold_over r 0 c
  rw [h0] at this
  rw [← Array.foldl_toList, Array.toList_zipIdx]
  simp only [Nat.zero_add] at this
  simpa using this
section
variable {P : Program} {n : Nat} {W : World} {R : Rg W} {L : List Blk} {O : List Own} {E : List Res} {f : List (Nat × Value)} {Q : Exit → Act → World → Prop} {ops : Array Oper} {rest : List Oper} {dn : Nat} {T e : TypeId} {x : Operand} {ty : TypeId} {pos : String} {af : Array Edge} {gd : Option (Nat × Bool)}
theorem SXl.litRow1 {sz by_ : Nat} {z v : Value} {r : List Value} [t : TSl P T e sz] [te : TEl P e sz by_ z] (hw : wantO ops f ⟨some dn, .buildSlice T 1 #[(0, x)], ty, pos, af, gd⟩ = some true) (hd : Nat.blt dn n = true)
    (hx : evO f x = some v) (hv : v.cells = r.toArray) (hr : r.length = sz) (h0 : 0 < sz) (hs : sz ≤ 16777216)
    (h : ∀ g, SXl P n W R ops (⟨g, r, e⟩ :: L) O E ((dn, .slice (some ⟨g, 0, none⟩) 1 1) :: f) rest Q) : SXl P n W R ops L O E f (⟨some dn, .buildSlice T 1 #[(0, x)], ty, pos, af, gd⟩ :: rest) Q :=
  SXl.litRow (parts := [(0, x)]) (vals := [(0, v)]) (cells := r) (z := z) hw hd (by simp [evP, hx]) (by omega) (by omega) (by
    have := fill_one (c := ((Array.range (1 * sz)).map (fun i => z.cells[i % z.cells.size]!)).toList) hv hr (by simp)
    rw [Array.toArray_toList] at this
    exact this) h
theorem SXl.lit0R {sz by_ : Nat} {z : Value} [t : TSl P T e sz] [te : TEl P e sz by_ z] (hw : wantO ops f ⟨some dn, .buildSlice T 0 #[], ty, pos, af, gd⟩ = some true) (hd : Nat.blt dn n = true) (hR : ∀ k, ¬ R.q k)
    (h : ∀ g, SXl P n W R ops L (⟨.slice (some ⟨g, 0, none⟩) 0 0, e, sz, 0, []⟩ :: O) E ((dn, .slice (some ⟨g, 0, none⟩) 0 0) :: f) rest Q) : SXl P n W R ops L O E f (⟨some dn, .buildSlice T 0 #[], ty, pos, af, gd⟩ :: rest) Q :=
  SXl.stepn (V := fun g => .slice (some ⟨g, 0, none⟩) 0 0) (L' := fun _ => L) (O' := fun g => ⟨.slice (some ⟨g, 0, none⟩) 0 0, e, sz, 0, []⟩ :: O) hw rfl hd (fun a w hf hl => by
    obtain ⟨i0, q1, q2, q3, q4, q5, q6⟩ := te.h
    refine ⟨w.heap.size, w.alloc (.cells #[] e), ?_, ((hl.alloc [] e).toOwn (m := 0) (hR _) (by simp) (by unfold maxLen; omega))⟩
    simp only [execOp, Instr.buildSlice, Sem.run_bind, run_underlying t.h.1, Result.andThen_ok, sizeOf, typeInfo, run_program, q1, Sem.run_pure, q3]
    have e4 : Array.map (fun _ : Nat => (default : Value)) (Array.range 0) = #[] := by simp
    simp [newRow, q1, q2, q3, e4, Instr.fill]
    done) h
end
end Go.Proofs.Ytdohglcjjlmhhaa
namespace Go.Proofs.Ytdohglcjjlmhhaa

structure Space where
  mode : Int
  n : Int
  deriving DecidableEq, Inhabited
def Space.cells (s : Space) : List Value := [.int .i64 s.mode, .int .i64 s.n]

structure Asked where
  node : Int
  wide : Space
  high : Space
  rtl : Bool
  deriving DecidableEq, Inhabited
def Asked.cells (x : Asked) : List Value := [.int .i64 x.node, .int .i64 x.wide.mode, .int .i64 x.wide.n, .int .i64 x.high.mode, .int .i64 x.high.n, .bool x.rtl]

structure Rule where
  room : Int
  wide : Int
  high : Int
  deriving DecidableEq, Inhabited
def Rule.cells (x : Rule) : List Value := [.int .i64 x.room, .int .i64 x.wide, .int .i64 x.high]

structure Val where
  kind : Int
  n : Int
  deriving DecidableEq, Inhabited
def Val.cells (x : Val) : List Value := [.int .i64 x.kind, .int .i64 x.n]

structure ActD where
  kind : Int
  n : Int
  kid : Int
  pl : Int
  key : ByteArray
  value : Val
  table : List Rule
  wide : Int
  high : Int
  rtl : Bool
/-- An action's cells: the table is a slice. -/
def repAct (R : Nat → Prop) (w : World) (cs : List Value) (x : ActD) : Prop :=
  ∃ a c, cs = [.int .i64 x.kind, .int .i64 x.n, .int .i64 x.kid, .int .i64 x.pl, .string x.key, .int .i64 x.value.kind, .int .i64 x.value.n, .slice a x.table.length c, .int .i64 x.wide, .int .i64 x.high, .bool x.rtl] ∧ SliceAt (Flat Rule.cells) 3 R w a x.table
theorem repAct.mod {R S : Nat → Prop} {w w' : World} {cs : List Value} {x : ActD} (h : repAct R w cs x) (hm : Mod S w w') (hs : ∀ k, R k → ¬ S k) : repAct R w' cs x := by
  obtain ⟨a, c, h1, h2⟩ := h
  exact ⟨a, c, h1, h2.flatMod hm hs⟩

structure Frame where
  node : Int
  x : Int
  y : Int
  wide : Int
  high : Int
  deriving DecidableEq, Inhabited
def Frame.cells (f : Frame) : List Value := [.int .i64 f.node, .int .i64 f.x, .int .i64 f.y, .int .i64 f.wide, .int .i64 f.high]
structure Memo where
  node : Int
  wide : Space
  high : Space
  rtl : Bool
  bw : Int
  bh : Int
  bb : Int
  frames : List Frame
  deriving DecidableEq, Inhabited

end Go.Proofs.Ytdohglcjjlmhhaa
namespace Go.Proofs.Ytdohglcjjlmhhaa
open Go.RowKit

theorem swithin_any (n least most : Int) (w : World) : Calls Try.prog 56 #[.int .i64 n, .int .i64 least, .int .i64 most] w fun e w' => e = .returned (.int .i64 (within n least most)) ∧ w = w' := by
  go_enter Try.func56, Try.ntmps56
  go_wp2
  all_goals
    go_ret
    exact ⟨ret_int (by unfold within; first | (rw [if_pos (by omega)]; omega) | (rw [if_neg (by omega)]; omega)), rfl⟩

theorem shypOf_any (x : Item) (w : World) : Calls Try.prog 16 #[.agg #[.int .i64 x.base, .int .i64 x.least, .int .i64 x.most, .int .i64 x.grow, .int .i64 x.shrink, .int .i64 x.before, .int .i64 x.behind, .bool x.autoBefore, .bool x.autoBehind]] w fun e w' => e = .returned (.int .i64 (hyp x)) ∧ Mod (fun _ => False) w w' := by
  go_enter Try.func16, Try.ntmps16
  go_wp2_with (first | (go_at_call 56; refine (swithin_any _ _ _ _).mono ?_; rintro e w' ⟨rfl, rfl⟩))
  go_ret
  exact ⟨rfl, by (repeat (first | with_reducible exact Mod.refl _ _ | with_reducible refine Mod.drewN ?_ _ | with_reducible refine Mod.drew ?_ | with_reducible refine Mod.alloc ?_ _ | ((with_reducible refine Mod.setNew ?_ ?_ _ _ _); (rotate_left; omega)) | with_reducible refine Mod.setAt ?_ _ _ _ ))⟩

def itemOk (x : Item) : Bool := inB x.base 0 1048576 && inB x.least 0 1048576 && inB x.most (-1) 1048576 && inB x.grow 0 1000 && inB x.shrink 0 1000 && inB x.before (-1048576) 1048576 && inB x.behind (-1048576) 1048576

set_option maxHeartbeats 1000000 in
theorem itemOk_any (x : Item) (w : World) : Calls Try.prog 63 #[.agg #[.int .i64 x.base, .int .i64 x.least, .int .i64 x.most, .int .i64 x.grow, .int .i64 x.shrink, .int .i64 x.before, .int .i64 x.behind, .bool x.autoBefore, .bool x.autoBehind]] w fun e w' => e = .returned (.bool (itemOk x)) ∧ Mod (fun _ => False) w w' := by
  cases h0 : inB x.base 0 1048576
  · have e : itemOk x = false := by unfold itemOk; rw [h0]; simp
    rw [e]
    clear e
    go_enter Try.func63, Try.ntmps63
    go_wp2_with (first | (go_at_call 59; refine (in_any _ _ _ _).mono ?_; rintro e w' ⟨rfl, rfl⟩))
    go_ret
    exact ⟨rfl, by (repeat (first | with_reducible exact Mod.refl _ _ | with_reducible refine Mod.drewN ?_ _ | with_reducible refine Mod.drew ?_ | with_reducible refine Mod.alloc ?_ _ | ((with_reducible refine Mod.setNew ?_ ?_ _ _ _); (rotate_left; omega)) | with_reducible refine Mod.setAt ?_ _ _ _ ))⟩
  · skip
    cases h1 : inB x.least 0 1048576
    · have e : itemOk x = false := by unfold itemOk; rw [h1]; simp
      rw [e]
      clear e
      go_enter Try.func63, Try.ntmps63
      go_wp2_with (first | (go_at_call 59; refine (in_any _ _ _ _).mono ?_; rintro e w' ⟨rfl, rfl⟩))
      go_ret
      exact ⟨rfl, by (repeat (first | with_reducible exact Mod.refl _ _ | with_reducible refine Mod.drewN ?_ _ | with_reducible refine Mod.drew ?_ | with_reducible refine Mod.alloc ?_ _ | ((with_reducible refine Mod.setNew ?_ ?_ _ _ _); (rotate_left; omega)) | with_reducible refine Mod.setAt ?_ _ _ _ ))⟩
    · skip
      cases h2 : inB x.before (-1048576) 1048576
      · have e : itemOk x = false := by unfold itemOk; rw [h2]; simp
        rw [e]
        clear e
        go_enter Try.func63, Try.ntmps63
        go_wp2_with (first | (go_at_call 59; refine (in_any _ _ _ _).mono ?_; rintro e w' ⟨rfl, rfl⟩))
        go_ret
        exact ⟨rfl, by (repeat (first | with_reducible exact Mod.refl _ _ | with_reducible refine Mod.drewN ?_ _ | with_reducible refine Mod.drew ?_ | with_reducible refine Mod.alloc ?_ _ | ((with_reducible refine Mod.setNew ?_ ?_ _ _ _); (rotate_left; omega)) | with_reducible refine Mod.setAt ?_ _ _ _ ))⟩
      · skip
        cases h3 : inB x.behind (-1048576) 1048576
        · have e : itemOk x = false := by unfold itemOk; rw [h3]; simp
          rw [e]
          clear e
          go_enter Try.func63, Try.ntmps63
          go_wp2_with (first | (go_at_call 59; refine (in_any _ _ _ _).mono ?_; rintro e w' ⟨rfl, rfl⟩))
          go_ret
          exact ⟨rfl, by (repeat (first | with_reducible exact Mod.refl _ _ | with_reducible refine Mod.drewN ?_ _ | with_reducible refine Mod.drew ?_ | with_reducible refine Mod.alloc ?_ _ | ((with_reducible refine Mod.setNew ?_ ?_ _ _ _); (rotate_left; omega)) | with_reducible refine Mod.setAt ?_ _ _ _ ))⟩
        · skip
          cases h4 : inB x.most (-1) 1048576
          · have e : itemOk x = false := by unfold itemOk; rw [h4]; simp
            rw [e]
            clear e
            go_enter Try.func63, Try.ntmps63
            go_wp2_with (first | (go_at_call 59; refine (in_any _ _ _ _).mono ?_; rintro e w' ⟨rfl, rfl⟩))
            go_ret
            exact ⟨rfl, by (repeat (first | with_reducible exact Mod.refl _ _ | with_reducible refine Mod.drewN ?_ _ | with_reducible refine Mod.drew ?_ | with_reducible refine Mod.alloc ?_ _ | ((with_reducible refine Mod.setNew ?_ ?_ _ _ _); (rotate_left; omega)) | with_reducible refine Mod.setAt ?_ _ _ _ ))⟩
          · skip
            cases h5 : inB x.grow 0 1000
            · have e : itemOk x = false := by unfold itemOk; rw [h5]; simp
              rw [e]
              clear e
              go_enter Try.func63, Try.ntmps63
              go_wp2_with (first | (go_at_call 59; refine (in_any _ _ _ _).mono ?_; rintro e w' ⟨rfl, rfl⟩))
              go_ret
              exact ⟨rfl, by (repeat (first | with_reducible exact Mod.refl _ _ | with_reducible refine Mod.drewN ?_ _ | with_reducible refine Mod.drew ?_ | with_reducible refine Mod.alloc ?_ _ | ((with_reducible refine Mod.setNew ?_ ?_ _ _ _); (rotate_left; omega)) | with_reducible refine Mod.setAt ?_ _ _ _ ))⟩
            · skip
              cases h6 : inB x.shrink 0 1000
              · have e : itemOk x = false := by unfold itemOk; rw [h6]; simp
                rw [e]
                clear e
                go_enter Try.func63, Try.ntmps63
                go_wp2_with (first | (go_at_call 59; refine (in_any _ _ _ _).mono ?_; rintro e w' ⟨rfl, rfl⟩))
                go_ret
                exact ⟨rfl, by (repeat (first | with_reducible exact Mod.refl _ _ | with_reducible refine Mod.drewN ?_ _ | with_reducible refine Mod.drew ?_ | with_reducible refine Mod.alloc ?_ _ | ((with_reducible refine Mod.setNew ?_ ?_ _ _ _); (rotate_left; omega)) | with_reducible refine Mod.setAt ?_ _ _ _ ))⟩
              · skip
                have e : itemOk x = true := by unfold itemOk; rw [h0, h1, h2, h3, h4, h5, h6]; rfl
                rw [e]
                clear e
                go_enter Try.func63, Try.ntmps63
                go_wp2_with (first | (go_at_call 59; refine (in_any _ _ _ _).mono ?_; rintro e w' ⟨rfl, rfl⟩))
                go_ret
                exact ⟨rfl, by (repeat (first | with_reducible exact Mod.refl _ _ | with_reducible refine Mod.drewN ?_ _ | with_reducible refine Mod.drew ?_ | with_reducible refine Mod.alloc ?_ _ | ((with_reducible refine Mod.setNew ?_ ?_ _ _ _); (rotate_left; omega)) | with_reducible refine Mod.setAt ?_ _ _ _ ))⟩

set_option maxHeartbeats 1000000 in
theorem sitemOk_any (x : Item) (w : World) : Calls Try.prog 54 #[.agg #[.int .i64 x.base, .int .i64 x.least, .int .i64 x.most, .int .i64 x.grow, .int .i64 x.shrink, .int .i64 x.before, .int .i64 x.behind, .bool x.autoBefore, .bool x.autoBehind]] w fun e w' => e = .returned (.bool (itemOk x)) ∧ Mod (fun _ => False) w w' := by
  cases h0 : inB x.base 0 1048576
  · have e : itemOk x = false := by unfold itemOk; rw [h0]; simp
    rw [e]
    clear e
    go_enter Try.func54, Try.ntmps54
    go_wp2_with (first | (go_at_call 55; refine (l01In_any _ _ _ _).mono ?_; rintro e w' ⟨rfl, rfl⟩))
    go_ret
    exact ⟨rfl, by (repeat (first | with_reducible exact Mod.refl _ _ | with_reducible refine Mod.drewN ?_ _ | with_reducible refine Mod.drew ?_ | with_reducible refine Mod.alloc ?_ _ | ((with_reducible refine Mod.setNew ?_ ?_ _ _ _); (rotate_left; omega)) | with_reducible refine Mod.setAt ?_ _ _ _ ))⟩
  · skip
    cases h1 : inB x.least 0 1048576
    · have e : itemOk x = false := by unfold itemOk; rw [h1]; simp
      rw [e]
      clear e
      go_enter Try.func54, Try.ntmps54
      go_wp2_with (first | (go_at_call 55; refine (l01In_any _ _ _ _).mono ?_; rintro e w' ⟨rfl, rfl⟩))
      go_ret
      exact ⟨rfl, by (repeat (first | with_reducible exact Mod.refl _ _ | with_reducible refine Mod.drewN ?_ _ | with_reducible refine Mod.drew ?_ | with_reducible refine Mod.alloc ?_ _ | ((with_reducible refine Mod.setNew ?_ ?_ _ _ _); (rotate_left; omega)) | with_reducible refine Mod.setAt ?_ _ _ _ ))⟩
    · skip
      cases h2 : inB x.most (-1) 1048576
      · have e : itemOk x = false := by unfold itemOk; rw [h2]; simp
        rw [e]
        clear e
        go_enter Try.func54, Try.ntmps54
        go_wp2_with (first | (go_at_call 55; refine (l01In_any _ _ _ _).mono ?_; rintro e w' ⟨rfl, rfl⟩))
        go_ret
        exact ⟨rfl, by (repeat (first | with_reducible exact Mod.refl _ _ | with_reducible refine Mod.drewN ?_ _ | with_reducible refine Mod.drew ?_ | with_reducible refine Mod.alloc ?_ _ | ((with_reducible refine Mod.setNew ?_ ?_ _ _ _); (rotate_left; omega)) | with_reducible refine Mod.setAt ?_ _ _ _ ))⟩
      · skip
        cases h3 : inB x.grow 0 1000
        · have e : itemOk x = false := by unfold itemOk; rw [h3]; simp
          rw [e]
          clear e
          go_enter Try.func54, Try.ntmps54
          go_wp2_with (first | (go_at_call 55; refine (l01In_any _ _ _ _).mono ?_; rintro e w' ⟨rfl, rfl⟩))
          go_ret
          exact ⟨rfl, by (repeat (first | with_reducible exact Mod.refl _ _ | with_reducible refine Mod.drewN ?_ _ | with_reducible refine Mod.drew ?_ | with_reducible refine Mod.alloc ?_ _ | ((with_reducible refine Mod.setNew ?_ ?_ _ _ _); (rotate_left; omega)) | with_reducible refine Mod.setAt ?_ _ _ _ ))⟩
        · skip
          cases h4 : inB x.shrink 0 1000
          · have e : itemOk x = false := by unfold itemOk; rw [h4]; simp
            rw [e]
            clear e
            go_enter Try.func54, Try.ntmps54
            go_wp2_with (first | (go_at_call 55; refine (l01In_any _ _ _ _).mono ?_; rintro e w' ⟨rfl, rfl⟩))
            go_ret
            exact ⟨rfl, by (repeat (first | with_reducible exact Mod.refl _ _ | with_reducible refine Mod.drewN ?_ _ | with_reducible refine Mod.drew ?_ | with_reducible refine Mod.alloc ?_ _ | ((with_reducible refine Mod.setNew ?_ ?_ _ _ _); (rotate_left; omega)) | with_reducible refine Mod.setAt ?_ _ _ _ ))⟩
          · skip
            cases h5 : inB x.before (-1048576) 1048576
            · have e : itemOk x = false := by unfold itemOk; rw [h5]; simp
              rw [e]
              clear e
              go_enter Try.func54, Try.ntmps54
              go_wp2_with (first | (go_at_call 55; refine (l01In_any _ _ _ _).mono ?_; rintro e w' ⟨rfl, rfl⟩))
              go_ret
              exact ⟨rfl, by (repeat (first | with_reducible exact Mod.refl _ _ | with_reducible refine Mod.drewN ?_ _ | with_reducible refine Mod.drew ?_ | with_reducible refine Mod.alloc ?_ _ | ((with_reducible refine Mod.setNew ?_ ?_ _ _ _); (rotate_left; omega)) | with_reducible refine Mod.setAt ?_ _ _ _ ))⟩
            · skip
              cases h6 : inB x.behind (-1048576) 1048576
              · have e : itemOk x = false := by unfold itemOk; rw [h6]; simp
                rw [e]
                clear e
                go_enter Try.func54, Try.ntmps54
                go_wp2_with (first | (go_at_call 55; refine (l01In_any _ _ _ _).mono ?_; rintro e w' ⟨rfl, rfl⟩))
                go_ret
                exact ⟨rfl, by (repeat (first | with_reducible exact Mod.refl _ _ | with_reducible refine Mod.drewN ?_ _ | with_reducible refine Mod.drew ?_ | with_reducible refine Mod.alloc ?_ _ | ((with_reducible refine Mod.setNew ?_ ?_ _ _ _); (rotate_left; omega)) | with_reducible refine Mod.setAt ?_ _ _ _ ))⟩
              · skip
                have e : itemOk x = true := by unfold itemOk; rw [h0, h1, h2, h3, h4, h5, h6]; rfl
                rw [e]
                clear e
                go_enter Try.func54, Try.ntmps54
                go_wp2_with (first | (go_at_call 55; refine (l01In_any _ _ _ _).mono ?_; rintro e w' ⟨rfl, rfl⟩))
                go_ret
                exact ⟨rfl, by (repeat (first | with_reducible exact Mod.refl _ _ | with_reducible refine Mod.drewN ?_ _ | with_reducible refine Mod.drew ?_ | with_reducible refine Mod.alloc ?_ _ | ((with_reducible refine Mod.setNew ?_ ?_ _ _ _); (rotate_left; omega)) | with_reducible refine Mod.setAt ?_ _ _ _ ))⟩

end Go.Proofs.Ytdohglcjjlmhhaa
namespace Go.Proofs.Ytdohglcjjlmhhaa
open Go.RowKit

/-- The cells of marks from q on. -/
def IntM.marks (q : Int) : Nat → List Value
  | 0 => []
  | k + 1 => IntM.marks q k ++ icell (q + k)
end Go.Proofs.Ytdohglcjjlmhhaa
namespace Go.Proofs.Ytdohglcjjlmhhaa
open Go.RowKit
set_option linter.unusedVariables false
set_option linter.unusedSimpArgs false

abbrev ItemSlice (R : Nat → Prop) (w : World) (a : Option Addr) (l : List Item) : Prop := SliceAt (Flat Item.cells) 9 R w a l
theorem ItemSlice.get {R : Nat → Prop} {w : World} {a : Option Addr} {l : List Item} (h : ItemSlice R w a l) {k : Nat} (hk : k < l.length) :
    ∃ b o x, a = some ⟨b, o, none⟩ ∧ R b ∧ b < w.heap.size ∧ l[k]? = some x ∧ ∀ j v, x.cells[j]? = some v → w.cell? ⟨b, o + k * 9 + j, none⟩ = some v := by
  obtain ⟨b, o, x, r, rfl, hR, hb, hx, hr, _, hc⟩ := SliceAt.get h hk
  obtain rfl : r = x.cells := hr
  exact ⟨b, o, x, rfl, hR, hb, hx.out, hc⟩
theorem shypOf_c (x : Item) (w : World) : Calls Try.prog 16 #[.agg x.cells.toArray] w fun e w' => e = .returned (.int .i64 (hyp x)) ∧ Mod (fun _ => False) w w' := shypOf_any x w
theorem itemOk_c (x : Item) (w : World) : Calls Try.prog 63 #[.agg x.cells.toArray] w fun e w' => e = .returned (.bool (itemOk x)) ∧ Mod (fun _ => False) w w' := itemOk_any x w
theorem sitemOk_c (x : Item) (w : World) : Calls Try.prog 54 #[.agg x.cells.toArray] w fun e w' => e = .returned (.bool (itemOk x)) ∧ Mod (fun _ => False) w w' := sitemOk_any x w
theorem map_next {α β : Type} (g : α → β) {l : List α} {k : Nat} {x : α} (h : l[k]? = some x) : (l.take (k + 1)).map g = (l.take k).map g ++ [g x] := by
  rw [List.take_add_one, h, List.map_append]; rfl

set_option maxRecDepth 100000 in
set_option maxHeartbeats 4000000 in
theorem shyps_any (l : List Item) (a : Option Addr) (c : Nat) (R : Nat → Prop) (w : World) (hlen : l.length ≤ 1048576) (h : ItemSlice R w a l) :
    Calls Try.prog 64 #[.slice a l.length c] w (NewSlice 3 1 w (l.map hyp).length ((l.map hyp).map icell).flatten) := by
  refine calls_sx Try.func64 rfl rfl (fun a h1 h2 h3 => ((Fr.nil h1 h2).arg (h3 0 _ rfl))) ?_
  repeat (first | refine SX.seq ?_ | refine SXl.nil ?_ | refine SX.region ?_ | refine SQ.thenNormal ?_ | refine SX.block ?_ | (refine l_assign ?_; (refine SXl.v (OpW.assign rfl) rfl ?_ ?_ ?_); rfl; rfl) | (refine l_buildSlice ?_; first | (refine SXl.lit1 ?_ ?_ rfl rfl rfl (fun g => ?_); rfl; rfl) | (refine SXl.lit0 ?_ ?_ (fun _ h => h) rfl (fun g => ?_); rfl; rfl)))
  refine SX.loop3 (fun (k : Nat) (_ : Option Addr) (_ : Nat) => k ≤ l.length) (fun k _ _ => l.length - k) (fun _ _ _ => []) (fun k a' c' => [⟨.slice a' ((l.take k).map hyp).length c', 3, 1, ((l.take k).map hyp).length, (((l.take k).map hyp).map icell).flatten⟩]) (fun _ _ _ => []) (fun k a' c' => [(0, .slice a l.length c), (3, .slice a' ((l.take k).map hyp).length c'), (4, .int .i64 k)]) 0 _ _ (Nat.zero_le _) ?_ (fun _ hl => hl) ?_
  · (repeat (first | exact subF_nil _ | (refine subF_cons rfl ?_) | (refine subF_consv rfl (by rfl) ?_)))
  intro k a' c' hk
  have hpl : ((l.take k).map hyp).length = k := by rw [List.length_map, List.length_take]; omega
  by_cases hlt : k < l.length
  · obtain ⟨b1, o1, x, e1, hR1, hb1, hxk, hc1⟩ := h.get hlt
    subst e1
    have hS := map_next hyp hxk
    have hH := shypOf_c x
    generalize hyp x = y at *
    repeat (first | refine SX.seq ?_ | refine SXl.nil ?_ | refine SX.region ?_ | refine SQ.thenNormal ?_ | refine SX.block ?_ | refine SX.skip ?_ | refine SX.condT rfl ?_ | (refine l_load ?_; (refine SXl.v (OpW.loadRowOld rfl hc1 (Item.cells_len x) (Nat.succ_pos _) (fun h => h)) rfl ?_ ?_ ?_); rfl; rfl) | (refine l_call ?_; (refine SXl.v (OpW.call rfl (fun w hl => hH _)) rfl ?_ ?_ ?_); rfl; rfl) | (refine l_move ?_; (refine SXl.v (OpW.move rfl) rfl ?_ ?_ ?_); rfl; rfl) | (refine l_assign ?_; (refine SXl.v (OpW.assign rfl) rfl ?_ ?_ ?_); rfl; rfl) | (refine l_len ?_; (refine SXl.v (OpW.len rfl) rfl ?_ ?_ ?_); rfl; rfl) | (refine l_add ?_; (refine SXl.v (OpW.succ rfl rfl (by omega)) rfl ?_ ?_ ?_); rfl; rfl) | (refine l_lss ?_; (refine SXl.v (OpW.lssT rfl rfl (by omega)) rfl ?_ ?_ ?_); rfl; rfl) | (refine l_indexAddr ?_; (refine SXl.v (OpW.indexAddr (by omega) rfl rfl) rfl ?_ ?_ ?_); rfl; rfl) | (refine l_buildSlice ?_; first | (refine SXl.lit1 ?_ ?_ rfl rfl rfl (fun g => ?_); rfl; rfl) | (refine SXl.lit0 ?_ ?_ (fun _ h => h) rfl (fun g => ?_); rfl; rfl)) | (refine l_append ?_; first | (refine SXl.append 0 0 rfl rfl rfl rfl rfl rfl rfl rfl (by omega) (by omega) (fun a c => ?_); simp only [List.set_cons_zero, List.set_cons_succ]) | (refine SXl.append 1 0 rfl rfl rfl rfl rfl rfl rfl rfl (by omega) (by omega) (fun a c => ?_); simp only [List.set_cons_zero, List.set_cons_succ])) | refine SQ.blockNormal ?_)
    refine SQ.round3 (k + 1) _ _ (by omega) (by omega) ?_ (fun w hl => by rw [hS, List.length_append, List.map_append, List.flatten_append]; exact hl.drop1)
    (repeat (first | exact subF_nil _ | (refine subF_cons rfl ?_) | (refine subF_consv rfl (by rw [hS, List.length_append]; rfl) ?_)))
  · obtain rfl : k = l.length := by omega
    rw [List.take_length] at *
    repeat (first | refine SX.seq ?_ | refine SXl.nil ?_ | refine SX.region ?_ | refine SQ.thenNormal ?_ | refine SX.condF rfl ?_ | (refine l_move ?_; (refine SXl.v (OpW.move rfl) rfl ?_ ?_ ?_); rfl; rfl) | (refine l_assign ?_; (refine SXl.v (OpW.assign rfl) rfl ?_ ?_ ?_); rfl; rfl) | (refine l_len ?_; (refine SXl.v (OpW.len rfl) rfl ?_ ?_ ?_); rfl; rfl) | (refine l_lss ?_; (refine SXl.v (OpW.lssF rfl rfl (by omega)) rfl ?_ ?_ ?_); rfl; rfl) | refine SX.ret ?_ | refine SX.exit ?_ | refine SQ.thenExit ?_ | refine SQ.blockExit ?_)
    refine SQ.body1 rfl rfl (fun w' hl => ⟨a', c', rfl, (hl.own _ List.mem_cons_self).1, hl.mod⟩)
end Go.Proofs.Ytdohglcjjlmhhaa
namespace Go.Proofs.Ytdohglcjjlmhhaa
open Go.RowKit
set_option linter.unusedVariables false
set_option linter.unusedSimpArgs false

def gapTo (gap : Int) (k : Nat) : Int := gap * ((k - 1 : Nat) : Int)
theorem gapTo_bd {gap : Int} {k : Nat} (hg : -2147483648 ≤ gap ∧ gap ≤ 2147483648) (hk : k ≤ 1048576) : -2251799813685248 ≤ gapTo gap k ∧ gapTo gap k ≤ 2251799813685248 := by
  have := mulN_bd (m := 1048576) (k - 1) hg (by omega)
  unfold gapTo
  omega
theorem gapTo_one (gap : Int) : gapTo gap 1 = 0 := by simp [gapTo]
theorem gapTo_zero (gap : Int) : gapTo gap 0 = 0 := by simp [gapTo]
theorem gapTo_next (gap : Int) {k : Nat} (h : 0 < k) : gapTo gap (k + 1) = gapTo gap k + gap := by
  obtain ⟨m, rfl⟩ : ∃ m, k = m + 1 := ⟨k - 1, by omega⟩
  unfold gapTo
  simp only [Nat.add_sub_cancel]
  push_cast
  rw [Int.mul_add, Int.mul_one]
theorem gapTo_len (gap : Int) {k : Nat} (h : 0 < k) : gap * ((k : Int) - 1) = gapTo gap k := by
  unfold gapTo
  rw [Int.natCast_sub h]
  rfl
theorem outer_gap (l : List Item) (s : List Int) (gap : Int) : outerOf l s gap = s.sum + marg l + gapTo gap l.length := rfl
theorem marg_to {l : List Item} (h : ∀ x ∈ l, x.Fits) (hl : l.length ≤ 1048576) (k : Nat) : -4398046511104 ≤ marg (l.take k) ∧ marg (l.take k) ≤ 4398046511104 := by
  have := marg_bd (take_fits h k)
  have : (l.take k).length ≤ l.length := by rw [List.length_take]; omega
  omega
theorem sum_to {s : List Int} (h : Near 2147483648 s) (hl : s.length ≤ 1048576) (k : Nat) : -2251799813685248 ≤ (s.take k).sum ∧ (s.take k).sum ≤ 2251799813685248 := by
  have := sumN_bd 2147483648 _ (take_near h k)
  have : (s.take k).length ≤ s.length := by rw [List.length_take]; omega
  omega
set_option maxRecDepth 100000 in
set_option maxHeartbeats 4000000 in
theorem outerOf_any (l : List Item) (s : List Int) (gap : Int) (a b : Option Addr) (c d : Nat) (R S : Nat → Prop) (w : World) (hlen : l.length ≤ 1048576) (hslen : s.length ≤ 1048576) (hf : ∀ x ∈ l, x.Fits) (hn : Near 2147483648 s) (hg : -2147483648 ≤ gap ∧ gap ≤ 2147483648) (h : ItemSlice R w a l) (h' : IntSlice S w b s) :
    Calls Try.prog 50 #[.slice a l.length c, .slice b s.length d, .int .i64 gap] w fun e w' => e = .returned (.int .i64 (outerOf l s gap)) ∧ Mod (fun _ => False) w w' := by
  refine calls_sx Try.func50 rfl rfl (fun a h1 h2 h3 => (((Fr.nil h1 h2).arg (h3 2 _ rfl)).arg (h3 1 _ rfl)).arg (h3 0 _ rfl)) ?_
  repeat (first | refine SX.seq ?_ | refine SXl.nil ?_ | refine SX.region ?_ | refine SQ.thenNormal ?_ | refine SX.block ?_ | (refine l_move ?_; (refine SXl.v (OpW.move rfl) rfl ?_ ?_ ?_); rfl; rfl) | (refine l_assign ?_; (refine SXl.v (OpW.assign rfl) rfl ?_ ?_ ?_); rfl; rfl) | (refine l_len ?_; (refine SXl.v (OpW.len rfl) rfl ?_ ?_ ?_); rfl; rfl))
  refine SX.loopi (fun k : Nat => k ≤ s.length) (fun k => s.length - k) (fun _ => []) (fun _ => []) (fun _ => []) (fun k => [(0, .slice a l.length c), (2, .int .i64 gap), (7, .int .i64 (s.take k).sum), (12, .slice b s.length d), (13, .int .i64 s.length), (14, .int .i64 k)]) 0 (Nat.zero_le _) ?_ (fun _ hl => hl) ?_
  · (repeat (first | exact subF_nil _ | (refine subF_cons rfl ?_) | (refine subF_consv rfl (by rfl) ?_)))
  intro k hk
  have hb := sum_to hn hslen k
  by_cases hlt : k < s.length
  · obtain ⟨b1, o1, y, e1, hR1, hb1, hyk, hc1⟩ := IntSlice.get h' hlt
    subst e1
    have hS := sumN_next hyk.out
    have hy := hn y (List.mem_of_getElem? hyk.out)
    repeat (first | refine SX.seq ?_ | refine SXl.nil ?_ | refine SX.region ?_ | refine SQ.thenNormal ?_ | refine SX.block ?_ | refine SX.skip ?_ | refine SX.condT rfl ?_ | (refine l_load ?_; (refine SXl.v (OpW.loadOld rfl (by assumption) (fun h => h)) rfl ?_ ?_ ?_); rfl; rfl) | (refine l_move ?_; (refine SXl.v (OpW.move rfl) rfl ?_ ?_ ?_); rfl; rfl) | (refine l_assign ?_; (refine SXl.v (OpW.assign rfl) rfl ?_ ?_ ?_); rfl; rfl) | (refine l_add ?_; (first | refine SXl.v (OpW.succ rfl rfl (by omega)) rfl ?_ ?_ ?_ | refine SXl.v (OpW.addi rfl rfl (by omega) (by omega)) rfl ?_ ?_ ?_); rfl; rfl) | (refine l_lss ?_; (refine SXl.v (OpW.lssT rfl rfl (by omega)) rfl ?_ ?_ ?_); rfl; rfl) | (refine l_indexAddr ?_; (refine SXl.v (OpW.indexAddr1 (by omega) rfl rfl) rfl ?_ ?_ ?_); rfl; rfl) | refine SQ.blockNormal ?_)
    refine SQ.roundi (k + 1) (by omega) (by omega) ?_ (fun _ hl => hl)
    (repeat (first | exact subF_nil _ | (refine subF_cons rfl ?_) | (refine subF_consv rfl (by rw [hS]) ?_)))
  obtain rfl : k = s.length := by omega
  rw [List.take_length] at *
  generalize hT : s.sum = T at *
  repeat (first | refine SX.seq ?_ | refine SXl.nil ?_ | refine SX.region ?_ | refine SQ.thenNormal ?_ | refine SX.block ?_ | refine SX.condF rfl ?_ | (refine l_move ?_; (refine SXl.v (OpW.move rfl) rfl ?_ ?_ ?_); rfl; rfl) | (refine l_len ?_; (refine SXl.v (OpW.len rfl) rfl ?_ ?_ ?_); rfl; rfl) | (refine l_lss ?_; (refine SXl.v (OpW.lssF rfl rfl (by omega)) rfl ?_ ?_ ?_); rfl; rfl) | refine SX.exit ?_ | refine SQ.thenExit ?_ | refine SQ.blockExit ?_)
  refine SX.loopi (fun k : Nat => k ≤ l.length) (fun k => l.length - k) (fun _ => []) (fun _ => []) (fun _ => []) (fun k => [(0, .slice a l.length c), (2, .int .i64 gap), (7, .int .i64 (T + marg (l.take k))), (22, .slice a l.length c), (23, .int .i64 l.length), (24, .int .i64 k)]) 0 (Nat.zero_le _) ?_ (fun _ hl => hl) ?_
  · (repeat (first | exact subF_nil _ | (refine subF_cons rfl ?_) | (refine subF_consv rfl (by show _ = _; simp [marg]) ?_)))
  intro k hk
  have hm := marg_to hf hlen k
  by_cases hlt : k < l.length
  · obtain ⟨b1, o1, x, e1, hR1, hb1, hxk, hc1⟩ := h.get hlt
    subst e1
    have hS := marg_next hxk
    obtain ⟨-, -, -, x4, x5, -⟩ := hf x (List.mem_of_getElem? hxk)
    repeat (first | refine SX.seq ?_ | refine SXl.nil ?_ | refine SX.region ?_ | refine SQ.thenNormal ?_ | refine SX.block ?_ | refine SX.skip ?_ | refine SX.condT rfl ?_ | (refine l_load ?_; (first | refine SXl.v (OpW.loadRowOld rfl hc1 (Item.cells_len x) (Nat.succ_pos _) (fun h => h)) rfl ?_ ?_ ?_ | refine SXl.v (OpW.load 0 rfl rfl rfl) rfl ?_ ?_ ?_); rfl; rfl) | (refine l_fieldAddr ?_; (refine SXl.v (OpW.fieldAddr rfl) rfl ?_ ?_ ?_); rfl; rfl) | (refine l_move ?_; (refine SXl.v (OpW.move rfl) rfl ?_ ?_ ?_); rfl; rfl) | (refine l_assign ?_; (refine SXl.v (OpW.assign rfl) rfl ?_ ?_ ?_); rfl; rfl) | (refine l_add ?_; (first | refine SXl.v (OpW.succ rfl rfl (by omega)) rfl ?_ ?_ ?_ | refine SXl.v (OpW.addi rfl rfl (by omega) (by omega)) rfl ?_ ?_ ?_); rfl; rfl) | (refine l_lss ?_; (refine SXl.v (OpW.lssT rfl rfl (by omega)) rfl ?_ ?_ ?_); rfl; rfl) | (refine l_indexAddr ?_; (refine SXl.v (OpW.indexAddr (by omega) rfl rfl) rfl ?_ ?_ ?_); rfl; rfl) | (refine l_alloc ?_; refine SXl.alloc ?_ ?_ (fun g => ?_); rfl; rfl) | (refine l_store ?_; first | (refine SXl.storeAll 0 ?_ rfl rfl rfl rfl rfl rfl rfl ?_; rfl; simp only [List.set_cons_zero, List.set_cons_succ]) | (refine SXl.storeAll 1 ?_ rfl rfl rfl rfl rfl rfl rfl ?_; rfl; simp only [List.set_cons_zero, List.set_cons_succ]) | (refine SXl.storeAll 2 ?_ rfl rfl rfl rfl rfl rfl rfl ?_; rfl; simp only [List.set_cons_zero, List.set_cons_succ]) | (refine SXl.storeRow 0 ?_ rfl rfl rfl rfl rfl rfl rfl ?_; rfl; simp only [over, List.set_cons_zero, List.set_cons_succ]) | (refine SXl.storeRow 1 ?_ rfl rfl rfl rfl rfl rfl rfl ?_; rfl; simp only [over, List.set_cons_zero, List.set_cons_succ]) | (refine SXl.storeRow 2 ?_ rfl rfl rfl rfl rfl rfl rfl ?_; rfl; simp only [over, List.set_cons_zero, List.set_cons_succ])) | refine SQ.blockNormal ?_)
    refine SQ.roundi (k + 1) (by omega) (by omega) ?_ (fun _ hl => hl.drop1)
    (repeat (first | exact subF_nil _ | (refine subF_cons rfl ?_) | (refine subF_consv rfl (by rw [hS]; congr 1; omega) ?_)))
  obtain rfl : k = l.length := by omega
  rw [List.take_length] at *
  rw [outer_gap, hT]
  generalize marg l = M at *
  by_cases h0 : l.length = 0
  · rw [h0, gapTo_zero]
    rw [h0] at *
    repeat (first | refine SX.seq ?_ | refine SXl.nil ?_ | refine SX.region ?_ | refine SQ.thenNormal ?_ | refine SX.skip ?_ | refine SX.condF rfl ?_ | (refine l_move ?_; (refine SXl.v (OpW.move rfl) rfl ?_ ?_ ?_); rfl; rfl) | (refine l_assign ?_; (refine SXl.v (OpW.assign rfl) rfl ?_ ?_ ?_); rfl; rfl) | (refine l_len ?_; (refine SXl.v (OpW.len rfl) rfl ?_ ?_ ?_); rfl; rfl) | (refine l_gtr ?_; (refine SXl.v (OpW.gtrF rfl rfl (by omega)) rfl ?_ ?_ ?_); rfl; rfl) | (refine l_lss ?_; (refine SXl.v (OpW.lssF rfl rfl (by omega)) rfl ?_ ?_ ?_); rfl; rfl) | refine SX.ret ?_ | refine SX.exit ?_ | refine SQ.thenExit ?_ | refine SQ.blockExit ?_)
    refine SQ.body1 rfl rfl (fun w' hl => ⟨by rw [Int.add_zero], hl.mod⟩)
  · have hG := gapTo_bd hg hlen
    rw [← gapTo_len gap (by omega)] at *
    repeat (first | refine SX.seq ?_ | refine SXl.nil ?_ | refine SX.region ?_ | refine SQ.thenNormal ?_ | refine SX.condT rfl ?_ | refine SX.condF rfl ?_ | (refine l_move ?_; (refine SXl.v (OpW.move rfl) rfl ?_ ?_ ?_); rfl; rfl) | (refine l_assign ?_; (refine SXl.v (OpW.assign rfl) rfl ?_ ?_ ?_); rfl; rfl) | (refine l_len ?_; (refine SXl.v (OpW.len rfl) rfl ?_ ?_ ?_); rfl; rfl) | (refine l_add ?_; (refine SXl.v (OpW.addi rfl rfl (by omega) (by omega)) rfl ?_ ?_ ?_); rfl; rfl) | (refine l_gtr ?_; (refine SXl.v (OpW.gtrT rfl rfl (by omega)) rfl ?_ ?_ ?_); rfl; rfl) | (refine l_lss ?_; (refine SXl.v (OpW.lssF rfl rfl (by omega)) rfl ?_ ?_ ?_); rfl; rfl) | (refine l_mul ?_; (refine SXl.v (OpW.muli rfl rfl (by omega) (by omega)) rfl ?_ ?_ ?_); rfl; rfl) | (refine l_sub ?_; (refine SXl.v (OpW.subi rfl rfl (by omega) (by omega)) rfl ?_ ?_ ?_); rfl; rfl) | refine SX.ret ?_ | refine SX.exit ?_ | refine SQ.thenExit ?_ | refine SQ.blockExit ?_)
    refine SQ.body1 rfl rfl (fun w' hl => ⟨rfl, hl.mod⟩)
set_option maxRecDepth 100000 in
set_option maxHeartbeats 4000000 in
theorem souterOf_any (l : List Item) (s : List Int) (gap : Int) (a b : Option Addr) (c d : Nat) (R S : Nat → Prop) (w : World) (hlen : l.length ≤ 1048576) (hslen : s.length ≤ 1048576) (hf : ∀ x ∈ l, x.Fits) (hn : Near 2147483648 s) (hg : -2147483648 ≤ gap ∧ gap ≤ 2147483648) (h : ItemSlice R w a l) (h' : IntSlice S w b s) :
    Calls Try.prog 17 #[.slice a l.length c, .slice b s.length d, .int .i64 gap] w fun e w' => e = .returned (.int .i64 (outerOf l s gap)) ∧ Mod (fun _ => False) w w' := by
  refine calls_sx Try.func17 rfl rfl (fun a h1 h2 h3 => (((Fr.nil h1 h2).arg (h3 2 _ rfl)).arg (h3 1 _ rfl)).arg (h3 0 _ rfl)) ?_
  repeat (first | refine SX.seq ?_ | refine SXl.nil ?_ | refine SX.region ?_ | refine SQ.thenNormal ?_ | refine SX.block ?_ | (refine l_assign ?_; (refine SXl.v (OpW.assign rfl) rfl ?_ ?_ ?_); rfl; rfl))
  refine SX.loopi (fun k : Nat => k ≤ l.length) (fun k => l.length - k) (fun _ => []) (fun _ => []) (fun _ => []) (fun k => [(0, .slice a l.length c), (1, .slice b s.length d), (2, .int .i64 gap), (7, .int .i64 (marg (l.take k) + gapTo gap k)), (8, .int .i64 k)]) 0 (Nat.zero_le _) ?_ (fun _ hl => hl) ?_
  · (repeat (first | exact subF_nil _ | (refine subF_cons rfl ?_) | (refine subF_consv rfl (by rw [gapTo_zero]; rfl) ?_)))
  intro k hk
  have hm := marg_to hf hlen k
  have hG := gapTo_bd hg (show k ≤ 1048576 by omega)
  by_cases hlt : k < l.length
  · obtain ⟨b1, o1, x, e1, hR1, hb1, hxk, hc1⟩ := h.get hlt
    subst e1
    have hS := marg_next hxk
    obtain ⟨-, -, -, x4, x5, -⟩ := hf x (List.mem_of_getElem? hxk)
    have c5 := hc1 5 _ rfl
    have c6 := hc1 6 _ rfl
    by_cases h0 : k = 0
    · subst h0
      rw [gapTo_zero] at *
      repeat (first | refine SX.seq ?_ | refine SXl.nil ?_ | refine SX.region ?_ | refine SQ.thenNormal ?_ | refine SX.block ?_ | refine SX.skip ?_ | refine SX.condT rfl ?_ | (refine l_move ?_; (refine SXl.v (OpW.move rfl) rfl ?_ ?_ ?_); rfl; rfl) | (refine l_len ?_; (refine SXl.v (OpW.len rfl) rfl ?_ ?_ ?_); rfl; rfl) | (refine l_lss ?_; (refine SXl.v (OpW.lssT rfl rfl (by omega)) rfl ?_ ?_ ?_); rfl; rfl))
      refine SX.drawnTail 13 (by kernel_rfl) (by kernel_rfl) (by kernel_rfl) ?_
      repeat (first | (refine SXr.tail ?_) | refine SX.seq ?_ | refine SXl.nil ?_ | refine SX.region ?_ | refine SQ.thenNormal ?_ | refine SX.skip ?_ | refine SX.condF rfl ?_ | (refine l_move ?_; (refine SXl.v (OpW.move rfl) rfl ?_ ?_ ?_); rfl; rfl) | (refine l_assign ?_; (refine SXl.v (OpW.assign rfl) rfl ?_ ?_ ?_); rfl; rfl) | (refine l_add ?_; (refine SXl.v (OpW.succ rfl rfl (by omega)) rfl ?_ ?_ ?_); rfl; rfl) | (refine l_gtr ?_; (refine SXl.v (OpW.gtrF rfl rfl (by omega)) rfl ?_ ?_ ?_); rfl; rfl) | (refine r_load ?_; (refine SXr.v (OpW.loadOld rfl (by assumption) (fun h => h)) rfl ?_ ?_ ?_); rfl; rfl) | (refine r_fieldAddr ?_; (refine SXr.v (OpW.fieldAddr rfl) rfl ?_ ?_ ?_); rfl; rfl) | (refine r_move ?_; (refine SXr.v (OpW.move rfl) rfl ?_ ?_ ?_); rfl; rfl) | (refine r_add ?_; (refine SXr.v (OpW.addi rfl rfl (by omega) (by omega)) rfl ?_ ?_ ?_); rfl; rfl) | (refine r_indexAddr ?_; (refine SXr.v (OpW.indexAddr (by omega) rfl rfl) rfl ?_ ?_ ?_); rfl; rfl) | refine SQ.blockNormal ?_)
      refine SQ.roundi (0 + 1) (by omega) (by omega) ?_ (fun _ hl => hl)
      (repeat (first | exact subF_nil _ | (refine subF_cons rfl ?_) | (refine subF_consv rfl (by rw [hS, gapTo_one]; congr 1; omega) ?_)))
    · have hN := gapTo_next gap (k := k) (by omega)
      repeat (first | refine SX.seq ?_ | refine SXl.nil ?_ | refine SX.region ?_ | refine SQ.thenNormal ?_ | refine SX.block ?_ | refine SX.skip ?_ | refine SX.condT rfl ?_ | (refine l_move ?_; (refine SXl.v (OpW.move rfl) rfl ?_ ?_ ?_); rfl; rfl) | (refine l_len ?_; (refine SXl.v (OpW.len rfl) rfl ?_ ?_ ?_); rfl; rfl) | (refine l_lss ?_; (refine SXl.v (OpW.lssT rfl rfl (by omega)) rfl ?_ ?_ ?_); rfl; rfl))
      refine SX.drawnTail 13 (by kernel_rfl) (by kernel_rfl) (by kernel_rfl) ?_
      repeat (first | (refine SXr.tail ?_) | refine SX.seq ?_ | refine SXl.nil ?_ | refine SX.region ?_ | refine SQ.thenNormal ?_ | refine SX.condT rfl ?_ | (refine l_move ?_; (refine SXl.v (OpW.move rfl) rfl ?_ ?_ ?_); rfl; rfl) | (refine l_assign ?_; (refine SXl.v (OpW.assign rfl) rfl ?_ ?_ ?_); rfl; rfl) | (refine l_add ?_; (first | refine SXl.v (OpW.succ rfl rfl (by omega)) rfl ?_ ?_ ?_ | refine SXl.v (OpW.addi rfl rfl (by omega) (by omega)) rfl ?_ ?_ ?_); rfl; rfl) | (refine l_gtr ?_; (refine SXl.v (OpW.gtrT rfl rfl (by omega)) rfl ?_ ?_ ?_); rfl; rfl) | (refine r_load ?_; (refine SXr.v (OpW.loadOld rfl (by assumption) (fun h => h)) rfl ?_ ?_ ?_); rfl; rfl) | (refine r_fieldAddr ?_; (refine SXr.v (OpW.fieldAddr rfl) rfl ?_ ?_ ?_); rfl; rfl) | (refine r_move ?_; (refine SXr.v (OpW.move rfl) rfl ?_ ?_ ?_); rfl; rfl) | (refine r_add ?_; (refine SXr.v (OpW.addi rfl rfl (by omega) (by omega)) rfl ?_ ?_ ?_); rfl; rfl) | (refine r_indexAddr ?_; (refine SXr.v (OpW.indexAddr (by omega) rfl rfl) rfl ?_ ?_ ?_); rfl; rfl) | refine SQ.blockNormal ?_)
      refine SQ.roundi (k + 1) (by omega) (by omega) ?_ (fun _ hl => hl)
      (repeat (first | exact subF_nil _ | (refine subF_cons rfl ?_) | (refine subF_consv rfl (by rw [hS, hN]; congr 1; omega) ?_)))
  obtain rfl : k = l.length := by omega
  rw [List.take_length] at *
  rw [outer_gap]
  generalize marg l = M at *
  generalize gapTo gap l.length = G at *
  repeat (first | refine SX.seq ?_ | refine SXl.nil ?_ | refine SX.region ?_ | refine SQ.thenNormal ?_ | refine SX.block ?_ | refine SX.condF rfl ?_ | (refine l_move ?_; (refine SXl.v (OpW.move rfl) rfl ?_ ?_ ?_); rfl; rfl) | (refine l_assign ?_; (refine SXl.v (OpW.assign rfl) rfl ?_ ?_ ?_); rfl; rfl) | (refine l_len ?_; (refine SXl.v (OpW.len rfl) rfl ?_ ?_ ?_); rfl; rfl) | (refine l_lss ?_; (refine SXl.v (OpW.lssF rfl rfl (by omega)) rfl ?_ ?_ ?_); rfl; rfl) | refine SX.exit ?_ | refine SQ.thenExit ?_ | refine SQ.blockExit ?_)
  refine SX.loopi (fun k : Nat => k ≤ s.length) (fun k => s.length - k) (fun _ => []) (fun _ => []) (fun _ => []) (fun k => [(1, .slice b s.length d), (7, .int .i64 (M + G + (s.take k).sum)), (9, .int .i64 k)]) 0 (Nat.zero_le _) ?_ (fun _ hl => hl) ?_
  · (repeat (first | exact subF_nil _ | (refine subF_cons rfl ?_) | (refine subF_consv rfl (by show _ = _; simp) ?_)))
  intro k hk
  have hb := sum_to hn hslen k
  by_cases hlt : k < s.length
  · obtain ⟨b1, o1, y, e1, hR1, hb1, hyk, hc1⟩ := IntSlice.get h' hlt
    subst e1
    have hS := sumN_next hyk.out
    have hy := hn y (List.mem_of_getElem? hyk.out)
    repeat (first | refine SX.seq ?_ | refine SXl.nil ?_ | refine SX.region ?_ | refine SQ.thenNormal ?_ | refine SX.block ?_ | refine SX.skip ?_ | refine SX.condT rfl ?_ | (refine l_load ?_; (refine SXl.v (OpW.loadOld rfl (by assumption) (fun h => h)) rfl ?_ ?_ ?_); rfl; rfl) | (refine l_move ?_; (refine SXl.v (OpW.move rfl) rfl ?_ ?_ ?_); rfl; rfl) | (refine l_assign ?_; (refine SXl.v (OpW.assign rfl) rfl ?_ ?_ ?_); rfl; rfl) | (refine l_len ?_; (refine SXl.v (OpW.len rfl) rfl ?_ ?_ ?_); rfl; rfl) | (refine l_add ?_; (first | refine SXl.v (OpW.succ rfl rfl (by omega)) rfl ?_ ?_ ?_ | refine SXl.v (OpW.addi rfl rfl (by omega) (by omega)) rfl ?_ ?_ ?_); rfl; rfl) | (refine l_lss ?_; (refine SXl.v (OpW.lssT rfl rfl (by omega)) rfl ?_ ?_ ?_); rfl; rfl) | (refine l_indexAddr ?_; (refine SXl.v (OpW.indexAddr1 (by omega) rfl rfl) rfl ?_ ?_ ?_); rfl; rfl) | refine SQ.blockNormal ?_)
    refine SQ.roundi (k + 1) (by omega) (by omega) ?_ (fun _ hl => hl)
    (repeat (first | exact subF_nil _ | (refine subF_cons rfl ?_) | (refine subF_consv rfl (by rw [hS]; rw [← Int.add_assoc]) ?_)))
  obtain rfl : k = s.length := by omega
  rw [List.take_length] at *
  repeat (first | refine SX.seq ?_ | refine SXl.nil ?_ | refine SX.region ?_ | refine SQ.thenNormal ?_ | refine SX.condF rfl ?_ | (refine l_move ?_; (refine SXl.v (OpW.move rfl) rfl ?_ ?_ ?_); rfl; rfl) | (refine l_assign ?_; (refine SXl.v (OpW.assign rfl) rfl ?_ ?_ ?_); rfl; rfl) | (refine l_len ?_; (refine SXl.v (OpW.len rfl) rfl ?_ ?_ ?_); rfl; rfl) | (refine l_lss ?_; (refine SXl.v (OpW.lssF rfl rfl (by omega)) rfl ?_ ?_ ?_); rfl; rfl) | refine SX.ret ?_ | refine SX.exit ?_ | refine SQ.thenExit ?_ | refine SQ.blockExit ?_)
  refine SQ.body1 rfl rfl (fun w' hl => ⟨by congr 2; omega, hl.mod⟩)
end Go.Proofs.Ytdohglcjjlmhhaa
namespace Go.Proofs.Ytdohglcjjlmhhaa
open Go.RowKit
set_option linter.unusedVariables false
set_option linter.unusedSimpArgs false

def itemsOk (l : List Item) : Bool := l.all itemOk && decide (l.length ≤ 12)
theorem all_next {l : List Item} {k : Nat} {x : Item} (h : l[k]? = some x) (ha : (l.take k).all itemOk = true) (hx : itemOk x = true) : (l.take (k + 1)).all itemOk = true := by
  rw [List.take_add_one, h, List.all_append, ha]
  simp [hx]
theorem itemsOk_no {l : List Item} {k : Nat} {x : Item} (h : l[k]? = some x) (hx : itemOk x = false) : itemsOk l = false := by
  have : l.all itemOk = false := by
    rw [← Bool.not_eq_true]
    intro hc
    have := List.all_eq_true.1 hc x (List.mem_of_getElem? h)
    rw [hx] at this
    cases this
  unfold itemsOk
  rw [this, Bool.false_and]
set_option maxRecDepth 100000 in
set_option maxHeartbeats 4000000 in
theorem itemsOk_any (l : List Item) (a : Option Addr) (c : Nat) (R : Nat → Prop) (w : World) (hlen : l.length ≤ 1048576) (h : ItemSlice R w a l) :
    Calls Try.prog 28 #[.slice a l.length c] w fun e w' => e = .returned (.bool (itemsOk l)) ∧ Mod (fun _ => False) w w' := by
  refine calls_sx Try.func28 rfl rfl (fun a h1 h2 h3 => ((Fr.nil h1 h2).arg (h3 0 _ rfl))) ?_
  repeat (first | refine SX.seq ?_ | refine SXl.nil ?_ | refine SX.region ?_ | refine SQ.thenNormal ?_ | refine SX.block ?_ | (refine l_move ?_; (refine SXl.v (OpW.move rfl) rfl ?_ ?_ ?_); rfl; rfl) | (refine l_assign ?_; (refine SXl.v (OpW.assign rfl) rfl ?_ ?_ ?_); rfl; rfl) | (refine l_len ?_; (refine SXl.v (OpW.len rfl) rfl ?_ ?_ ?_); rfl; rfl))
  refine SX.loopi (fun k : Nat => k ≤ l.length ∧ (l.take k).all itemOk = true) (fun k => l.length - k) (fun _ => []) (fun _ => []) (fun _ => []) (fun k => [(0, .slice a l.length c), (5, .slice a l.length c), (6, .int .i64 l.length), (7, .int .i64 k)]) 0 ⟨Nat.zero_le _, rfl⟩ ?_ (fun _ hl => hl) ?_
  · (repeat (first | exact subF_nil _ | (refine subF_cons rfl ?_) | (refine subF_consv rfl (by rfl) ?_)))
  rintro k ⟨hk, ha⟩
  by_cases hlt : k < l.length
  · obtain ⟨b1, o1, x, e1, hR1, hb1, hxk, hc1⟩ := h.get hlt
    subst e1
    have hN := all_next hxk ha
    have hF := itemsOk_no hxk
    have hO := itemOk_c x
    cases hx : itemOk x
    · rw [hx] at hO
      repeat (first | refine SX.seq ?_ | refine SXl.nil ?_ | refine SX.region ?_ | refine SQ.thenNormal ?_ | refine SX.block ?_ | refine SX.skip ?_ | refine SX.condT rfl ?_ | (refine l_load ?_; (first | refine SXl.v (OpW.loadRowOld rfl hc1 (Item.cells_len x) (Nat.succ_pos _) (fun h => h)) rfl ?_ ?_ ?_ | refine SXl.v (OpW.loadAll 0 rfl rfl rfl) rfl ?_ ?_ ?_); rfl; rfl) | (refine l_call ?_; (refine SXl.v (OpW.call rfl (fun w hl => hO _)) rfl ?_ ?_ ?_); rfl; rfl) | (refine l_assign ?_; (refine SXl.v (OpW.assign rfl) rfl ?_ ?_ ?_); rfl; rfl) | (refine l_lss ?_; (refine SXl.v (OpW.lssT rfl rfl (by omega)) rfl ?_ ?_ ?_); rfl; rfl) | (refine l_not ?_; (refine SXl.v (OpW.not rfl) rfl ?_ ?_ ?_); rfl; rfl) | (refine l_indexAddr ?_; (refine SXl.v (OpW.indexAddr (by omega) rfl rfl) rfl ?_ ?_ ?_); rfl; rfl) | (refine l_alloc ?_; refine SXl.alloc ?_ ?_ (fun g => ?_); rfl; rfl) | (refine l_store ?_; first | (refine SXl.storeAll 0 ?_ rfl rfl rfl rfl rfl rfl rfl ?_; rfl; simp only [List.set_cons_zero, List.set_cons_succ]) | (refine SXl.storeAll 1 ?_ rfl rfl rfl rfl rfl rfl rfl ?_; rfl; simp only [List.set_cons_zero, List.set_cons_succ]) | (refine SXl.storeAll 2 ?_ rfl rfl rfl rfl rfl rfl rfl ?_; rfl; simp only [List.set_cons_zero, List.set_cons_succ]) | (refine SXl.storeRow 0 ?_ rfl rfl rfl rfl rfl rfl rfl ?_; rfl; simp only [over, List.set_cons_zero, List.set_cons_succ]) | (refine SXl.storeRow 1 ?_ rfl rfl rfl rfl rfl rfl rfl ?_; rfl; simp only [over, List.set_cons_zero, List.set_cons_succ]) | (refine SXl.storeRow 2 ?_ rfl rfl rfl rfl rfl rfl rfl ?_; rfl; simp only [over, List.set_cons_zero, List.set_cons_succ])) | refine SX.ret ?_ | refine SQ.thenRet ?_ | refine SQ.blockRet ?_)
      refine SQ.body1 rfl rfl (fun w' hl => ⟨by rw [hF hx], hl.mod⟩)
    · rw [hx] at hO
      repeat (first | refine SX.seq ?_ | refine SXl.nil ?_ | refine SX.region ?_ | refine SQ.thenNormal ?_ | refine SX.block ?_ | refine SX.skip ?_ | refine SX.condT rfl ?_ | refine SX.condF rfl ?_ | (refine l_load ?_; (first | refine SXl.v (OpW.loadRowOld rfl hc1 (Item.cells_len x) (Nat.succ_pos _) (fun h => h)) rfl ?_ ?_ ?_ | refine SXl.v (OpW.loadAll 0 rfl rfl rfl) rfl ?_ ?_ ?_); rfl; rfl) | (refine l_call ?_; (refine SXl.v (OpW.call rfl (fun w hl => hO _)) rfl ?_ ?_ ?_); rfl; rfl) | (refine l_move ?_; (refine SXl.v (OpW.move rfl) rfl ?_ ?_ ?_); rfl; rfl) | (refine l_add ?_; (refine SXl.v (OpW.succ rfl rfl (by omega)) rfl ?_ ?_ ?_); rfl; rfl) | (refine l_lss ?_; (refine SXl.v (OpW.lssT rfl rfl (by omega)) rfl ?_ ?_ ?_); rfl; rfl) | (refine l_not ?_; (refine SXl.v (OpW.not rfl) rfl ?_ ?_ ?_); rfl; rfl) | (refine l_indexAddr ?_; (refine SXl.v (OpW.indexAddr (by omega) rfl rfl) rfl ?_ ?_ ?_); rfl; rfl) | (refine l_alloc ?_; refine SXl.alloc ?_ ?_ (fun g => ?_); rfl; rfl) | (refine l_store ?_; first | (refine SXl.storeAll 0 ?_ rfl rfl rfl rfl rfl rfl rfl ?_; rfl; simp only [List.set_cons_zero, List.set_cons_succ]) | (refine SXl.storeAll 1 ?_ rfl rfl rfl rfl rfl rfl rfl ?_; rfl; simp only [List.set_cons_zero, List.set_cons_succ]) | (refine SXl.storeAll 2 ?_ rfl rfl rfl rfl rfl rfl rfl ?_; rfl; simp only [List.set_cons_zero, List.set_cons_succ]) | (refine SXl.storeRow 0 ?_ rfl rfl rfl rfl rfl rfl rfl ?_; rfl; simp only [over, List.set_cons_zero, List.set_cons_succ]) | (refine SXl.storeRow 1 ?_ rfl rfl rfl rfl rfl rfl rfl ?_; rfl; simp only [over, List.set_cons_zero, List.set_cons_succ]) | (refine SXl.storeRow 2 ?_ rfl rfl rfl rfl rfl rfl rfl ?_; rfl; simp only [over, List.set_cons_zero, List.set_cons_succ])) | refine SQ.blockNormal ?_)
      refine SQ.roundi (k + 1) ⟨by omega, hN hx⟩ (by omega) ?_ (fun _ hl => hl.drop1)
      (repeat (first | exact subF_nil _ | (refine subF_cons rfl ?_) | (refine subF_consv rfl (by rfl) ?_)))
  · obtain rfl : k = l.length := by omega
    rw [List.take_length] at ha
    have e : itemsOk l = decide ((l.length : Int) ≤ 12) := by
      unfold itemsOk
      rw [ha, Bool.true_and]
      exact decide_eq_decide.2 (by omega)
    rw [e]
    by_cases h12 : (l.length : Int) ≤ 12
    · rw [decide_eq_true h12]
      repeat (first | refine SX.seq ?_ | refine SXl.nil ?_ | refine SX.region ?_ | refine SQ.thenNormal ?_ | refine SX.condF rfl ?_ | (refine l_move ?_; (refine SXl.v (OpW.move rfl) rfl ?_ ?_ ?_); rfl; rfl) | (refine l_assign ?_; (refine SXl.v (OpW.assign rfl) rfl ?_ ?_ ?_); rfl; rfl) | (refine l_len ?_; (refine SXl.v (OpW.len rfl) rfl ?_ ?_ ?_); rfl; rfl) | (refine l_leq ?_; (refine SXl.v (OpW.leqT rfl rfl (by omega)) rfl ?_ ?_ ?_); rfl; rfl) | (refine l_lss ?_; (refine SXl.v (OpW.lssF rfl rfl (by omega)) rfl ?_ ?_ ?_); rfl; rfl) | refine SX.ret ?_ | refine SX.exit ?_ | refine SQ.thenExit ?_ | refine SQ.blockExit ?_)
      refine SQ.body1 rfl rfl (fun w' hl => ⟨rfl, hl.mod⟩)
    · rw [decide_eq_false h12]
      repeat (first | refine SX.seq ?_ | refine SXl.nil ?_ | refine SX.region ?_ | refine SQ.thenNormal ?_ | refine SX.condF rfl ?_ | (refine l_move ?_; (refine SXl.v (OpW.move rfl) rfl ?_ ?_ ?_); rfl; rfl) | (refine l_assign ?_; (refine SXl.v (OpW.assign rfl) rfl ?_ ?_ ?_); rfl; rfl) | (refine l_len ?_; (refine SXl.v (OpW.len rfl) rfl ?_ ?_ ?_); rfl; rfl) | (refine l_leq ?_; (refine SXl.v (OpW.leqF rfl rfl (by omega)) rfl ?_ ?_ ?_); rfl; rfl) | (refine l_lss ?_; (refine SXl.v (OpW.lssF rfl rfl (by omega)) rfl ?_ ?_ ?_); rfl; rfl) | refine SX.ret ?_ | refine SX.exit ?_ | refine SQ.thenExit ?_ | refine SQ.blockExit ?_)
      refine SQ.body1 rfl rfl (fun w' hl => ⟨rfl, hl.mod⟩)
set_option maxRecDepth 100000 in
set_option maxHeartbeats 4000000 in
theorem sitemsOk_any (l : List Item) (a : Option Addr) (c : Nat) (R : Nat → Prop) (w : World) (hlen : l.length ≤ 1048576) (h : ItemSlice R w a l) :
    Calls Try.prog 14 #[.slice a l.length c] w fun e w' => e = .returned (.bool (itemsOk l)) ∧ Mod (fun _ => False) w w' := by
  refine calls_sx Try.func14 rfl rfl (fun a h1 h2 h3 => ((Fr.nil h1 h2).arg (h3 0 _ rfl))) ?_
  repeat (first | refine SX.seq ?_ | refine SXl.nil ?_ | refine SX.region ?_ | refine SQ.thenNormal ?_ | refine SX.block ?_ | (refine l_assign ?_; (refine SXl.v (OpW.assign rfl) rfl ?_ ?_ ?_); rfl; rfl))
  refine SX.loopi (fun k : Nat => k ≤ l.length ∧ (l.take k).all itemOk = true) (fun k => l.length - k) (fun _ => []) (fun _ => []) (fun _ => []) (fun k => [(0, .slice a l.length c), (3, .int .i64 k)]) 0 ⟨Nat.zero_le _, rfl⟩ ?_ (fun _ hl => hl) ?_
  · (repeat (first | exact subF_nil _ | (refine subF_cons rfl ?_) | (refine subF_consv rfl (by rfl) ?_)))
  rintro k ⟨hk, ha⟩
  by_cases hlt : k < l.length
  · obtain ⟨b1, o1, x, e1, hR1, hb1, hxk, hc1⟩ := h.get hlt
    subst e1
    have hN := all_next hxk ha
    have hF := itemsOk_no hxk
    have hO := sitemOk_c x
    cases hx : itemOk x
    · rw [hx] at hO
      repeat (first | refine SX.seq ?_ | refine SXl.nil ?_ | refine SX.region ?_ | refine SQ.thenNormal ?_ | refine SX.block ?_ | refine SX.skip ?_ | refine SX.condT rfl ?_ | (refine l_load ?_; (refine SXl.v (OpW.loadRowOld rfl hc1 (Item.cells_len x) (Nat.succ_pos _) (fun h => h)) rfl ?_ ?_ ?_); rfl; rfl) | (refine l_call ?_; (refine SXl.v (OpW.call rfl (fun w hl => hO _)) rfl ?_ ?_ ?_); rfl; rfl) | (refine l_move ?_; (refine SXl.v (OpW.move rfl) rfl ?_ ?_ ?_); rfl; rfl) | (refine l_assign ?_; (refine SXl.v (OpW.assign rfl) rfl ?_ ?_ ?_); rfl; rfl) | (refine l_len ?_; (refine SXl.v (OpW.len rfl) rfl ?_ ?_ ?_); rfl; rfl) | (refine l_lss ?_; (refine SXl.v (OpW.lssT rfl rfl (by omega)) rfl ?_ ?_ ?_); rfl; rfl) | (refine l_not ?_; (refine SXl.v (OpW.not rfl) rfl ?_ ?_ ?_); rfl; rfl) | (refine l_indexAddr ?_; (refine SXl.v (OpW.indexAddr (by omega) rfl rfl) rfl ?_ ?_ ?_); rfl; rfl) | refine SX.ret ?_ | refine SQ.thenRet ?_ | refine SQ.blockRet ?_)
      refine SQ.body1 rfl rfl (fun w' hl => ⟨by rw [hF hx], hl.mod⟩)
    · rw [hx] at hO
      repeat (first | refine SX.seq ?_ | refine SXl.nil ?_ | refine SX.region ?_ | refine SQ.thenNormal ?_ | refine SX.block ?_ | refine SX.skip ?_ | refine SX.condT rfl ?_ | refine SX.condF rfl ?_ | (refine l_load ?_; (refine SXl.v (OpW.loadRowOld rfl hc1 (Item.cells_len x) (Nat.succ_pos _) (fun h => h)) rfl ?_ ?_ ?_); rfl; rfl) | (refine l_call ?_; (refine SXl.v (OpW.call rfl (fun w hl => hO _)) rfl ?_ ?_ ?_); rfl; rfl) | (refine l_move ?_; (refine SXl.v (OpW.move rfl) rfl ?_ ?_ ?_); rfl; rfl) | (refine l_assign ?_; (refine SXl.v (OpW.assign rfl) rfl ?_ ?_ ?_); rfl; rfl) | (refine l_len ?_; (refine SXl.v (OpW.len rfl) rfl ?_ ?_ ?_); rfl; rfl) | (refine l_add ?_; (refine SXl.v (OpW.succ rfl rfl (by omega)) rfl ?_ ?_ ?_); rfl; rfl) | (refine l_lss ?_; (refine SXl.v (OpW.lssT rfl rfl (by omega)) rfl ?_ ?_ ?_); rfl; rfl) | (refine l_not ?_; (refine SXl.v (OpW.not rfl) rfl ?_ ?_ ?_); rfl; rfl) | (refine l_indexAddr ?_; (refine SXl.v (OpW.indexAddr (by omega) rfl rfl) rfl ?_ ?_ ?_); rfl; rfl) | refine SQ.blockNormal ?_)
      refine SQ.roundi (k + 1) ⟨by omega, hN hx⟩ (by omega) ?_ (fun _ hl => hl)
      (repeat (first | exact subF_nil _ | (refine subF_cons rfl ?_) | (refine subF_consv rfl (by rfl) ?_)))
  · obtain rfl : k = l.length := by omega
    rw [List.take_length] at ha
    have e : itemsOk l = decide ((l.length : Int) ≤ 12) := by
      unfold itemsOk
      rw [ha, Bool.true_and]
      exact decide_eq_decide.2 (by omega)
    rw [e]
    by_cases h12 : (l.length : Int) ≤ 12
    · rw [decide_eq_true h12]
      repeat (first | refine SX.seq ?_ | refine SXl.nil ?_ | refine SX.region ?_ | refine SQ.thenNormal ?_ | refine SX.condF rfl ?_ | (refine l_move ?_; (refine SXl.v (OpW.move rfl) rfl ?_ ?_ ?_); rfl; rfl) | (refine l_assign ?_; (refine SXl.v (OpW.assign rfl) rfl ?_ ?_ ?_); rfl; rfl) | (refine l_len ?_; (refine SXl.v (OpW.len rfl) rfl ?_ ?_ ?_); rfl; rfl) | (refine l_leq ?_; (refine SXl.v (OpW.leqT rfl rfl (by omega)) rfl ?_ ?_ ?_); rfl; rfl) | (refine l_lss ?_; (refine SXl.v (OpW.lssF rfl rfl (by omega)) rfl ?_ ?_ ?_); rfl; rfl) | refine SX.ret ?_ | refine SX.exit ?_ | refine SQ.thenExit ?_ | refine SQ.blockExit ?_)
      refine SQ.body1 rfl rfl (fun w' hl => ⟨rfl, hl.mod⟩)
    · rw [decide_eq_false h12]
      repeat (first | refine SX.seq ?_ | refine SXl.nil ?_ | refine SX.region ?_ | refine SQ.thenNormal ?_ | refine SX.condF rfl ?_ | (refine l_move ?_; (refine SXl.v (OpW.move rfl) rfl ?_ ?_ ?_); rfl; rfl) | (refine l_assign ?_; (refine SXl.v (OpW.assign rfl) rfl ?_ ?_ ?_); rfl; rfl) | (refine l_len ?_; (refine SXl.v (OpW.len rfl) rfl ?_ ?_ ?_); rfl; rfl) | (refine l_leq ?_; (refine SXl.v (OpW.leqF rfl rfl (by omega)) rfl ?_ ?_ ?_); rfl; rfl) | (refine l_lss ?_; (refine SXl.v (OpW.lssF rfl rfl (by omega)) rfl ?_ ?_ ?_); rfl; rfl) | refine SX.ret ?_ | refine SX.exit ?_ | refine SQ.thenExit ?_ | refine SQ.blockExit ?_)
      refine SQ.body1 rfl rfl (fun w' hl => ⟨rfl, hl.mod⟩)
end Go.Proofs.Ytdohglcjjlmhhaa
namespace Go.Proofs.Ytdohglcjjlmhhaa
open Go.RowKit

def autosIn (l : List Item) : Nat := (l.map fun x => x.autoBefore.toNat + x.autoBehind.toNat).sum
theorem autosIn_next {l : List Item} {k : Nat} {x : Item} (h : l[k]? = some x) : autosIn (l.take (k + 1)) = autosIn (l.take k) + (x.autoBefore.toNat + x.autoBehind.toNat) := by
  unfold autosIn
  rw [List.take_add_one, h, List.map_append, List.sum_append]
  simp
theorem toNat_le (b : Bool) : b.toNat ≤ 1 := by cases b <;> decide
theorem autosIn_le : ∀ l : List Item, autosIn l ≤ 2 * l.length
  | [] => Nat.le_refl _
  | x :: t => by
    have ih := autosIn_le t
    have h1 := toNat_le x.autoBefore
    have h2 := toNat_le x.autoBehind
    unfold autosIn at *
    rw [List.map_cons, List.sum_cons, List.length_cons]
    omega
theorem autosIn_mono (l : List Item) (k : Nat) : autosIn (l.take k) ≤ autosIn l := by
  have : autosIn l = autosIn (l.take k) + autosIn (l.drop k) := by
    unfold autosIn
    rw [← List.sum_append, ← List.map_append, List.take_append_drop]
  omega
def alongOk (l : List Item) (sizes : List Int) (gap inner : Int) : Bool := itemsOk l && decide (sizes.length = l.length) && inB gap 0 1048576 && inB inner 0 1048576 && sizes.all (fun s => inB s 0 1048576)
/-- What auto margins get. -/
def extraL (free : Int) (autos : Nat) : List Int := if 0 < (autos : Int) ∧ 0 < free then evenly free autos else []
def autoV (b : Bool) (e : List Int) (u : Nat) : Int := if b then elemAt e u else 0
/-- A line: its items, their sizes, the gap, the free room, how it is justified. -/
structure Along where
  l : List Item
  sizes : List Int
  gap : Int
  free : Int
  justify : Int
namespace Along
variable (c : Along)
def autos : Nat := autosIn c.l
def item (k : Nat) : Item := (c.l[k]?).getD default
def size (k : Nat) : Int := (c.sizes[k]?).getD 0
def extra : List Int := extraL c.free c.autos
def used (k : Nat) : Nat := autosIn (c.l.take k)
def space (k : Nat) : Int := if c.autos = 0 then betweenOf c.free c.l.length c.justify k else 0
def start : Int := if c.autos = 0 then leadOf c.free c.l.length c.justify else 0
def ahead (k : Nat) : Int := (c.item k).before + autoV (c.item k).autoBefore c.extra (c.used k)
def behind (k : Nat) : Int := c.size k + (c.item k).behind + autoV (c.item k).autoBehind c.extra (c.used k + (c.item k).autoBefore.toNat)
def gapAt (k : Nat) : Int := if k + 1 < c.l.length then c.gap + c.space k else 0
def at_ : Nat → Int
  | 0 => c.start
  | k + 1 => at_ k + c.ahead k + c.behind k + c.gapAt k
def place (k : Nat) : Int := c.at_ k + c.ahead k
def placesTo (k : Nat) : List Int := (List.range k).map c.place
theorem placesTo_next (k : Nat) : c.placesTo (k + 1) = c.placesTo k ++ [c.place k] := by simp [placesTo, List.range_succ]
theorem placesTo_len (k : Nat) : (c.placesTo k).length = k := by simp [placesTo]
end Along
theorem extra_bd (free : Int) (autos : Nat) (i : Int) : -1048577 ≤ elemAt (extraL free autos) i ∧ elemAt (extraL free autos) i ≤ 1048577 := by
  unfold extraL
  split
  · exact elemAt_bd free autos i
  · unfold elemAt
    simp
theorem autoV_bd (b : Bool) (free : Int) (autos u : Nat) : -1048577 ≤ autoV b (extraL free autos) u ∧ autoV b (extraL free autos) u ≤ 1048577 := by
  have := extra_bd free autos u
  unfold autoV
  split <;> omega
theorem at_bd {c : Along} (hf : ∀ x ∈ c.l, x.Fits) (hs : ∀ s ∈ c.sizes, 0 ≤ s ∧ s ≤ 1048576) (hg : 0 ≤ c.gap ∧ c.gap ≤ 1048576) (f0 : -1048576 ≤ c.free ∧ c.free ≤ 1048576) : ∀ k : Nat, -1048577 - 20000000 * (k : Int) ≤ c.at_ k ∧ c.at_ k ≤ 1048577 + 20000000 * (k : Int)
  | 0 => by
    have := leadOf_bd c.free c.l.length c.justify f0.1 f0.2
    unfold Along.at_ Along.start
    split <;> omega
  | k + 1 => by
    have ih := at_bd hf hs hg f0 k
    have h1 : -2097152 ≤ (c.item k).before ∧ (c.item k).before ≤ 2097152 ∧ -2097152 ≤ (c.item k).behind ∧ (c.item k).behind ≤ 2097152 := by
      unfold Along.item
      cases h : c.l[k]? with
      | none => simp only [Option.getD_none]; decide
      | some x =>
        obtain ⟨-, -, -, h4, h5, -⟩ := hf x (List.mem_of_getElem? h)
        simp only [Option.getD_some]
        omega
    have h2 : 0 ≤ c.size k ∧ c.size k ≤ 1048576 := by
      unfold Along.size
      cases h : c.sizes[k]? with
      | none => simp
      | some s => exact hs s (List.mem_of_getElem? h)
    have h3 := autoV_bd (c.item k).autoBefore c.free c.autos (c.used k)
    have h4 := autoV_bd (c.item k).autoBehind c.free c.autos (c.used k + (c.item k).autoBefore.toNat)
    have h5 := betweenOf_bd c.free c.l.length c.justify k
    have h6 : -2097154 ≤ c.gapAt k ∧ c.gapAt k ≤ 3145730 := by
      unfold Along.gapAt Along.space
      split
      · split <;> omega
      · omega
    unfold Along.at_ Along.ahead Along.behind Along.extra
    push_cast
    omega
end Go.Proofs.Ytdohglcjjlmhhaa
namespace Go.Proofs.Ytdohglcjjlmhhaa
open Go.RowKit

def weightOf (grows : Bool) (x : Item) : Int := if grows then x.grow else x.shrink * x.base
def upperOf (x : Item) : Int := max x.most x.least
/-- Items, each with the size that it is held at, if it is. -/
abbrev Held := List (Item × Option Int)
def heldSizes (h : Held) : List Int := h.map fun p => p.2.getD p.1.base
/-- The weights of those that are not held. -/
def freeW (grows : Bool) (h : Held) : List Int := (h.filter fun p => p.2.isNone).map fun p => weightOf grows p.1
def freeN (h : Held) : Nat := (h.filter fun p => p.2.isNone).length
/-- By how much an item would break its limits, times the weights' sum: above 0: too small; below 0: too great. -/
def overOf (all rest w : Int) (x : Item) : Int :=
  if x.base * all + rest * w < x.least * all then x.least * all - (x.base * all + rest * w)
  else if 0 ≤ x.most ∧ upperOf x * all < x.base * all + rest * w then upperOf x * all - (x.base * all + rest * w) else 0
def overs (grows : Bool) (all rest : Int) (h : Held) : List Int := (h.filter fun p => p.2.isNone).map fun p => overOf all rest (weightOf grows p.1) p.1
/-- All that are free get their share; pre: the weights ahead. -/
def shareOut (grows : Bool) (all rest : Int) : Int → Held → Held
  | _, [] => []
  | pre, (x, some s) :: t => (x, some s) :: shareOut grows all rest pre t
  | pre, (x, none) :: t => (x, some (max 0 (min (x.base + (fdiv (rest * (pre + weightOf grows x)) all - fdiv (rest * pre) all)) 1048576))) :: shareOut grows all rest (pre + weightOf grows x) t
/-- Those that break their limits on the side that weighs more are held there. -/
def holdOne (grows : Bool) (all rest sum : Int) (p : Item × Option Int) : Item × Option Int :=
  match p.2 with
  | some s => (p.1, some s)
  | none => if 0 < overOf all rest (weightOf grows p.1) p.1 ∧ 0 ≤ sum then (p.1, some p.1.least)
      else if overOf all rest (weightOf grows p.1) p.1 < 0 ∧ sum ≤ 0 then (p.1, some (upperOf p.1)) else (p.1, none)
def flexPass (grows : Bool) (all rest : Int) (h : Held) : Held :=
  if (overs grows all rest h).all (fun o => decide (o = 0)) then shareOut grows all rest 0 h
  else h.map (holdOne grows all rest (overs grows all rest h).sum)
theorem freeN_share {grows : Bool} {all rest : Int} : ∀ (h : Held) (pre : Int), freeN (shareOut grows all rest pre h) = 0
  | [], _ => rfl
  | (x, some s) :: t, pre => by simpa [shareOut, freeN] using freeN_share t pre
  | (x, none) :: t, pre => by simpa [shareOut, freeN] using freeN_share t (pre + weightOf grows x)
theorem share_len {grows : Bool} {all rest : Int} : ∀ (h : Held) (pre : Int), (shareOut grows all rest pre h).map (·.1) = h.map (·.1)
  | [], _ => rfl
  | (x, some s) :: t, pre => by simp [shareOut, share_len t pre]
  | (x, none) :: t, pre => by simp [shareOut, share_len t]
theorem hold_fst {grows : Bool} {all rest sum : Int} (p : Item × Option Int) : (holdOne grows all rest sum p).1 = p.1 := by
  unfold holdOne
  split
  · rfl
  · split
    · rfl
    · split <;> rfl
theorem pass_items {grows : Bool} {all rest : Int} (h : Held) : (flexPass grows all rest h).map (·.1) = h.map (·.1) := by
  unfold flexPass
  split
  · exact share_len h 0
  · rw [List.map_map]
    exact List.map_congr_left fun p _ => hold_fst p
theorem hold_free {grows : Bool} {all rest sum : Int} {p : Item × Option Int} (h : (holdOne grows all rest sum p).2 = none) : p.2 = none := by
  unfold holdOne at h
  split at h
  · simp at h
  · assumption
theorem freeN_hold_le {grows : Bool} {all rest sum : Int} : ∀ h : Held, freeN (h.map (holdOne grows all rest sum)) ≤ freeN h
  | [] => Nat.le_refl _
  | p :: t => by
    have ih := freeN_hold_le (grows := grows) (all := all) (rest := rest) (sum := sum) t
    unfold freeN at *
    rw [List.map_cons, List.filter_cons, List.filter_cons]
    cases hh : (holdOne grows all rest sum p).2 with
    | none => simp [hold_free hh]; exact ih
    | some s =>
      simp
      split
      · simp; omega
      · exact ih
theorem freeN_hold_lt {grows : Bool} {all rest sum : Int} : ∀ h : Held, (∃ p ∈ h, p.2 = none ∧ (holdOne grows all rest sum p).2 ≠ none) → freeN (h.map (holdOne grows all rest sum)) < freeN h
  | [], hx => by obtain ⟨p, hp, _⟩ := hx; simp at hp
  | p :: t, hx => by
    have le := freeN_hold_le (grows := grows) (all := all) (rest := rest) (sum := sum) t
    have ih := freeN_hold_lt (grows := grows) (all := all) (rest := rest) (sum := sum) t
    unfold freeN at *
    rw [List.map_cons, List.filter_cons, List.filter_cons]
    cases hh : (holdOne grows all rest sum p).2 with
    | none =>
      simp [hold_free hh]
      refine ih ?_
      obtain ⟨q, hq, h1, h2⟩ := hx
      rcases List.mem_cons.1 hq with rfl | hq
      · exact (h2 hh).elim
      · exact ⟨q, hq, h1, h2⟩
    | some s =>
      cases hp : p.2 with
      | none => simp; omega
      | some u =>
        simp
        refine ih ?_
        obtain ⟨q, hq, h1, h2⟩ := hx
        rcases List.mem_cons.1 hq with rfl | hq
        · rw [hp] at h1; cases h1
        · exact ⟨q, hq, h1, h2⟩
theorem sum_pos {l : List Int} (h : 0 < l.sum) : ∃ o ∈ l, 0 < o := by
  induction l with
  | nil => simp at h
  | cons x l ih =>
    by_cases hx : 0 < x
    · exact ⟨x, List.mem_cons_self, hx⟩
    · obtain ⟨o, ho, h2⟩ := ih (by rw [List.sum_cons] at h; omega)
      exact ⟨o, List.mem_cons_of_mem _ ho, h2⟩
theorem sum_neg {l : List Int} (h : l.sum < 0) : ∃ o ∈ l, o < 0 := by
  induction l with
  | nil => simp at h
  | cons x l ih =>
    by_cases hx : x < 0
    · exact ⟨x, List.mem_cons_self, hx⟩
    · obtain ⟨o, ho, h2⟩ := ih (by rw [List.sum_cons] at h; omega)
      exact ⟨o, List.mem_cons_of_mem _ ho, h2⟩
/-- A pass holds an item at least. -/
theorem pass_less {grows : Bool} {all rest : Int} {h : Held} (hf : freeN h ≠ 0) : freeN (flexPass grows all rest h) < freeN h := by
  unfold flexPass
  split
  · rw [freeN_share]; omega
  · rename_i hz
    refine freeN_hold_lt h ?_
    have hm : ∀ o ∈ overs grows all rest h, ∃ p ∈ h, p.2 = none ∧ overOf all rest (weightOf grows p.1) p.1 = o := fun o ho => by
      obtain ⟨p, hp, rfl⟩ := List.mem_map.1 ho
      obtain ⟨q1, q2⟩ := List.mem_filter.1 hp
      exact ⟨p, q1, by simpa using q2, rfl⟩
    have hz2 : ∃ o ∈ overs grows all rest h, o ≠ 0 := by
      refine Classical.byContradiction fun hc => hz (List.all_eq_true.2 fun o ho => decide_eq_true (Classical.byContradiction fun h0 => hc ⟨o, ho, h0⟩))
    rcases Int.lt_trichotomy (overs grows all rest h).sum 0 with hs | hs | hs
    · obtain ⟨o, ho, h0⟩ := sum_neg hs
      obtain ⟨p, hp, h1, h2⟩ := hm o ho
      refine ⟨p, hp, h1, ?_⟩
      unfold holdOne
      rw [h1]
      simp only
      rw [if_neg (by omega), if_pos (by omega)]
      simp
    · obtain ⟨o, ho, h0⟩ := hz2
      obtain ⟨p, hp, h1, h2⟩ := hm o ho
      refine ⟨p, hp, h1, ?_⟩
      unfold holdOne
      rw [h1]
      simp only
      by_cases h3 : 0 < o
      · rw [if_pos (by omega)]; simp
      · rw [if_neg (by omega), if_pos (by omega)]; simp
    · obtain ⟨o, ho, h0⟩ := sum_pos hs
      obtain ⟨p, hp, h1, h2⟩ := hm o ho
      refine ⟨p, hp, h1, ?_⟩
      unfold holdOne
      rw [h1]
      simp only
      rw [if_pos (by omega)]
      simp
end Go.Proofs.Ytdohglcjjlmhhaa
namespace Go.Proofs.Ytdohglcjjlmhhaa
open Go.RowKit

def allOf (grows : Bool) (h : Held) : Int := (freeW grows h).sum
/-- The room that is to be parted. -/
def restOf (grows : Bool) (gap inner : Int) (h : Held) : Int :=
  signedL (if (grows && decide (inner - outerOf (h.map (·.1)) (heldSizes h) gap < 0) || !grows && decide (0 < inner - outerOf (h.map (·.1)) (heldSizes h) gap)) = true then 0 else inner - outerOf (h.map (·.1)) (heldSizes h) gap)
def passOf (grows : Bool) (gap inner : Int) (h : Held) : Held := flexPass grows (allOf grows h) (restOf grows gap inner h) h
def flexRun (grows : Bool) (gap inner : Int) : Nat → Held → Held × Nat
  | 0, h => (h, 0)
  | n + 1, h => if freeN h = 0 then (h, 0) else ((flexRun grows gap inner n (passOf grows gap inner h)).1, (flexRun grows gap inner n (passOf grows gap inner h)).2 + 1)
variable {grows : Bool} {gap inner : Int}
theorem passOf_less {h : Held} (hf : freeN h ≠ 0) : freeN (passOf grows gap inner h) < freeN h := pass_less hf
theorem flexRun_done : ∀ (n : Nat) (h : Held), freeN h ≤ n → freeN (flexRun grows gap inner n h).1 = 0
  | 0, h, hn => by show freeN h = 0; omega
  | n + 1, h, hn => by
    unfold flexRun
    split
    · assumption
    · rename_i h0
      exact flexRun_done n _ (by have := passOf_less (grows := grows) (gap := gap) (inner := inner) h0; omega)
theorem flexRun_le : ∀ (n : Nat) (h : Held), (flexRun grows gap inner n h).2 ≤ freeN h
  | 0, h => Nat.zero_le _
  | n + 1, h => by
    unfold flexRun
    split
    · exact Nat.zero_le _
    · rename_i h0
      have h1 := passOf_less (grows := grows) (gap := gap) (inner := inner) h0
      have := flexRun_le n (passOf grows gap inner h)
      simp only
      omega
theorem flexRun_more : ∀ (n m : Nat) (h : Held), freeN h ≤ n → freeN h ≤ m → flexRun grows gap inner n h = flexRun grows gap inner m h
  | 0, 0, h, _, _ => rfl
  | 0, m + 1, h, hn, _ => by
    unfold flexRun
    rw [if_pos (by omega)]
  | n + 1, 0, h, _, hm => by
    conv => rhs; unfold flexRun
    unfold flexRun
    rw [if_pos (by omega)]
  | n + 1, m + 1, h, hn, hm => by
    unfold flexRun
    split
    · rfl
    · rename_i h0
      have h1 := passOf_less (grows := grows) (gap := gap) (inner := inner) h0
      rw [flexRun_more n m _ (by omega) (by omega)]
/-- One round of the loop. -/
theorem flexRun_step {h : Held} (h0 : freeN h ≠ 0) : flexRun grows gap inner (freeN h) h = ((flexRun grows gap inner (freeN (passOf grows gap inner h)) (passOf grows gap inner h)).1, (flexRun grows gap inner (freeN (passOf grows gap inner h)) (passOf grows gap inner h)).2 + 1) := by
  have h1 := passOf_less (grows := grows) (gap := gap) (inner := inner) h0
  obtain ⟨n, hn⟩ : ∃ n, freeN h = n + 1 := ⟨freeN h - 1, by omega⟩
  rw [hn]
  conv => lhs; unfold flexRun
  rw [if_neg h0, flexRun_more n (freeN (passOf grows gap inner h)) _ (by omega) (Nat.le_refl _)]
theorem flexRun_stop {h : Held} (h0 : freeN h = 0) : flexRun grows gap inner (freeN h) h = (h, 0) := by
  rw [h0]; rfl
theorem flexRun_items : ∀ (n : Nat) (h : Held), (flexRun grows gap inner n h).1.map (·.1) = h.map (·.1)
  | 0, h => rfl
  | n + 1, h => by
    unfold flexRun
    split
    · rfl
    · simp only
      rw [flexRun_items n]
      exact pass_items h
/-- Those that are free have a weight. -/
def Heavy (grows : Bool) (h : Held) : Prop := ∀ p ∈ h, p.2 = none → 0 < weightOf grows p.1
def LeastOk (h : Held) : Prop := ∀ p ∈ h, 0 ≤ p.1.least ∧ p.1.least ≤ 1048576
theorem share_none {all rest : Int} : ∀ (h : Held) (pre : Int), ∀ p ∈ shareOut grows all rest pre h, p.2 ≠ none
  | [], _, p, hp => by simp [shareOut] at hp
  | (x, some s) :: t, pre, p, hp => by
    rw [shareOut] at hp
    rcases List.mem_cons.1 hp with rfl | hp
    · simp
    · exact share_none t pre p hp
  | (x, none) :: t, pre, p, hp => by
    rw [shareOut] at hp
    rcases List.mem_cons.1 hp with rfl | hp
    · simp
    · exact share_none t _ p hp
theorem Heavy.pass {h : Held} {all rest : Int} (hh : Heavy grows h) : Heavy grows (flexPass grows all rest h) := fun p hp hn => by
  unfold flexPass at hp
  split at hp
  · exact (share_none h 0 p hp hn).elim
  · obtain ⟨q, hq, rfl⟩ := List.mem_map.1 hp
    rw [hold_fst]
    exact hh q hq (hold_free hn)
theorem LeastOk.of {h h' : Held} (hl : LeastOk h) (e : h'.map (·.1) = h.map (·.1)) : LeastOk h' := fun p hp => by
  have : p.1 ∈ h.map (·.1) := e ▸ List.mem_map.2 ⟨p, hp, rfl⟩
  obtain ⟨q, hq, e2⟩ := List.mem_map.1 this
  rw [← e2]
  exact hl q hq
/-- How a line begins. -/
def holdFirst (grows : Bool) (x : Item) : Bool := decide (weightOf grows x = 0) || (grows && decide (hyp x < x.base) || !grows && decide (x.base < hyp x))
def startOf (grows : Bool) (list : List Item) : Held := list.map fun x => (x, if holdFirst grows x = true then some (hyp x) else none)
theorem start_items (list : List Item) : (startOf grows list).map (·.1) = list := by
  unfold startOf
  rw [List.map_map]
  exact List.map_id' list
def growsOf (list : List Item) (gap inner : Int) : Bool := decide (outerOf list (list.map hyp) gap < inner)
end Go.Proofs.Ytdohglcjjlmhhaa
