/-
  PROVED: a result held in a cell (a function that gives a struct): the exit of such a call. No program in sight.
-/
import Derived.Test.YthffgbhphjkdeaaDoorSxe
import Derived.Test.YthffgbhphjkdeaaDoorSxa
import Derived.Deep.MidRow
namespace Go.Proofs.YthffgbhphjkdeaaDoor
open Go.RowKit
theorem SQ.bodyCell {P : Program} {n : Nat} {W : World} {R : Rg W} {L : List Blk} {O : List Own} {E : List Res} {f : List (Nat × Value)} {fn : Func} {R' : Ending → World → Prop} {t : Tmp} {T T' : TypeId} {m g : Nat} {cells : List Value} [tr : TRow P T m] (i : Nat) (hr : fn.results = #[.cell t T]) (ht : look f t = some (.pointer (some ⟨g, 0, none⟩))) (hi : L[i]? = some ⟨g, cells, T'⟩) (hm : cells.length = m) (h : ∀ w, Loc W R L O E w → R' (.returned (.agg cells.toArray)) w) : SQ n W R L O E f .ret (bodyPost P fn R') :=
  ⟨fun a w hf hl => ⟨hf.defers, .agg cells.toArray, by
    obtain ⟨⟨d, h1, h2⟩, h3⟩ := tr.h
    have hb := (hl.blk _ (List.mem_iff_getElem?.2 ⟨i, hi⟩)).2
    obtain ⟨q1, q2⟩ := rowOf_range (w := w) (b := g) (o := 0) (n := m) (by simp [hasRow, hb, hm])
    have e2 : rowOf w g 0 m = cells.toArray := by
      unfold rowOf; rw [hb]; simp [← hm]
    rw [e2] at q1
    have e := run_loadVar_mid (P := P) w g 0 T _ d q1 h1 h2 (by rw [h3]; simp [hm])
    have hx : a.tmps[t]? = some (.pointer (some ⟨g, 0, none⟩)) := hf.at_ t _ ht
    simp [results, hr, hx, asAddr, e], h w hl⟩⟩
/-- A field of one cell, of a struct that is no variable. -/
class TFv (P : Program) (T j : Nat) (off : outParam Nat) : Prop where
  h : ∃ fs f d, P.underlying T = some (.struct fs) ∧ fs[j]? = some f ∧ f.offset = off ∧ P.underlying f.type = some d ∧ d.isRow = false
theorem OpW.field {P : Program} {n : Nat} {W : World} {R : Rg W} {L : List Blk} {O : List Own} {E : List Res} {f : List (Nat × Value)} {d : Option Tmp} {T j : Nat} {x : Operand} {ty : TypeId} {pos : String} {af : Array Edge} {gd : Option (Nat × Bool)} {off : Nat} {cs : Array Value} {v : Value} [t : TFv P T j off] (hx : evO f x = some (.agg cs)) (hv : cs[off]? = some v) : OpW P n W R L O E f ⟨d, .field T x j, ty, pos, af, gd⟩ v :=
  OpW.of (fun a w hf _ => by
    obtain ⟨fs, fl, d, h1, h2, h3, h4, h5⟩ := t.h
    have h6 : (isAgg fl.type).run P w = .ok false w := by
      cases d <;> simp_all [isAgg, run_underlying h4, TypeDesc.isRow]
    subst h3
    simp [execOp, hf.eval hx, Instr.field, run_underlying h1, h2, part, asAgg, h6, hv])

section
variable {P : Program} {n : Nat} {W : World} {R : Rg W} {L : List Blk} {O : List Own} {E : List Res} {f : List (Nat × Value)} {Q : Exit → Act → World → Prop} {ops : Array Oper} {rest : List Oper} {k : Nat}
variable {d : Option Nat} {c x y : Operand} {ty T T' : TypeId} {j fn : Nat} {as : Array Operand} {aT : Array TypeId} {parts : Array (Nat × Operand)} {pos : String} {af : Array Edge} {gd : Option (Nat × Bool)}
/-! Which operation stands next. -/
theorem l_field (h : SXl P n W R ops L O E f (⟨d, .field T x j, ty, pos, af, gd⟩ :: rest) Q) : SXl P n W R ops L O E f (⟨d, .field T x j, ty, pos, af, gd⟩ :: rest) Q := h
theorem r_field (h : SXr P n W R ops L O E k f (⟨d, .field T x j, ty, pos, af, gd⟩ :: rest) Q) : SXr P n W R ops L O E k f (⟨d, .field T x j, ty, pos, af, gd⟩ :: rest) Q := h
end

section
variable {P : Program} {n : Nat} {W : World} {R : Rg W} {L : List Blk} {O : List Own} {E : List Res} {f : List (Nat × Value)} {Q : Exit → Act → World → Prop} {ops : Array Oper} {rest : List Oper}
variable {d : Option Nat} {dn : Nat} {x y : Operand} {ty T T' : TypeId} {pos : String} {af : Array Edge} {gd : Option (Nat × Bool)}
/-- A slice literal of structs. -/
theorem SXl.litRow {e m sz by_ : Nat} {z : Value} {parts : List (Nat × Operand)} {vals : List (Nat × Value)} {cells : List Value} [t : TSl P T e sz] [te : TEl P e sz by_ z] (hw : wantO ops f ⟨some dn, .buildSlice T m parts.toArray, ty, pos, af, gd⟩ = some true) (hd : Nat.blt dn n = true)
    (hp : evP f parts = some vals) (hm : m * sz ≤ 16777216) (hms : m * sz ≠ 0) (hc : Instr.fill (fun i => some (i * sz, sz)) ((Array.range (m * sz)).map (fun i => z.cells[i % z.cells.size]!)) vals = some cells.toArray)
    (h : ∀ g, SXl P n W R ops (⟨g, cells, e⟩ :: L) O E ((dn, .slice (some ⟨g, 0, none⟩) m m) :: f) rest Q) : SXl P n W R ops L O E f (⟨some dn, .buildSlice T m parts.toArray, ty, pos, af, gd⟩ :: rest) Q :=
  SXl.stepn (V := fun g => .slice (some ⟨g, 0, none⟩) m m) (O' := fun _ => O) hw rfl hd (fun a w hf hl => by
    obtain ⟨i0, q1, q2, q3, q4, q5, q6⟩ := te.h
    refine ⟨w.heap.size, w.alloc (.cells cells.toArray e), ?_, hl.alloc cells e⟩
    have e1 := evP_map hf parts vals hp
    have e2 : (parts.toArray.map fun p => (p.1, a.eval p.2)).toList = vals := by simpa using e1
    have hm2 : ¬ 2 ^ 24 < m * sz := by omega
    simp only [execOp, Instr.buildSlice, Sem.run_bind, run_underlying t.h.1, Result.andThen_ok, sizeOf, typeInfo, run_program, q1, Sem.run_pure, q3]
    simp [newRow, zeroValue, typeInfo, q1, q2, hms, hm2, e1, hc]
    done) h
end

end Go.Proofs.YthffgbhphjkdeaaDoor
