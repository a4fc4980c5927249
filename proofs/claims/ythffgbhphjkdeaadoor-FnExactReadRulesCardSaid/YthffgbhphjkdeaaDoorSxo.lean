/-
  PROVED: the rules of the walk by resources, operation by operation. No program in sight.
-/
import Derived.Test.YthffgbhphjkdeaaDoorSx
namespace Go.Proofs.YthffgbhphjkdeaaDoor
open Go.RowKit

/-- A struct's or an array's type, of n cells. -/
class TRow (P : Program) (T : TypeId) (n : outParam Nat) : Prop where
  h : (∃ d, P.underlying T = some d ∧ d.isRow = true) ∧ (P.info? T).map (·.size) = some n
/-- A type of one cell. -/
class TOne (P : Program) (T : TypeId) : Prop where
  h : (∃ d, P.underlying T = some d ∧ d.isRow = false) ∧ (P.info? T).map (·.size) = some 1
/-- Where a field lies. -/
class TFld (P : Program) (T j : Nat) (off : outParam Nat) : Prop where
  h : ∃ fs f k, P.underlying T = some (.struct fs) ∧ fs[j]? = some f ∧ f.offset = off ∧ (P.info? f.type).map (·.size) = some (k + 1)
/-- A slice's type. -/
class TSl (P : Program) (T : TypeId) (e sz : outParam Nat) : Prop where
  h : P.underlying T = some (.slice e) ∧ (P.info? e).map (·.size) = some sz
/-- A type's zero value. -/
class TZero (P : Program) (T : TypeId) (c : outParam (List Value)) : Prop where
  h : ∃ v, (P.info? T).map (·.zero) = some (some v) ∧ v.cells = c.toArray
class TBool (P : Program) (T : TypeId) : Prop where
  h : P.underlying T = some .bool
/-- A function with a body. -/
class TFun (P : Program) (f : FuncId) : Prop where
  h : ∃ fn, P.funcs[f]? = some fn ∧ (fn.name == "runtime.NumGoroutine") = false ∧ fn.body.isNone = false

section
variable {P : Program} {n : Nat} {W : World} {R : Rg W} {L : List Blk} {O : List Own} {E : List Res} {f : List (Nat × Value)} {Q : Exit → Act → World → Prop} {ops : Array Oper} {rest : List Oper}
variable {d : Option Nat} {dn : Nat} {x y : Operand} {ty T T' : TypeId} {pos : String} {af : Array Edge} {gd : Option (Nat × Bool)}

theorem OpW.move {v : Value} (hx : evO f x = some v) : OpW P n W R L O E f ⟨d, .move x, ty, pos, af, gd⟩ (v) :=
  OpW.of (fun a w hf _ => by show Result.ok (Next.value (a.eval x)) w = _; rw [hf.eval hx])
theorem OpW.assign {v : Value} (hx : evO f x = some v) : OpW P n W R L O E f ⟨d, .assign x, ty, pos, af, gd⟩ (v) :=
  OpW.of (fun a w hf _ => by show Result.ok (Next.value (a.eval x)) w = _; rw [hf.eval hx])
theorem OpW.pick {c : Operand} {b : Bool} {u v : Value} (hc : evO f c = some (.bool b)) (hx : evO f x = some u) (hy : evO f y = some v) : OpW P n W R L O E f ⟨d, .pick c x y, ty, pos, af, gd⟩ (bif b then u else v) :=
  OpW.of (fun a w hf _ => by simp only [execOp, hf.eval hc, hf.eval hx, hf.eval hy]; cases b <;> simp [asBool])

theorem OpW.bin {op : BinOp} {u v z : Value} (hx : evO f x = some u) (hy : evO f y = some v) (hg : eqGuard op T x y u v = pure ()) (hr : ∀ w, (binOp op T u v).run P w = .ok z w) : OpW P n W R L O E f ⟨d, .binOp op T x y T', ty, pos, af, gd⟩ (z) :=
  OpW.of (fun a w hf _ => by simp [execOp, hf.eval hx, hf.eval hy, hg, hr w])
variable {k : IntKind} {p q : Int}
theorem OpW.add (hx : evO f x = some (.int k p)) (hy : evO f y = some (.int k q)) : OpW P n W R L O E f ⟨d, .binOp .add T x y T', ty, pos, af, gd⟩ (.int k (k.wrap (p + q))) := OpW.bin hx hy rfl (fun w => by simp [go_sem])
theorem OpW.sub (hx : evO f x = some (.int k p)) (hy : evO f y = some (.int k q)) : OpW P n W R L O E f ⟨d, .binOp .sub T x y T', ty, pos, af, gd⟩ (.int k (k.wrap (p - q))) := OpW.bin hx hy rfl (fun w => by simp [go_sem])
theorem OpW.mul (hx : evO f x = some (.int k p)) (hy : evO f y = some (.int k q)) : OpW P n W R L O E f ⟨d, .binOp .mul T x y T', ty, pos, af, gd⟩ (.int k (k.wrap (p * q))) := OpW.bin hx hy rfl (fun w => by simp [go_sem])
theorem OpW.quo (hq : q ≠ 0) (hx : evO f x = some (.int k p)) (hy : evO f y = some (.int k q)) : OpW P n W R L O E f ⟨d, .binOp .quo T x y T', ty, pos, af, gd⟩ (.int k (k.wrap (p.tdiv q))) := OpW.bin hx hy rfl (fun w => by simp [go_sem, hq])
theorem OpW.rem (hq : q ≠ 0) (hx : evO f x = some (.int k p)) (hy : evO f y = some (.int k q)) : OpW P n W R L O E f ⟨d, .binOp .rem T x y T', ty, pos, af, gd⟩ (.int k (p.tmod q)) := OpW.bin hx hy rfl (fun w => by simp [go_sem, hq])
theorem OpW.lss (hx : evO f x = some (.int k p)) (hy : evO f y = some (.int k q)) : OpW P n W R L O E f ⟨d, .binOp .lss T x y T', ty, pos, af, gd⟩ (.bool (decide (p < q))) := OpW.bin hx hy rfl (fun w => by simp [go_sem])
theorem OpW.leq (hx : evO f x = some (.int k p)) (hy : evO f y = some (.int k q)) : OpW P n W R L O E f ⟨d, .binOp .leq T x y T', ty, pos, af, gd⟩ (.bool (decide (p ≤ q))) := OpW.bin hx hy rfl (fun w => by simp [go_sem])
theorem OpW.gtr (hx : evO f x = some (.int k p)) (hy : evO f y = some (.int k q)) : OpW P n W R L O E f ⟨d, .binOp .gtr T x y T', ty, pos, af, gd⟩ (.bool (decide (q < p))) := OpW.bin hx hy rfl (fun w => by simp [go_sem])
theorem OpW.geq (hx : evO f x = some (.int k p)) (hy : evO f y = some (.int k q)) : OpW P n W R L O E f ⟨d, .binOp .geq T x y T', ty, pos, af, gd⟩ (.bool (decide (q ≤ p))) := OpW.bin hx hy rfl (fun w => by simp [go_sem])
theorem OpW.eql (hx : evO f x = some (.int k p)) (hy : evO f y = some (.int k q)) : OpW P n W R L O E f ⟨d, .binOp .eql T x y T', ty, pos, af, gd⟩ (.bool (decide (p = q))) := OpW.bin hx hy (eqGuard_at_int ..) (fun w => by simp [go_sem]; rfl)
theorem OpW.neq (hx : evO f x = some (.int k p)) (hy : evO f y = some (.int k q)) : OpW P n W R L O E f ⟨d, .binOp .neq T x y T', ty, pos, af, gd⟩ (.bool (!decide (p = q))) := OpW.bin hx hy (eqGuard_at_int ..) (fun w => by simp [go_sem]; rfl)
theorem OpW.eqlb {p q : Bool} [t : TBool P T] (hx : evO f x = some (.bool p)) (hy : evO f y = some (.bool q)) : OpW P n W R L O E f ⟨d, .binOp .eql T x y T', ty, pos, af, gd⟩ (.bool (p == q)) := OpW.bin hx hy (eqGuard_at_bool ..) (fun w => by simp [go_sem, binOp, run_equal_bool w T _ _ t.h]; try rfl)
theorem OpW.neqb {p q : Bool} [t : TBool P T] (hx : evO f x = some (.bool p)) (hy : evO f y = some (.bool q)) : OpW P n W R L O E f ⟨d, .binOp .neq T x y T', ty, pos, af, gd⟩ (.bool (p != q)) := OpW.bin hx hy (eqGuard_at_bool ..) (fun w => by simp [go_sem, binOp, run_equal_bool w T _ _ t.h, bne])
theorem OpW.not {p : Bool} (hx : evO f x = some (.bool p)) : OpW P n W R L O E f ⟨d, .unOp .not T x, ty, pos, af, gd⟩ (.bool (!p)) :=
  OpW.of (fun a w hf _ => by simp only [execOp, hf.eval hx]; simp [go_sem, Op.unary])
theorem OpW.neg (hx : evO f x = some (.int k p)) : OpW P n W R L O E f ⟨d, .unOp .neg T x, ty, pos, af, gd⟩ (.int k (k.wrap (-p))) :=
  OpW.of (fun a w hf _ => by simp only [execOp, hf.eval hx]; simp [go_sem, Op.unary])

theorem OpW.lssT (hx : evO f x = some (.int k p)) (hy : evO f y = some (.int k q)) (hp : p < q) : OpW P n W R L O E f ⟨d, .binOp .lss T x y T', ty, pos, af, gd⟩ (.bool true) := by
  have := OpW.lss (P := P) (n := n) (W := W) (R := R) (L := L) (O := O) (E := E) (d := d) (T := T) (T' := T') (ty := ty) (pos := pos) (af := af) (gd := gd) hx hy
  simpa [hp] using this
theorem OpW.lssF (hx : evO f x = some (.int k p)) (hy : evO f y = some (.int k q)) (hp : ¬ (p < q)) : OpW P n W R L O E f ⟨d, .binOp .lss T x y T', ty, pos, af, gd⟩ (.bool false) := by
  have := OpW.lss (P := P) (n := n) (W := W) (R := R) (L := L) (O := O) (E := E) (d := d) (T := T) (T' := T') (ty := ty) (pos := pos) (af := af) (gd := gd) hx hy
  simpa [hp] using this
theorem OpW.leqT (hx : evO f x = some (.int k p)) (hy : evO f y = some (.int k q)) (hp : p ≤ q) : OpW P n W R L O E f ⟨d, .binOp .leq T x y T', ty, pos, af, gd⟩ (.bool true) := by
  have := OpW.leq (P := P) (n := n) (W := W) (R := R) (L := L) (O := O) (E := E) (d := d) (T := T) (T' := T') (ty := ty) (pos := pos) (af := af) (gd := gd) hx hy
  simpa [hp] using this
theorem OpW.leqF (hx : evO f x = some (.int k p)) (hy : evO f y = some (.int k q)) (hp : ¬ (p ≤ q)) : OpW P n W R L O E f ⟨d, .binOp .leq T x y T', ty, pos, af, gd⟩ (.bool false) := by
  have := OpW.leq (P := P) (n := n) (W := W) (R := R) (L := L) (O := O) (E := E) (d := d) (T := T) (T' := T') (ty := ty) (pos := pos) (af := af) (gd := gd) hx hy
  simpa [hp] using this
theorem OpW.gtrT (hx : evO f x = some (.int k p)) (hy : evO f y = some (.int k q)) (hp : q < p) : OpW P n W R L O E f ⟨d, .binOp .gtr T x y T', ty, pos, af, gd⟩ (.bool true) := by
  have := OpW.gtr (P := P) (n := n) (W := W) (R := R) (L := L) (O := O) (E := E) (d := d) (T := T) (T' := T') (ty := ty) (pos := pos) (af := af) (gd := gd) hx hy
  simpa [hp] using this
theorem OpW.gtrF (hx : evO f x = some (.int k p)) (hy : evO f y = some (.int k q)) (hp : ¬ (q < p)) : OpW P n W R L O E f ⟨d, .binOp .gtr T x y T', ty, pos, af, gd⟩ (.bool false) := by
  have := OpW.gtr (P := P) (n := n) (W := W) (R := R) (L := L) (O := O) (E := E) (d := d) (T := T) (T' := T') (ty := ty) (pos := pos) (af := af) (gd := gd) hx hy
  simpa [hp] using this
theorem OpW.geqT (hx : evO f x = some (.int k p)) (hy : evO f y = some (.int k q)) (hp : q ≤ p) : OpW P n W R L O E f ⟨d, .binOp .geq T x y T', ty, pos, af, gd⟩ (.bool true) := by
  have := OpW.geq (P := P) (n := n) (W := W) (R := R) (L := L) (O := O) (E := E) (d := d) (T := T) (T' := T') (ty := ty) (pos := pos) (af := af) (gd := gd) hx hy
  simpa [hp] using this
theorem OpW.geqF (hx : evO f x = some (.int k p)) (hy : evO f y = some (.int k q)) (hp : ¬ (q ≤ p)) : OpW P n W R L O E f ⟨d, .binOp .geq T x y T', ty, pos, af, gd⟩ (.bool false) := by
  have := OpW.geq (P := P) (n := n) (W := W) (R := R) (L := L) (O := O) (E := E) (d := d) (T := T) (T' := T') (ty := ty) (pos := pos) (af := af) (gd := gd) hx hy
  simpa [hp] using this
theorem OpW.eqlT (hx : evO f x = some (.int k p)) (hy : evO f y = some (.int k q)) (hp : p = q) : OpW P n W R L O E f ⟨d, .binOp .eql T x y T', ty, pos, af, gd⟩ (.bool true) := by
  have := OpW.eql (P := P) (n := n) (W := W) (R := R) (L := L) (O := O) (E := E) (d := d) (T := T) (T' := T') (ty := ty) (pos := pos) (af := af) (gd := gd) hx hy
  simpa [hp] using this
theorem OpW.eqlF (hx : evO f x = some (.int k p)) (hy : evO f y = some (.int k q)) (hp : ¬ (p = q)) : OpW P n W R L O E f ⟨d, .binOp .eql T x y T', ty, pos, af, gd⟩ (.bool false) := by
  have := OpW.eql (P := P) (n := n) (W := W) (R := R) (L := L) (O := O) (E := E) (d := d) (T := T) (T' := T') (ty := ty) (pos := pos) (af := af) (gd := gd) hx hy
  simpa [hp] using this
theorem OpW.neqT (hx : evO f x = some (.int k p)) (hy : evO f y = some (.int k q)) (hp : ¬ (p = q)) : OpW P n W R L O E f ⟨d, .binOp .neq T x y T', ty, pos, af, gd⟩ (.bool true) := by
  have := OpW.neq (P := P) (n := n) (W := W) (R := R) (L := L) (O := O) (E := E) (d := d) (T := T) (T' := T') (ty := ty) (pos := pos) (af := af) (gd := gd) hx hy
  simpa [hp] using this
theorem OpW.neqF (hx : evO f x = some (.int k p)) (hy : evO f y = some (.int k q)) (hp : p = q) : OpW P n W R L O E f ⟨d, .binOp .neq T x y T', ty, pos, af, gd⟩ (.bool false) := by
  have := OpW.neq (P := P) (n := n) (W := W) (R := R) (L := L) (O := O) (E := E) (d := d) (T := T) (T' := T') (ty := ty) (pos := pos) (af := af) (gd := gd) hx hy
  simpa [hp] using this
theorem wrap_in {a : Int} (h0 : -9223372036854775808 ≤ a) (h1 : a ≤ 9223372036854775807) : IntKind.i64.wrap a = a := by
  simp [IntKind.wrap, IntKind.bits, IntKind.signed]; omega
theorem OpW.addi {p q : Int} (hx : evO f x = some (.int .i64 p)) (hy : evO f y = some (.int .i64 q)) (h0 : -9223372036854775808 ≤ p + q) (h1 : p + q ≤ 9223372036854775807) : OpW P n W R L O E f ⟨d, .binOp .add T x y T', ty, pos, af, gd⟩ (.int .i64 (p + q)) := by
  have := OpW.add (P := P) (n := n) (W := W) (R := R) (L := L) (O := O) (E := E) (d := d) (T := T) (T' := T') (ty := ty) (pos := pos) (af := af) (gd := gd) hx hy
  rwa [wrap_in h0 h1] at this
theorem OpW.subi {p q : Int} (hx : evO f x = some (.int .i64 p)) (hy : evO f y = some (.int .i64 q)) (h0 : -9223372036854775808 ≤ p - q) (h1 : p - q ≤ 9223372036854775807) : OpW P n W R L O E f ⟨d, .binOp .sub T x y T', ty, pos, af, gd⟩ (.int .i64 (p - q)) := by
  have := OpW.sub (P := P) (n := n) (W := W) (R := R) (L := L) (O := O) (E := E) (d := d) (T := T) (T' := T') (ty := ty) (pos := pos) (af := af) (gd := gd) hx hy
  rwa [wrap_in h0 h1] at this
theorem OpW.muli {p q : Int} (hx : evO f x = some (.int .i64 p)) (hy : evO f y = some (.int .i64 q)) (h0 : -9223372036854775808 ≤ p * q) (h1 : p * q ≤ 9223372036854775807) : OpW P n W R L O E f ⟨d, .binOp .mul T x y T', ty, pos, af, gd⟩ (.int .i64 (p * q)) := by
  have := OpW.mul (P := P) (n := n) (W := W) (R := R) (L := L) (O := O) (E := E) (d := d) (T := T) (T' := T') (ty := ty) (pos := pos) (af := af) (gd := gd) hx hy
  rwa [wrap_in h0 h1] at this
theorem OpW.succ {i : Nat} (hx : evO f x = some (.int .i64 (i : Int))) (hy : evO f y = some (.int .i64 1)) (h1 : i + 1 ≤ 9223372036854775807) : OpW P n W R L O E f ⟨d, .binOp .add T x y T', ty, pos, af, gd⟩ (.int .i64 ((i + 1 : Nat) : Int)) := by
  have := OpW.addi (P := P) (n := n) (W := W) (R := R) (L := L) (O := O) (E := E) (d := d) (T := T) (T' := T') (ty := ty) (pos := pos) (af := af) (gd := gd) hx hy (by omega) (by omega)
  exact this
/-! ### Memory -/
variable {g o j : Nat} {cells : List Value}
theorem run_field {b o j off : Nat} [t : TFld P T j off] (w : World) : (Instr.fieldAt T (.pointer (some ⟨b, o, none⟩)) j).run P w = .ok (.pointer (some ⟨b, o + off, none⟩)) w := by
  obtain ⟨fs, f, k, h1, h2, h3, h4⟩ := t.h
  obtain ⟨i, hi, hs⟩ := Option.map_eq_some_iff.1 h4
  simp [Instr.fieldAt, run_underlying h1, h2, Instr.sureAddr, fieldPlace, sizeOf, typeInfo, hi, hs, h3, go_sem]
theorem OpW.fieldAddr {off : Nat} [TFld P T j off] (hx : evO f x = some (.pointer (some ⟨g, o, none⟩))) : OpW P n W R L O E f ⟨d, .fieldAddr T x j, ty, pos, af, gd⟩ (.pointer (some ⟨g, o + off, none⟩)) :=
  OpW.of (fun a w hf _ => by simp [execOp, hf.eval hx, run_field])
theorem run_load1 [t : TOne P T] {w : World} {v : Value} (h : w.cell? ⟨g, o, none⟩ = some v) : (Instr.loadAt T (.pointer (some ⟨g, o, none⟩))).run P w = .ok v w := by
  obtain ⟨⟨d, h1, h2⟩, h3⟩ := t.h
  have : (isAgg T).run P w = .ok false w := by
    cases d <;> simp_all [isAgg, run_underlying h1, TypeDesc.isRow]
  simp [Instr.loadAt, Instr.sureAddr, loadVar, this, h]
theorem Loc.cell {i : Nat} {w : World} (h : Loc W R L O E w) (hi : L[i]? = some ⟨g, cells, T⟩) {v : Value} (hv : cells[o]? = some v) : w.cell? ⟨g, o, none⟩ = some v :=
  blk_cell (h.blk _ (List.mem_iff_getElem?.2 ⟨i, hi⟩)).2 hv
theorem Loc.old {w : World} (h : Loc W R L O E w) {p : Addr} {v : Value} (hv : W.cell? p = some v) (hr : ¬ R.p p.block) : w.cell? p = some v := by
  rw [h.mod.cell (World.block_lt_of_cell? W p hv) hr]; exact hv
/-- One cell, of a block of the call's own. -/
theorem OpW.load {v : Value} (i : Nat) [TOne P T] (hx : evO f x = some (.pointer (some ⟨g, o, none⟩))) (hi : L[i]? = some ⟨g, cells, T'⟩) (hv : cells[o]? = some v) : OpW P n W R L O E f ⟨d, .load T x, ty, pos, af, gd⟩ (v) :=
  OpW.of (fun a w hf hl => by simp [execOp, hf.eval hx, run_load1 (hl.cell hi hv)])
/-- One cell of old memory. -/
theorem OpW.loadOld {v : Value} {p : Nat} [TOne P T] (hx : evO f x = some (.pointer (some ⟨p, o, none⟩))) (hv : W.cell? ⟨p, o, none⟩ = some v) (hr : ¬ R.p p) : OpW P n W R L O E f ⟨d, .load T x, ty, pos, af, gd⟩ (v) :=
  OpW.of (fun a w hf hl => by simp [execOp, hf.eval hx, run_load1 (hl.old hv hr)])
/-- A whole struct, of a block of the call's own. -/
theorem OpW.loadRow {m : Nat} (i : Nat) [t : TRow P T m] (hx : evO f x = some (.pointer (some ⟨g, o, none⟩))) (hi : L[i]? = some ⟨g, cells, T'⟩) (hm : Nat.ble (o + m) cells.length = true) {r : List Value} (hr : (cells.drop o).take m = r) : OpW P n W R L O E f ⟨d, .load T x, ty, pos, af, gd⟩ (.agg r.toArray) :=
  OpW.of (fun a w hf hl => by
    obtain ⟨⟨d, h1, h2⟩, h3⟩ := t.h
    have hb := (hl.blk _ (List.mem_iff_getElem?.2 ⟨i, hi⟩)).2
    have hm' : o + m ≤ cells.length := by simpa using hm
    have e := run_load_row h1 h2 h3 (w := w) (b := g) (o := o) (by simp [hasRow, hb, hm'])
    have e2 : rowOf w g o m = r.toArray := by
      rw [← hr]; unfold rowOf; rw [hb]; simp [List.extract_toArray, List.extract_eq_take_drop]
    simp [execOp, hf.eval hx, e, e2])
theorem OpW.loadAll {m : Nat} (i : Nat) [t : TRow P T m] (hx : evO f x = some (.pointer (some ⟨g, 0, none⟩))) (hi : L[i]? = some ⟨g, cells, T'⟩) (hm : cells.length = m) : OpW P n W R L O E f ⟨d, .load T x, ty, pos, af, gd⟩ (.agg cells.toArray) :=
  OpW.loadRow i hx hi (by simp [hm]) (by rw [List.drop_zero, List.take_of_length_le (by omega)])
theorem OpW.loadRowOld {m p : Nat} [t : TRow P T m] {r : List Value} (hx : evO f x = some (.pointer (some ⟨p, o, none⟩))) (hc : ∀ j v, r[j]? = some v → W.cell? ⟨p, o + j, none⟩ = some v) (hm : r.length = m) (hp : 0 < m) (hr : ¬ R.p p) : OpW P n W R L O E f ⟨d, .load T x, ty, pos, af, gd⟩ (.agg r.toArray) :=
  OpW.of (fun a w hf hl => by
    obtain ⟨⟨d, h1, h2⟩, h3⟩ := t.h
    subst hm
    obtain ⟨e1, e2⟩ := rowOf_told (w := w) hp (fun j v hj => hl.old (hc j v hj) hr)
    have e := run_load_row h1 h2 h3 (w := w) (b := p) (o := o) e1
    rw [e2] at e
    simp [execOp, hf.eval hx, e])
theorem run_store1 [t : TOne P T] {w : World} {u v : Value} (h : w.cell? ⟨g, o, none⟩ = some u) (hz : w.frozen? ⟨g, o, none⟩ = false) (hv : v.oneCell' = true) : (Instr.storeAt T (.pointer (some ⟨g, o, none⟩)) v).run P w = .ok () (w.setCell ⟨g, o, none⟩ v) := by
  obtain ⟨_, h3⟩ := t.h
  obtain ⟨i, hi, hs⟩ := Option.map_eq_some_iff.1 h3
  have hc : v.cells = #[v] := by cases v <;> simp_all [Value.oneCell', Value.cells]
  have ea : (⟨g, o, none⟩ : Addr).add 0 = ⟨g, o, none⟩ := Addr.add_zero' _
  simp [Instr.storeAt, Instr.sureAddr, storeVar, sizeOf, typeInfo, hi, hs, hc, storeCells, run_store P w _ v _ hv, ea, h, hz]
theorem SXl.store {v : Value} {L' : List Blk} (i : Nat) [TOne P T] (hw : wantO ops f ⟨none, .store T x y, ty, pos, af, gd⟩ = some true) (hx : evO f x = some (.pointer (some ⟨g, o, none⟩))) (hy : evO f y = some v) (hi : L[i]? = some ⟨g, cells, T'⟩) (ho : Nat.blt o cells.length = true) (hv : v.oneCell' = true) (hL : L.set i ⟨g, cells.set o v, T'⟩ = L') (h : SXl P n W R ops L' O E f rest Q) : SXl P n W R ops L O E f (⟨none, .store T x y, ty, pos, af, gd⟩ :: rest) Q :=
  SXl.steps hw rfl (fun a w hf hl => by
    have ho' : o < cells.length := by simpa using ho
    have hb := (hl.blk _ (List.mem_iff_getElem?.2 ⟨i, hi⟩)).2
    refine ⟨w.setCell ⟨g, o, none⟩ v, ?_, hL ▸ hl.set hi v⟩
    simp [execOp, hf.eval hx, hf.eval hy, run_store1 (hl.cell hi (List.getElem?_eq_getElem ho')) (blk_free hb o) hv]) h
/-- A list written over another from a place on. -/
def over : List Value → Nat → List Value → List Value
  | c, _, [] => c
  | c, o, v :: r => over (c.set o v) (o + 1) r
theorem spl_over : ∀ (r c : List Value) (o : Nat), spl c.toArray o r = (over c o r).toArray
  | [], _, _ => rfl
  | v :: r, c, o => by
    simp only [spl, over]
    rw [← spl_over r (c.set o v) (o + 1)]
    simp
theorem mod_setCells (g : Nat) : ∀ (r : List Value) (o : Nat) (w : World), Mod (fun k => k = g) w (w.setCells g o r)
  | [], _, w => Mod.refl _ w
  | v :: r, o, w => ((Mod.refl _ w).setAt o none v).trans (mod_setCells g r (o + 1) _)
theorem SXl.storeRow {m : Nat} {r : List Value} {L' : List Blk} (i : Nat) [t : TRow P T m] (hw : wantO ops f ⟨none, .store T x y, ty, pos, af, gd⟩ = some true) (hx : evO f x = some (.pointer (some ⟨g, o, none⟩))) (hy : evO f y = some (.agg r.toArray)) (hi : L[i]? = some ⟨g, cells, T'⟩) (ho : Nat.ble (o + m) cells.length = true) (hm : r.length = m) (hv : r.all (·.oneCell') = true) (hL : L.set i ⟨g, over cells o r, T'⟩ = L') (h : SXl P n W R ops L' O E f rest Q) : SXl P n W R ops L O E f (⟨none, .store T x y, ty, pos, af, gd⟩ :: rest) Q :=
  SXl.steps hw rfl (fun a w hf hl => by
    obtain ⟨_, h3⟩ := t.h
    have ho' : o + m ≤ cells.length := by simpa using ho
    have hb := (hl.blk _ (List.mem_iff_getElem?.2 ⟨i, hi⟩)).2
    have e := run_store_row (P := P) (ty := T) h3 (w := w) (b := g) (o := o) (S := r.toArray) (by simp [hasRow, hb, ho']) (by simp [openRow, hb]) (by simpa using hm) (by simpa using hv)
    refine ⟨w.setCells g o r, by simp [execOp, hf.eval hx, hf.eval hy, e], hL ▸ hl.turned hi (mod_setCells g r o w) ?_⟩
    rw [setCells_heap g r o w _ _ _ hb, spl_over]) h
theorem over_all : ∀ (r c : List Value) (p : List Value), r.length = c.length → over (p ++ c) p.length r = p ++ r
  | [], c, p, h => by cases c <;> simp_all [over]
  | v :: r, [], p, h => by simp at h
  | v :: r, u :: c, p, h => by
    have h' : r.length = c.length := by simpa using h
    have e : (p ++ u :: c).set p.length v = (p ++ [v]) ++ c := by simp
    have := over_all r c (p ++ [v]) h'
    rw [over, e]
    rw [List.length_append, List.length_singleton] at this
    rw [this]
    simp
theorem SXl.storeAll {m : Nat} {r : List Value} {L' : List Blk} (i : Nat) [t : TRow P T m] (hw : wantO ops f ⟨none, .store T x y, ty, pos, af, gd⟩ = some true) (hx : evO f x = some (.pointer (some ⟨g, 0, none⟩))) (hy : evO f y = some (.agg r.toArray)) (hi : L[i]? = some ⟨g, cells, T'⟩) (hc : cells.length = m) (hm : r.length = m) (hv : r.all (·.oneCell') = true) (hL : L.set i ⟨g, r, T'⟩ = L') (h : SXl P n W R ops L' O E f rest Q) : SXl P n W R ops L O E f (⟨none, .store T x y, ty, pos, af, gd⟩ :: rest) Q :=
  SXl.storeRow i hw hx hy hi (by simp [hc]) hm hv (by have := over_all r cells [] (by omega); simp only [List.nil_append, List.length_nil] at this; rw [this]; exact hL) h
theorem SXl.alloc {c : List Value} [t : TZero P T c] (hw : wantO ops f ⟨some dn, .alloc T, ty, pos, af, gd⟩ = some true) (hd : Nat.blt dn n = true) (h : ∀ g, SXl P n W R ops (⟨g, c, T⟩ :: L) O E ((dn, .pointer (some ⟨g, 0, none⟩)) :: f) rest Q) : SXl P n W R ops L O E f (⟨some dn, .alloc T, ty, pos, af, gd⟩ :: rest) Q :=
  SXl.stepn (V := fun g => .pointer (some ⟨g, 0, none⟩)) (O' := fun _ => O) hw rfl hd (fun a w hf hl => by
    obtain ⟨v, h1, h2⟩ := t.h
    obtain ⟨i, hi, hz⟩ := Option.map_eq_some_iff.1 h1
    refine ⟨w.heap.size, w.alloc (.cells c.toArray T), ?_, hl.alloc c T⟩
    simp [execOp, Instr.alloc, zeroValue, typeInfo, hi, hz, newVar, newRow, h2]) h
theorem SXl.box {v : Value} {c : List Value} (hw : wantO ops f ⟨some dn, .box T x, ty, pos, af, gd⟩ = some true) (hd : Nat.blt dn n = true) (hx : evO f x = some v) (hv : v.cells = c.toArray) (h : ∀ g, SXl P n W R ops (⟨g, c, T⟩ :: L) O E ((dn, .pointer (some ⟨g, 0, none⟩)) :: f) rest Q) : SXl P n W R ops L O E f (⟨some dn, .box T x, ty, pos, af, gd⟩ :: rest) Q :=
  SXl.stepn (V := fun g => .pointer (some ⟨g, 0, none⟩)) (O' := fun _ => O) hw rfl hd (fun a w hf hl => by
    refine ⟨w.heap.size, w.alloc (.cells c.toArray T), ?_, hl.alloc c T⟩
    simp [execOp, hf.eval hx, Instr.box, newVar, newRow, hv]) h
theorem run_call {fn : FuncId} [t : TFun P fn] {w : World} (args : Array Value) : (callFunc fn args).run P w = .ok (.enter fn args) w := by
  obtain ⟨x, h1, h2, h3⟩ := t.h
  have h2' : ¬ x.name = "runtime.NumGoroutine" := by simpa using h2
  have h3' : ¬ x.body = none := by intro e; rw [e] at h3; cases h3
  simp [callFunc, h1, h2', h3']
/-- What operands hold. -/
def evL (f : List (Nat × Value)) : List Operand → Option (List Value)
  | [] => some []
  | x :: l => match evO f x, evL f l with
    | some v, some vs => some (v :: vs)
    | _, _ => none
theorem evL_map {a : Act} (hf : Fr n f a) : ∀ (l : List Operand) (vs : List Value), evL f l = some vs → l.map a.eval = vs
  | [], vs, h => by simpa [evL] using h
  | x :: l, vs, h => by
    unfold evL at h
    cases hx : evO f x with
    | none => simp [hx] at h
    | some v =>
      cases hl : evL f l with
      | none => simp [hx, hl] at h
      | some us =>
        simp only [hx, hl, Option.some.injEq] at h
        subst h
        rw [List.map_cons, hf.eval hx, evL_map hf l us hl]
theorem run_callop {fn : FuncId} {as : List Operand} {args : List Value} {aT : Array TypeId} [TFun P fn] {a : Act} (hf : Fr n f a) (ha : evL f as = some args) (w : World) (dd : Option Tmp) (g : Option (Nat × Bool)) :
    (execOp a.eval ⟨dd, .call ⟨.value (.func fn), as.toArray, aT⟩, ty, pos, af, g⟩).run P w = .ok (.enter fn args.toArray) w := by
  have e := evL_map hf as args ha
  have e2 : Act.eval a (.func fn) = .func (.func fn) #[] #[] := rfl
  simp [execOp, resolve, e2, Deferred.ofValue, invoke, e, run_call]
/-- A call whose value is known. -/
theorem OpW.call {v : Value} {fn : FuncId} {as : List Operand} {args : List Value} {aT : Array TypeId} [TFun P fn] (ha : evL f as = some args)
    (hc : ∀ w, Loc W R L O E w → Calls P fn args.toArray w fun e w' => e = .returned v ∧ Mod (fun _ => False) w w') : OpW P n W R L O E f ⟨d, .call ⟨.value (.func fn), as.toArray, aT⟩, ty, pos, af, gd⟩ v :=
  OpW.enter (fun _ w hf _ => run_callop hf ha w _ _) hc
/-- A call that leaves the world as it is. -/
theorem OpW.calls {v : Value} {fn : FuncId} {as : List Operand} {args : List Value} {aT : Array TypeId} [TFun P fn] (ha : evL f as = some args)
    (hc : ∀ w, Loc W R L O E w → Calls P fn args.toArray w fun e w' => e = .returned v ∧ w = w') : OpW P n W R L O E f ⟨d, .call ⟨.value (.func fn), as.toArray, aT⟩, ty, pos, af, gd⟩ v :=
  OpW.call ha (fun w hl => (hc w hl).mono fun _ _ ⟨h1, h2⟩ => ⟨h1, h2 ▸ Mod.refl _ _⟩)
/-- A call that hands back new memory. -/
theorem SXl.calln {ξ : Type} {v : ξ → Value} {F1 : ξ → Res} {fn : FuncId} {as : List Operand} {args : List Value} {aT : Array TypeId} [TFun P fn] (hw : wantO ops f ⟨some dn, .call ⟨.value (.func fn), as.toArray, aT⟩, ty, pos, af, gd⟩ = some true) (hd : Nat.blt dn n = true) (ha : evL f as = some args)
    (hc : ∀ w, Loc W R L O E w → Calls P fn args.toArray w (NewR ξ v F1 w))
    (h : ∀ x, SXl P n W R ops L O (F1 x :: E) ((dn, v x) :: f) rest Q) : SXl P n W R ops L O E f (⟨some dn, .call ⟨.value (.func fn), as.toArray, aT⟩, ty, pos, af, gd⟩ :: rest) Q :=
  SXl.callx hw rfl hd (fun _ w hf _ => run_callop hf ha w _ _) hc h
/-! ### Slices -/
theorem run_index {e sz : Nat} [t : TSl P T e sz] {b o len cap i : Nat} (hi : i < len) (w : World) : (Instr.indexAt T (.slice (some ⟨b, o, none⟩) len cap) (.int .i64 (i : Int))).run P w = .ok (.pointer (some ⟨b, o + i * sz, none⟩)) w := by
  obtain ⟨h1, h2⟩ := t.h
  obtain ⟨ti, hti, hs⟩ := Option.map_eq_some_iff.1 h2
  have : (0 : Int) ≤ i ∧ (i : Int) < len := by omega
  simp [Instr.indexAt, run_underlying h1, asIntOf, sizeOf, typeInfo, hti, hs, go_sem]
  intro; omega
theorem OpW.indexAddr {e sz b len cap i : Nat} [TSl P T e sz] (hi : i < len) (hx : evO f x = some (.slice (some ⟨b, o, none⟩) len cap)) (hy : evO f y = some (.int .i64 (i : Int))) : OpW P n W R L O E f ⟨d, .indexAddr T x y, ty, pos, af, gd⟩ (.pointer (some ⟨b, o + i * sz, none⟩)) :=
  OpW.of (fun a w hf _ => by simp [execOp, hf.eval hx, hf.eval hy, run_index hi])
theorem OpW.indexAddr1 {e b len cap i : Nat} [TSl P T e 1] (hi : i < len) (hx : evO f x = some (.slice (some ⟨b, o, none⟩) len cap)) (hy : evO f y = some (.int .i64 (i : Int))) : OpW P n W R L O E f ⟨d, .indexAddr T x y, ty, pos, af, gd⟩ (.pointer (some ⟨b, o + i, none⟩)) := by
  have := OpW.indexAddr (P := P) (n := n) (W := W) (R := R) (L := L) (O := O) (E := E) (d := d) (T := T) (ty := ty) (pos := pos) (af := af) (gd := gd) hi hx hy
  rwa [Nat.mul_one] at this
theorem OpW.len {e sz l c : Nat} {b : Option Addr} [t : TSl P T e sz] (hx : evO f x = some (.slice b l c)) : OpW P n W R L O E f ⟨d, .call ⟨.builtin .len, #[x], #[T]⟩, ty, pos, af, gd⟩ (.int .i64 (l : Int)) :=
  OpW.of (fun a w hf _ => by simp [execOp, resolve, invoke, builtin, hf.eval hx, Builtin.len_, run_underlying t.h.1, goInt])
theorem OpW.extract {vs : List Value} {j : Nat} {v : Value} (hx : evO f x = some (.tuple vs.toArray)) (hv : vs[j]? = some v) : OpW P n W R L O E f ⟨d, .extract x j, ty, pos, af, gd⟩ (v) :=
  OpW.of (fun a w hf _ => by simp [execOp, hf.eval hx, Instr.extract, hv])
/-! ### Old memory that the call turns -/
theorem OpW.loadJ {v : Value} {p : Nat} [TOne P T] (hx : evO f x = some (.pointer (some ⟨p, o, none⟩))) (hJ : ∀ w, R.J w → w.cell? ⟨p, o, none⟩ = some v) : OpW P n W R L O E f ⟨d, .load T x, ty, pos, af, gd⟩ v :=
  OpW.of (fun a w hf hl => by simp [execOp, hf.eval hx, run_load1 (hJ w hl.inv)])
theorem SXl.storeJ {v : Value} {p : Nat} [TOne P T] (hp : R.p p) (hq : ¬ R.q p) (hw : wantO ops f ⟨none, .store T x y, ty, pos, af, gd⟩ = some true) (hx : evO f x = some (.pointer (some ⟨p, o, none⟩))) (hy : evO f y = some v) (hv : v.oneCell' = true)
    (hJ : ∀ w, R.J w → (∃ u, w.cell? ⟨p, o, none⟩ = some u) ∧ w.frozen? ⟨p, o, none⟩ = false ∧ R.J (w.setCell ⟨p, o, none⟩ v)) (h : SXl P n W R ops L O [] f rest Q) : SXl P n W R ops L O [] f (⟨none, .store T x y, ty, pos, af, gd⟩ :: rest) Q :=
  SXl.steps hw rfl (fun a w hf hl => by
    obtain ⟨⟨u, hu⟩, hz, hj⟩ := hJ w hl.inv
    have hlow := R.low p hp
    refine ⟨w.setCell ⟨p, o, none⟩ v, by simp [execOp, hf.eval hx, hf.eval hy, run_store1 hu hz hv], ?_⟩
    have hm : Mod (fun k => k = p) w (w.setCell ⟨p, o, none⟩ v) := (Mod.refl _ w).setAt _ _ _
    exact {
      mod := hl.mod.then hm fun k _ e => e ▸ hp
      inv := hj
      blk := fun b hb => ⟨(hl.blk b hb).1, hm.blk (hl.blk b hb).2 fun e => by
        rcases (hl.blk b hb).1 with h1 | h1
        · exact hq (e ▸ h1)
        · omega⟩
      apart := hl.apart
      own := fun q hq' => ⟨ownsRow_keep (hl.own q hq').1 hm fun k hk e => by have := (ownBlock_lt (hl.own q hq').1 hk).1; omega, (hl.own q hq').2⟩
      ownApart := hl.ownApart
      res := fun F hF => by cases hF
      resNew := fun F hF => by cases hF
      resApart := .nil }) h
/-- A call that turns such memory. -/
theorem SXl.callJ {ξ : Type} {v : ξ → Value} {fn : FuncId} {as : List Operand} {args : List Value} {aT : Array TypeId} [TFun P fn] (hq : ∀ k, ¬ R.q k) (hw : wantO ops f ⟨some dn, .call ⟨.value (.func fn), as.toArray, aT⟩, ty, pos, af, gd⟩ = some true) (hd : Nat.blt dn n = true) (ha : evL f as = some args) (K : ξ → Prop)
    (hc : ∀ w, Loc W R L O [] w → Calls P fn args.toArray w fun e w' => ∃ x, e = .returned (v x) ∧ K x ∧ Mod R.p w w' ∧ R.J w')
    (h : ∀ x, K x → SXl P n W R ops L O [] ((dn, v x) :: f) rest Q) : SXl P n W R ops L O [] f (⟨some dn, .call ⟨.value (.func fn), as.toArray, aT⟩, ty, pos, af, gd⟩ :: rest) Q := ⟨fun a w hf hl => by
  unfold wpList
  rw [if_pos (wanted_of hf hw)]
  refine .inl ?_
  unfold Oper.wp
  rw [run_callop hf ha w _ _, Oper.upon_enter]
  refine (hc w hl).mono ?_
  rintro e w' ⟨x, rfl, hk, hm, hj⟩
  refine (h x hk).run _ _ (hf.put hd _) ?_
  exact {
    mod := hl.mod.then hm fun _ _ h => h
    inv := hj
    blk := fun b hb => ⟨(hl.blk b hb).1, hm.blk (hl.blk b hb).2 fun e => by
      have h1 := R.low _ e
      rcases (hl.blk b hb).1 with h2 | h2
      · exact hq _ h2
      · omega⟩
    apart := hl.apart
    own := fun q hq' => ⟨ownsRow_keep (hl.own q hq').1 hm fun k hk e => by have := (ownBlock_lt (hl.own q hq').1 hk).1; have := R.low _ e; omega, (hl.own q hq').2⟩
    ownApart := hl.ownApart
    res := fun F hF => by cases hF
    resNew := fun F hF => by cases hF
    resApart := .nil }⟩
theorem SXl.callJ1 {v : Value} {fn : FuncId} {as : List Operand} {args : List Value} {aT : Array TypeId} [TFun P fn] (hq : ∀ k, ¬ R.q k) (hw : wantO ops f ⟨some dn, .call ⟨.value (.func fn), as.toArray, aT⟩, ty, pos, af, gd⟩ = some true) (hd : Nat.blt dn n = true) (ha : evL f as = some args)
    (hc : ∀ w, Loc W R L O [] w → Calls P fn args.toArray w fun e w' => e = .returned v ∧ Mod R.p w w' ∧ R.J w')
    (h : SXl P n W R ops L O [] ((dn, v) :: f) rest Q) : SXl P n W R ops L O [] f (⟨some dn, .call ⟨.value (.func fn), as.toArray, aT⟩, ty, pos, af, gd⟩ :: rest) Q :=
  SXl.callJ (ξ := Unit) (v := fun _ => v) hq hw hd ha (fun _ => True) (fun w hl => (hc w hl).mono fun _ _ ⟨h1, h2, h3⟩ => ⟨(), h1, trivial, h2, h3⟩) fun _ _ => h
/-- A call that turns the memory that a fact speaks of. -/
theorem SXl.callM {ξ : Type} {v : ξ → Value} {F : Res} {F' : ξ → Res} {fn : FuncId} {as : List Operand} {args : List Value} {aT : Array TypeId} [TFun P fn] (i : Nat) (hw : wantO ops f ⟨some dn, .call ⟨.value (.func fn), as.toArray, aT⟩, ty, pos, af, gd⟩ = some true) (hd : Nat.blt dn n = true) (ha : evL f as = some args) (hi : E[i]? = some F) (hsub : ∀ x k, (F' x).foot k → F.foot k) (K : ξ → Prop)
    (hc : ∀ w, Loc W R L O E w → Calls P fn args.toArray w fun e w' => ∃ x, e = .returned (v x) ∧ K x ∧ (F' x).says w' ∧ Mod F.foot w w')
    (h : ∀ x, K x → SXl P n W R ops L O (E.set i (F' x)) ((dn, v x) :: f) rest Q) : SXl P n W R ops L O E f (⟨some dn, .call ⟨.value (.func fn), as.toArray, aT⟩, ty, pos, af, gd⟩ :: rest) Q :=
  SXl.callm i hw rfl hd (fun _ w hf _ => run_callop hf ha w _ _) hi hsub hc h
theorem SXl.callJ2 {ξ : Type} {v : ξ → Value} {fn : FuncId} {as : List Operand} {args : List Value} {aT : Array TypeId} [TFun P fn] (R2 : Rg W) (hp : ∀ k, R.p k → R2.p k) (hq : ∀ k, ¬ R.q k) (hw : wantO ops f ⟨some dn, .call ⟨.value (.func fn), as.toArray, aT⟩, ty, pos, af, gd⟩ = some true) (hd : Nat.blt dn n = true) (ha : evL f as = some args) (K : ξ → Prop)
    (hc : ∀ w, Loc W R L O [] w → Calls P fn args.toArray w fun e w' => ∃ x, e = .returned (v x) ∧ K x ∧ Mod R2.p w w' ∧ R2.J w')
    (h : ∀ x, K x → SXl P n W R2 ops L O [] ((dn, v x) :: f) rest Q) : SXl P n W R ops L O [] f (⟨some dn, .call ⟨.value (.func fn), as.toArray, aT⟩, ty, pos, af, gd⟩ :: rest) Q := ⟨fun a w hf hl => by
  unfold wpList
  rw [if_pos (wanted_of hf hw)]
  refine .inl ?_
  unfold Oper.wp
  rw [run_callop hf ha w _ _, Oper.upon_enter]
  refine (hc w hl).mono ?_
  rintro e w' ⟨x, rfl, hk, hm, hj⟩
  refine (h x hk).run _ _ (hf.put hd _) ?_
  exact {
    mod := (hl.mod.mono fun k _ h => hp k h).then hm fun _ _ h => h
    inv := hj
    blk := fun b hb => ⟨.inr ((hl.blk b hb).1.resolve_left (hq _)), hm.blk (hl.blk b hb).2 fun e => by
      have h1 := R2.low _ e
      have h2 := (hl.blk b hb).1.resolve_left (hq _)
      omega⟩
    apart := hl.apart
    own := fun q hq' => ⟨ownsRow_keep (hl.own q hq').1 hm fun k hk e => by have := (ownBlock_lt (hl.own q hq').1 hk).1; have := R2.low _ e; omega, (hl.own q hq').2⟩
    ownApart := hl.ownApart
    res := fun F hF => by cases hF
    resNew := fun F hF => by cases hF
    resApart := .nil }⟩
end
end Go.Proofs.YthffgbhphjkdeaaDoor
