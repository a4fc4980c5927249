/-
  PROVED: contracts of functions and words on memory, several texts put together: what each says stands at its theorems. Conditions: as told there.
-/
import Derived.Test.YthffgbhphjkdeaaDoorMAa
import Derived.Laws.StructEq
import Derived.Deep.MidRow
import Derived.Laws.Strings3
import Derived.Laws.Slices
import Derived.Laws.Tables
import Derived.Test.YthffgbhphjkdeaaDoorProg
namespace Go.Proofs.YthffgbhphjkdeaaDoor
open Go.RowKit

def sameV : Value → Value → Bool
  | .int _ a, .int _ b => decide (a = b)
  | .bool a, .bool b => a == b
  | .string a, .string b => a == b
  | _, _ => false
def sameVs : List Value → List Value → Bool
  | [], [] => true
  | x :: xs, y :: ys => sameV x y && sameVs xs ys
  | _, _ => false
def kindV : Value → Nat
  | .int .i64 _ => 0
  | .bool _ => 1
  | .string _ => 2
  | _ => 3
theorem sameVs_append : ∀ {a b c d : List Value}, a.length = b.length → sameVs (a ++ c) (b ++ d) = (sameVs a b && sameVs c d)
  | [], [], _, _, _ => by simp [sameVs]
  | x :: a, y :: b, c, d, h => by
    have h' : a.length = b.length := by simpa using h
    simp [sameVs, sameVs_append h', Bool.and_assoc]
  | [], _ :: _, _, _, h => by simp at h
  | _ :: _, [], _, _, h => by simp at h
def flatFs (P : Program) (rec : TypeId → Option (List Nat)) : List Field → Nat → Option (List Nat)
  | [], _ => some []
  | f :: fs, off => if f.name = "_" ∨ f.offset ≠ off then none else match rec f.type with
    | some ks => if P.cellsOf f.type = ks.length then (flatFs P rec fs (off + ks.length)).map (ks ++ ·) else none
    | none => none
def flatT (P : Program) : Nat → TypeId → Option (List Nat)
  | 0, _ => none
  | d + 1, T => match P.underlying T with
    | some (.int .i64) => some [0]
    | some .bool => some [1]
    | some .string => some [2]
    | some (.struct fs) => if P.stoodInHeld T then none else flatFs P (flatT P d) fs.toList 0
    | _ => none
/-- A value of a type with these cells. -/
def asV (P : Program) (T : TypeId) (xs : List Value) : Value := match P.underlying T with
  | some (.struct _) => .agg xs.toArray
  | _ => xs.headD undef
theorem kinds_take {ks : List Nat} {xs : List Value} {off : Nat} {k2 : List Nat} (h : (xs.drop off).map kindV = ks ++ k2) : ((xs.drop off).take ks.length).map kindV = ks ∧ (xs.drop (off + ks.length)).map kindV = k2 := by
  constructor
  · rw [List.map_take, h, List.take_left]
  · rw [← List.drop_drop, List.map_drop, h, List.drop_left]
section
variable {P : Program}
theorem run_part_flat {d : Nat} {T : TypeId} {ks : List Nat} (h : flatT P d T = some ks) (hc : P.cellsOf T = ks.length) {xs : List Value} {off : Nat} (hk : ((xs.drop off).take ks.length).map kindV = ks) (w : World) :
    (part T xs.toArray off).run P w = .ok (asV P T ((xs.drop off).take ks.length)) w := by
  cases d with
  | zero => simp [flatT] at h
  | succ d =>
    unfold flatT at h
    cases hu : P.underlying T with
    | none => simp [hu] at h
    | some t =>
      have one : ∀ k, ks = [k] → (t matches .struct _) = false → (isAgg T).run P w = .ok false w → (part T xs.toArray off).run P w = .ok (asV P T ((xs.drop off).take ks.length)) w := by
        intro k e hm ha
        subst e
        cases hx : xs[off]? with
        | none =>
          have : xs.drop off = [] := List.drop_eq_nil_of_le (by simpa using hx)
          rw [this] at hk
          simp at hk
        | some v =>
          have e1 : (xs.drop off).take [k].length = [v] := by
            have := List.getElem?_eq_some_iff.1 hx
            obtain ⟨hl, rfl⟩ := this
            rw [List.drop_eq_getElem_cons hl]
            rfl
          rw [e1]
          cases t <;> simp_all [part, asV]
      cases t
      case int k =>
        cases k <;> simp [hu] at h
        exact one 0 h.symm rfl (by simp [isAgg, run_underlying hu])
      case bool =>
        simp [hu] at h
        exact one 1 h.symm rfl (by simp [isAgg, run_underlying hu])
      case string =>
        simp [hu] at h
        exact one 2 h.symm rfl (by simp [isAgg, run_underlying hu])
      case struct fs =>
        obtain ⟨i, hi⟩ := info_of_underlying hu
        simp only [part, isAgg, Sem.run_bind, run_underlying hu, Result.andThen_ok, Sem.run_pure, run_sizeOf w hi, if_true, hc, asV, hu]
        congr 2
        simp [List.extract_toArray, List.extract_eq_take_drop]
      all_goals (simp [hu] at h; done)
theorem eq_flat : ∀ (d : Nat),
    (∀ (T : TypeId) (ks : List Nat), flatT P d T = some ks → ∀ (xs ys : List Value), xs.map kindV = ks → ys.map kindV = ks → ∀ w : World, (Op.equalIn d T (asV P T xs) (asV P T ys)).run P w = .ok (sameVs xs ys) w) := by
  intro d
  induction d with
  | zero => intro T ks h; simp [flatT] at h
  | succ d ih =>
    have fields : ∀ (fs : List Field) (off : Nat) (ks : List Nat), flatFs P (flatT P d) fs off = some ks → ∀ (xs ys : List Value), (xs.drop off).map kindV = ks → (ys.drop off).map kindV = ks → ∀ w : World, (Op.eqFields d xs.toArray ys.toArray fs).run P w = .ok (sameVs (xs.drop off) (ys.drop off)) w := by
      intro fs
      induction fs with
      | nil =>
        intro off ks h xs ys hx hy w
        simp only [flatFs, Option.some.injEq] at h
        subst h
        rw [List.map_eq_nil_iff.1 hx, List.map_eq_nil_iff.1 hy]
        simp [Op.eqFields, sameVs]
      | cons f fs ihf =>
        intro off ks h xs ys hx hy w
        unfold flatFs at h
        by_cases hn : f.name = "_" ∨ f.offset ≠ off
        · rw [if_pos hn] at h; cases h
        · rw [if_neg hn] at h
          have hn1 : f.name ≠ "_" := fun e => hn (.inl e)
          have hn2 : f.offset = off := Decidable.not_not.1 fun e => hn (.inr e)
          cases hf : flatT P d f.type with
          | none => simp [hf] at h
          | some k1 =>
            simp only [hf] at h
            by_cases hc : P.cellsOf f.type = k1.length
            · rw [if_pos hc] at h
              cases hr : flatFs P (flatT P d) fs (off + k1.length) with
              | none => simp [hr] at h
              | some k2 =>
                simp only [hr, Option.map_some, Option.some.injEq] at h
                subst h
                obtain ⟨x1, x2⟩ := kinds_take hx
                obtain ⟨y1, y2⟩ := kinds_take hy
                have ex : xs.drop off = (xs.drop off).take k1.length ++ xs.drop (off + k1.length) := by rw [← List.drop_drop, List.take_append_drop]
                have ey : ys.drop off = (ys.drop off).take k1.length ++ ys.drop (off + k1.length) := by rw [← List.drop_drop, List.take_append_drop]
                have hl : ((xs.drop off).take k1.length).length = ((ys.drop off).take k1.length).length := by
                  rw [← List.length_map (f := kindV), x1, ← @List.length_map _ _ ((ys.drop off).take k1.length) kindV, y1]
                rw [ex, ey, sameVs_append hl]
                simp only [Op.eqFields, hn1, ne_eq, not_false_eq_true, if_true, Sem.run_bind, hn2, run_part_flat hf hc x1 w, run_part_flat hf hc y1 w, Result.andThen_ok, ih f.type k1 hf _ _ x1 y1 w]
                cases sameVs ((xs.drop off).take k1.length) ((ys.drop off).take k1.length)
                · simp
                · simpa using ihf (off + k1.length) k2 hr xs ys x2 y2 w
            · rw [if_neg hc] at h; cases h
    intro T ks h xs ys hx hy w
    unfold flatT at h
    cases hu : P.underlying T with
    | none => simp [hu] at h
    | some t =>
      cases t
      case int k =>
        cases k <;> simp [hu] at h
        subst h
        match xs, ys, hx, hy with
        | [.int .i64 a], [.int .i64 b], _, _ => simp [asV, hu, Op.equalIn, run_underlying hu, sameVs, sameV]; rfl
      case bool =>
        simp [hu] at h
        subst h
        match xs, ys, hx, hy with
        | [.bool a], [.bool b], _, _ => simp [asV, hu, Op.equalIn, run_underlying hu, sameVs, sameV]
      case string =>
        simp [hu] at h
        subst h
        match xs, ys, hx, hy with
        | [.string a], [.string b], _, _ => simp [asV, hu, Op.equalIn, run_underlying hu, sameVs, sameV]
      case struct fs =>
        simp only [hu] at h
        by_cases hs : P.stoodInHeld T = true
        · rw [if_pos hs] at h; cases h
        · rw [if_neg hs] at h
          have hfs : P.fieldsOf T = fs := by simp [Program.fieldsOf, hu]
          simp only [asV, hu]
          rw [run_equalIn_struct w d T _ _ (by rw [hfs]; exact hu) (by simpa using hs), hfs]
          exact fields fs.toList 0 ks h xs ys (by simpa using hx) (by simpa using hy) w
      all_goals (simp [hu] at h; done)
end
/-- A flat struct's type, with its cells' kinds. -/
class TEq (P : Program) (T : TypeId) (ks : outParam (List Nat)) : Prop where
  h : flatT P 10000 T = some ks
  g : P.eqGuardType P.depth T = false
  s : ∃ fs, P.underlying T = some (.struct fs)
section
variable {P : Program} {n : Nat} {W : World} {R : Rg W} {L : List Blk} {O : List Own} {E : List Res} {f : List (Nat × Value)}
variable {d : Option Nat} {x y : Operand} {ty T T' : TypeId} {pos : String} {af : Array Edge} {gd : Option (Nat × Bool)}
theorem run_binS {ks : List Nat} [t : TEq P T ks] {xs ys : List Value} (hx : xs.map kindV = ks) (hy : ys.map kindV = ks) (w : World) : (Op.equalIn 10000 T (.agg xs.toArray) (.agg ys.toArray)).run P w = .ok (sameVs xs ys) w := by
  obtain ⟨fs, hs⟩ := t.s
  have e : ∀ l : List Value, asV P T l = .agg l.toArray := fun l => by unfold asV; rw [hs]
  have := eq_flat (P := P) 10000 T ks t.h xs ys hx hy w
  rw [e, e] at this
  exact this
theorem run_binop {op : BinOp} {u v : Value} {a : Act} (hf : Fr n f a) (hx : evO f x = some u) (hy : evO f y = some v) (w : World) : (execOp a.eval ⟨d, .binOp op T x y T', ty, pos, af, gd⟩).run P w = (((eqGuard op T x y u v).run P w).andThen fun _ w' => (binOp op T u v).run P w').andThen fun z w' => .ok (.value z) w' := by
  simp only [execOp, hf.eval hx, hf.eval hy, Sem.run_bind, Sem.run_pure]
theorem OpW.eqlS {ks : List Nat} [t : TEq P T ks] {xs ys : List Value} (hx : evO f x = some (.agg xs.toArray)) (hy : evO f y = some (.agg ys.toArray)) (kx : xs.map kindV = ks) (ky : ys.map kindV = ks) : OpW P n W R L O E f ⟨d, .binOp .eql T x y T', ty, pos, af, gd⟩ (.bool (sameVs xs ys)) :=
  OpW.of (fun a w hf _ => by rw [run_binop hf hx hy w, run_eqGuard_agg w _ T x y _ _ t.g, Result.andThen_ok, run_eql_struct, run_binS kx ky]; rfl)
theorem OpW.neqS {ks : List Nat} [t : TEq P T ks] {xs ys : List Value} (hx : evO f x = some (.agg xs.toArray)) (hy : evO f y = some (.agg ys.toArray)) (kx : xs.map kindV = ks) (ky : ys.map kindV = ks) : OpW P n W R L O E f ⟨d, .binOp .neq T x y T', ty, pos, af, gd⟩ (.bool (!sameVs xs ys)) :=
  OpW.of (fun a w hf _ => by rw [run_binop hf hx hy w, run_eqGuard_agg w _ T x y _ _ t.g, Result.andThen_ok, run_neq_struct, run_binS kx ky]; rfl)
end
section
variable {P : Program} {n : Nat} {W : World} {R : Rg W} {L : List Blk} {O : List Own} {E : List Res} {f : List (Nat × Value)} {Q : Exit → Act → World → Prop} {ops : Array Oper} {rest : List Oper} {k : Nat}
variable {d : Option Nat} {c x y : Operand} {ty T T' : TypeId} {j fn : Nat} {ars : Array Operand} {aT : Array TypeId} {parts : Array (Nat × Operand)} {pos : String} {af : Array Edge} {gd : Option (Nat × Bool)}
/-! Which operation stands next. -/
theorem l_load (h : SXl P n W R ops L O E f (⟨d, .load T x, ty, pos, af, gd⟩ :: rest) Q) : SXl P n W R ops L O E f (⟨d, .load T x, ty, pos, af, gd⟩ :: rest) Q := h
theorem r_load (h : SXr P n W R ops L O E k f (⟨d, .load T x, ty, pos, af, gd⟩ :: rest) Q) : SXr P n W R ops L O E k f (⟨d, .load T x, ty, pos, af, gd⟩ :: rest) Q := h
theorem l_store (h : SXl P n W R ops L O E f (⟨d, .store T x y, ty, pos, af, gd⟩ :: rest) Q) : SXl P n W R ops L O E f (⟨d, .store T x y, ty, pos, af, gd⟩ :: rest) Q := h
theorem l_fieldAddr (h : SXl P n W R ops L O E f (⟨d, .fieldAddr T x j, ty, pos, af, gd⟩ :: rest) Q) : SXl P n W R ops L O E f (⟨d, .fieldAddr T x j, ty, pos, af, gd⟩ :: rest) Q := h
theorem r_fieldAddr (h : SXr P n W R ops L O E k f (⟨d, .fieldAddr T x j, ty, pos, af, gd⟩ :: rest) Q) : SXr P n W R ops L O E k f (⟨d, .fieldAddr T x j, ty, pos, af, gd⟩ :: rest) Q := h
theorem l_move (h : SXl P n W R ops L O E f (⟨d, .move x, ty, pos, af, gd⟩ :: rest) Q) : SXl P n W R ops L O E f (⟨d, .move x, ty, pos, af, gd⟩ :: rest) Q := h
theorem r_move (h : SXr P n W R ops L O E k f (⟨d, .move x, ty, pos, af, gd⟩ :: rest) Q) : SXr P n W R ops L O E k f (⟨d, .move x, ty, pos, af, gd⟩ :: rest) Q := h
theorem l_assign (h : SXl P n W R ops L O E f (⟨d, .assign x, ty, pos, af, gd⟩ :: rest) Q) : SXl P n W R ops L O E f (⟨d, .assign x, ty, pos, af, gd⟩ :: rest) Q := h
theorem r_assign (h : SXr P n W R ops L O E k f (⟨d, .assign x, ty, pos, af, gd⟩ :: rest) Q) : SXr P n W R ops L O E k f (⟨d, .assign x, ty, pos, af, gd⟩ :: rest) Q := h
theorem l_pick (h : SXl P n W R ops L O E f (⟨d, .pick c x y, ty, pos, af, gd⟩ :: rest) Q) : SXl P n W R ops L O E f (⟨d, .pick c x y, ty, pos, af, gd⟩ :: rest) Q := h
theorem r_pick (h : SXr P n W R ops L O E k f (⟨d, .pick c x y, ty, pos, af, gd⟩ :: rest) Q) : SXr P n W R ops L O E k f (⟨d, .pick c x y, ty, pos, af, gd⟩ :: rest) Q := h
theorem l_extract (h : SXl P n W R ops L O E f (⟨d, .extract x j, ty, pos, af, gd⟩ :: rest) Q) : SXl P n W R ops L O E f (⟨d, .extract x j, ty, pos, af, gd⟩ :: rest) Q := h
theorem r_extract (h : SXr P n W R ops L O E k f (⟨d, .extract x j, ty, pos, af, gd⟩ :: rest) Q) : SXr P n W R ops L O E k f (⟨d, .extract x j, ty, pos, af, gd⟩ :: rest) Q := h
theorem l_indexAddr (h : SXl P n W R ops L O E f (⟨d, .indexAddr T x y, ty, pos, af, gd⟩ :: rest) Q) : SXl P n W R ops L O E f (⟨d, .indexAddr T x y, ty, pos, af, gd⟩ :: rest) Q := h
theorem r_indexAddr (h : SXr P n W R ops L O E k f (⟨d, .indexAddr T x y, ty, pos, af, gd⟩ :: rest) Q) : SXr P n W R ops L O E k f (⟨d, .indexAddr T x y, ty, pos, af, gd⟩ :: rest) Q := h
theorem l_alloc (h : SXl P n W R ops L O E f (⟨d, .alloc T, ty, pos, af, gd⟩ :: rest) Q) : SXl P n W R ops L O E f (⟨d, .alloc T, ty, pos, af, gd⟩ :: rest) Q := h
theorem l_box (h : SXl P n W R ops L O E f (⟨d, .box T x, ty, pos, af, gd⟩ :: rest) Q) : SXl P n W R ops L O E f (⟨d, .box T x, ty, pos, af, gd⟩ :: rest) Q := h
theorem l_buildSlice (h : SXl P n W R ops L O E f (⟨d, .buildSlice T j parts, ty, pos, af, gd⟩ :: rest) Q) : SXl P n W R ops L O E f (⟨d, .buildSlice T j parts, ty, pos, af, gd⟩ :: rest) Q := h
theorem l_call (h : SXl P n W R ops L O E f (⟨d, .call ⟨.value (.func fn), ars, aT⟩, ty, pos, af, gd⟩ :: rest) Q) : SXl P n W R ops L O E f (⟨d, .call ⟨.value (.func fn), ars, aT⟩, ty, pos, af, gd⟩ :: rest) Q := h
theorem r_call (h : SXr P n W R ops L O E k f (⟨d, .call ⟨.value (.func fn), ars, aT⟩, ty, pos, af, gd⟩ :: rest) Q) : SXr P n W R ops L O E k f (⟨d, .call ⟨.value (.func fn), ars, aT⟩, ty, pos, af, gd⟩ :: rest) Q := h
theorem l_len (h : SXl P n W R ops L O E f (⟨d, .call ⟨.builtin .len, ars, aT⟩, ty, pos, af, gd⟩ :: rest) Q) : SXl P n W R ops L O E f (⟨d, .call ⟨.builtin .len, ars, aT⟩, ty, pos, af, gd⟩ :: rest) Q := h
theorem r_len (h : SXr P n W R ops L O E k f (⟨d, .call ⟨.builtin .len, ars, aT⟩, ty, pos, af, gd⟩ :: rest) Q) : SXr P n W R ops L O E k f (⟨d, .call ⟨.builtin .len, ars, aT⟩, ty, pos, af, gd⟩ :: rest) Q := h
theorem l_not (h : SXl P n W R ops L O E f (⟨d, .unOp .not T x, ty, pos, af, gd⟩ :: rest) Q) : SXl P n W R ops L O E f (⟨d, .unOp .not T x, ty, pos, af, gd⟩ :: rest) Q := h
theorem r_not (h : SXr P n W R ops L O E k f (⟨d, .unOp .not T x, ty, pos, af, gd⟩ :: rest) Q) : SXr P n W R ops L O E k f (⟨d, .unOp .not T x, ty, pos, af, gd⟩ :: rest) Q := h
theorem l_add (h : SXl P n W R ops L O E f (⟨d, .binOp .add T x y T', ty, pos, af, gd⟩ :: rest) Q) : SXl P n W R ops L O E f (⟨d, .binOp .add T x y T', ty, pos, af, gd⟩ :: rest) Q := h
theorem r_add (h : SXr P n W R ops L O E k f (⟨d, .binOp .add T x y T', ty, pos, af, gd⟩ :: rest) Q) : SXr P n W R ops L O E k f (⟨d, .binOp .add T x y T', ty, pos, af, gd⟩ :: rest) Q := h
theorem l_lss (h : SXl P n W R ops L O E f (⟨d, .binOp .lss T x y T', ty, pos, af, gd⟩ :: rest) Q) : SXl P n W R ops L O E f (⟨d, .binOp .lss T x y T', ty, pos, af, gd⟩ :: rest) Q := h
theorem r_lss (h : SXr P n W R ops L O E k f (⟨d, .binOp .lss T x y T', ty, pos, af, gd⟩ :: rest) Q) : SXr P n W R ops L O E k f (⟨d, .binOp .lss T x y T', ty, pos, af, gd⟩ :: rest) Q := h
theorem l_leq (h : SXl P n W R ops L O E f (⟨d, .binOp .leq T x y T', ty, pos, af, gd⟩ :: rest) Q) : SXl P n W R ops L O E f (⟨d, .binOp .leq T x y T', ty, pos, af, gd⟩ :: rest) Q := h
theorem l_eql (h : SXl P n W R ops L O E f (⟨d, .binOp .eql T x y T', ty, pos, af, gd⟩ :: rest) Q) : SXl P n W R ops L O E f (⟨d, .binOp .eql T x y T', ty, pos, af, gd⟩ :: rest) Q := h
theorem r_eql (h : SXr P n W R ops L O E k f (⟨d, .binOp .eql T x y T', ty, pos, af, gd⟩ :: rest) Q) : SXr P n W R ops L O E k f (⟨d, .binOp .eql T x y T', ty, pos, af, gd⟩ :: rest) Q := h
theorem l_neq (h : SXl P n W R ops L O E f (⟨d, .binOp .neq T x y T', ty, pos, af, gd⟩ :: rest) Q) : SXl P n W R ops L O E f (⟨d, .binOp .neq T x y T', ty, pos, af, gd⟩ :: rest) Q := h
theorem r_neq (h : SXr P n W R ops L O E k f (⟨d, .binOp .neq T x y T', ty, pos, af, gd⟩ :: rest) Q) : SXr P n W R ops L O E k f (⟨d, .binOp .neq T x y T', ty, pos, af, gd⟩ :: rest) Q := h
end

/-! ### Drawn regions with calls that make memory -/
/-- As SXr; x: what such calls gave, by their number; U: what is told of it. -/
structure SXu (P : Program) (n : Nat) (W : World) (R : Rg W) (ops : Array Oper) (L : List Blk) (O : List Own) (E : List Res) (k : Nat) (U : List (Nat × ((Nat → Value) → World → Value → Prop))) (f : (Nat → Value) → List (Nat × Value)) (l : List Oper) (Q : Exit → Act → World → Prop) : Prop where
  run : ∀ F : (Nat → Value) → Act, (∀ x, Fr n (f x) (F x)) → RS P ops (Mod fun _ => False) (Loc W R L O E) Q k l F U
section
variable {P : Program} {n : Nat} {W : World} {R : Rg W} {L : List Blk} {O : List Own} {E : List Res} {U : List (Nat × ((Nat → Value) → World → Value → Prop))} {f : (Nat → Value) → List (Nat × Value)} {f0 : List (Nat × Value)} {Q : Exit → Act → World → Prop} {ops : Array Oper} {rest : List Oper} {k : Nat}
theorem SX.drawnU {id : Nat} {l : List Oper} (hm : P.follows .mixedOrders = true) (hc : regOk l.toArray = true) (h : SXu P n W R l.toArray L O E 0 [] (fun _ => f0) l Q) : SX P n W R L O E f0 (.region id l.toArray true) Q := ⟨fun a w hf hl =>
  wp_region_rs (Loc W R L O E) (Mod fun _ => False) hm hc (hl.keep ((Mod.refl _ w).drew)) (h.run _ fun _ => hf)⟩
theorem SXu.nil (h : ∀ x, SQ n W R L O E (f x) .normal Q) : SXu P n W R ops L O E k U f [] Q := ⟨fun F hF => RS.done fun x w hS _ => (h x).run (F x) w (hF x) hS⟩
theorem SXu.v {o : Oper} {v : Value} {d : Nat} (hr : ∀ x, OpW P n W R L O E (f x) o v) (hdst : o.dst = some d) (hw : ∀ x, wantO ops (f x) o = some true) (hd : Nat.blt d n = true) (h : SXu P n W R ops L O E (k + 1) U (fun x => (d, v) :: f x) rest Q) : SXu P n W R ops L O E k U f (o :: rest) Q := ⟨fun F hF =>
  RS.val [] (fun _ => v) rfl (fun _ _ _ => rfl) (fun x => wanted_of (hF x) (hw x)) (fun x w hS _ => wp_never ((hr x).run _ w (hF x) hS) fun _ _ ⟨h1, h2⟩ => ⟨h1, hS.keep h2, h2⟩) (by rw [hdst]; exact h.run _ fun x => (hF x).put hd v)⟩
theorem SXu.no {o : Oper} {d : Nat} (hw : ∀ x, wantO ops (f x) o = some false) (hdst : o.dst = some d) (hd : Nat.blt d n = true) (h : SXu P n W R ops L O E (k + 1) U (fun x => (d, undef) :: f x) rest Q) : SXu P n W R ops L O E k U f (o :: rest) Q := ⟨fun F hF =>
  RS.skip (fun x => wanted_of (hF x) (hw x)) (by rw [hdst]; exact h.run _ fun x => (hF x).put hd undef)⟩
variable {d : Nat} {fn : FuncId} {ars : List Operand} {aT : Array TypeId} {ty : TypeId} {pos : String} {af : Array Edge} {gd : Option (Nat × Bool)}
/-- A call that makes memory. -/
theorem SXu.new {args : List Value} [TFun P fn] (V : World → Value → Prop) (hV : ∀ w w' v, V w v → Mod (fun _ => False) w w' → V w' v) (hw : ∀ x, wantO ops (f x) ⟨some d, .call ⟨.value (.func fn), ars.toArray, aT⟩, ty, pos, af, gd⟩ = some true) (hd : Nat.blt d n = true) (ha : ∀ x, evL (f x) ars = some args)
    (hc : ∀ w, Loc W R L O E w → Calls P fn args.toArray w fun e w' => ∃ v, e = .returned v ∧ V w' v ∧ Mod (fun _ => False) w w')
    (h : SXu P n W R ops L O E (k + 1) ((k, fun _ => V) :: U) (fun x => (d, x k) :: f x) rest Q) : SXu P n W R ops L O E k U f (⟨some d, .call ⟨.value (.func fn), ars.toArray, aT⟩, ty, pos, af, gd⟩ :: rest) Q := ⟨fun F hF =>
  RS.new [] V id (fun _ _ _ => rfl) rfl hV (fun x => wanted_of (hF x) (hw x)) (fun x w hS _ => by
    unfold Oper.wp
    rw [run_callop (hF x) (ha x) w _ _, Oper.upon_enter]
    refine (hc w hS).mono ?_
    rintro e w' ⟨v, rfl, h1, h2⟩
    exact ⟨v, rfl, h1, hS.keep h2, h2⟩) (h.run _ fun x => (hF x).put hd _)⟩
/-- A call that is handed such memory. -/
theorem SXu.use {v : Value} {args : (Nat → Value) → List Value} [TFun P fn] (us : List Nat) (hus : (us.all fun i => (reach ops ops.size k).contains i) = true) (hw : ∀ x, wantO ops (f x) ⟨some d, .call ⟨.value (.func fn), ars.toArray, aT⟩, ty, pos, af, gd⟩ = some true) (hd : Nat.blt d n = true) (ha : ∀ x, evL (f x) ars = some (args x))
    (hc : ∀ x w, Loc W R L O E w → (∀ u ∈ U, u.1 ∈ us → u.2 x w (x u.1)) → Calls P fn (args x).toArray w fun e w' => e = .returned v ∧ Mod (fun _ => False) w w')
    (h : SXu P n W R ops L O E (k + 1) U (fun x => (d, v) :: f x) rest Q) : SXu P n W R ops L O E k U f (⟨some d, .call ⟨.value (.func fn), ars.toArray, aT⟩, ty, pos, af, gd⟩ :: rest) Q := ⟨fun F hF =>
  RS.val us (fun _ => v) hus (fun _ _ _ => rfl) (fun x => wanted_of (hF x) (hw x)) (fun x w hS hK => by
    unfold Oper.wp
    rw [run_callop (hF x) (ha x) w _ _, Oper.upon_enter]
    refine (hc x w hS hK).mono ?_
    rintro e w' ⟨rfl, h2⟩
    exact ⟨rfl, hS.keep h2, h2⟩) (h.run _ fun x => (hF x).put hd _)⟩
end
end Go.Proofs.YthffgbhphjkdeaaDoor
namespace Go.Proofs.YthffgbhphjkdeaaDoor
open Go.RowKit
theorem SQ.bodyCell {P : Program} {n : Nat} {W : World} {R : Rg W} {L : List Blk} {O : List Own} {E : List Res} {f : List (Nat × Value)} {fn : Func} {R' : Ending → World → Prop} {t : Tmp} {T T' : TypeId} {m g : Nat} {cells : List Value} [tr : TRow P T m] (i : Nat) (hr : fn.results = #[.cell t T]) (ht : look f t = some (.pointer (some ⟨g, 0, none⟩))) (hi : L[i]? = some ⟨g, cells, T'⟩) (hm : cells.length = m) (h : ∀ w, Loc W R L O E w → R' (.returned (.agg cells.toArray)) w) : SQ n W R L O E f .ret (bodyPost P fn R') :=
  ⟨fun a w hf hl => ⟨hf.defers, .agg cells.toArray, by
    obtain ⟨⟨d, h1, h2⟩, h3⟩ := tr.h
    have hb := (hl.blk _ (List.mem_iff_getElem?.2 ⟨i, hi⟩)).2
    obtain ⟨q1, q2⟩ := rowOf_range (w := w) (b := g) (o := 0) (n := m) (by simp [hasRow, hb, hm])
    have e2 : rowOf w g 0 m = cells.toArray := by
      unfold rowOf; rw [hb]; simp [← hm]
    rw [e2] at q1
    have e := run_loadVar_mid (P := P) w g 0 T _ d q1 h1 h2 (by rw [h3]; simp [hm])
    have hx : a.tmps[t]? = some (.pointer (some ⟨g, 0, none⟩)) := hf.at_ t _ ht
    simp [results, hr, hx, asAddr, e], h w hl⟩⟩
/-- A field of one cell, of a struct that is no variable. -/
class TFv (P : Program) (T j : Nat) (off : outParam Nat) : Prop where
  h : ∃ fs f d, P.underlying T = some (.struct fs) ∧ fs[j]? = some f ∧ f.offset = off ∧ P.underlying f.type = some d ∧ d.isRow = false
theorem OpW.field {P : Program} {n : Nat} {W : World} {R : Rg W} {L : List Blk} {O : List Own} {E : List Res} {f : List (Nat × Value)} {d : Option Tmp} {T j : Nat} {x : Operand} {ty : TypeId} {pos : String} {af : Array Edge} {gd : Option (Nat × Bool)} {off : Nat} {cs : Array Value} {v : Value} [t : TFv P T j off] (hx : evO f x = some (.agg cs)) (hv : cs[off]? = some v) : OpW P n W R L O E f ⟨d, .field T x j, ty, pos, af, gd⟩ v :=
  OpW.of (fun a w hf _ => by
    obtain ⟨fs, fl, d, h1, h2, h3, h4, h5⟩ := t.h
    have h6 : (isAgg fl.type).run P w = .ok false w := by
      cases d <;> simp_all [isAgg, run_underlying h4, TypeDesc.isRow]
    subst h3
    simp [execOp, hf.eval hx, Instr.field, run_underlying h1, h2, part, asAgg, h6, hv])

section
variable {P : Program} {n : Nat} {W : World} {R : Rg W} {L : List Blk} {O : List Own} {E : List Res} {f : List (Nat × Value)} {Q : Exit → Act → World → Prop} {ops : Array Oper} {rest : List Oper} {k : Nat}
variable {d : Option Nat} {c x y : Operand} {ty T T' : TypeId} {j fn : Nat} {ars : Array Operand} {aT : Array TypeId} {parts : Array (Nat × Operand)} {pos : String} {af : Array Edge} {gd : Option (Nat × Bool)}
/-! Which operation stands next. -/
end

section
variable {P : Program} {n : Nat} {W : World} {R : Rg W} {L : List Blk} {O : List Own} {E : List Res} {f : List (Nat × Value)} {Q : Exit → Act → World → Prop} {ops : Array Oper} {rest : List Oper}
variable {d : Option Nat} {dn : Nat} {x y : Operand} {ty T T' : TypeId} {pos : String} {af : Array Edge} {gd : Option (Nat × Bool)}
end

end Go.Proofs.YthffgbhphjkdeaaDoor
namespace Go.Proofs.YthffgbhphjkdeaaDoor
open Go.RowKit

class TStr (P : Program) (T : TypeId) : Prop where
  h : P.underlying T = some .string
class TPtr (P : Program) (T : TypeId) : Prop where
  h : ∃ e, P.underlying T = some (.pointer e)
theorem bytes_dec (a b : List UInt8) : (a == b) = decide (a = b) := by
  by_cases h : a = b
  · simp [h]
  · simp [h]
section
variable {P : Program} {n : Nat} {W : World} {R : Rg W} {L : List Blk} {O : List Own} {E : List Res} {f : List (Nat × Value)} {Q : Exit → Act → World → Prop} {ops : Array Oper} {rest : List Oper} {k : Nat}
variable {d : Option Nat} {c x y z : Operand} {ty T T' : TypeId} {j fn : Nat} {ars : Array Operand} {aT : Array TypeId} {pos : String} {af : Array Edge} {gd : Option (Nat × Bool)}
variable {a b : List UInt8}

theorem OpW.eqlStr (hx : evO f x = some (.string ⟨a.toArray⟩)) (hy : evO f y = some (.string ⟨b.toArray⟩)) : OpW P n W R L O E f ⟨d, .binOp .eql T x y T', ty, pos, af, gd⟩ (.bool (decide (a = b))) :=
  OpW.bin hx hy (eqGuard_at_string ..) (fun w => by rw [binOp_string_eql, ByteArray.toList_mk, ByteArray.toList_mk, bytes_dec]; rfl)
theorem OpW.neqStr (hx : evO f x = some (.string ⟨a.toArray⟩)) (hy : evO f y = some (.string ⟨b.toArray⟩)) : OpW P n W R L O E f ⟨d, .binOp .neq T x y T', ty, pos, af, gd⟩ (.bool (!decide (a = b))) :=
  OpW.bin hx hy (eqGuard_at_string ..) (fun w => by rw [binOp_string_neq, ByteArray.toList_mk, ByteArray.toList_mk, bytes_dec]; rfl)
theorem OpW.eqlStrT (hx : evO f x = some (.string ⟨a.toArray⟩)) (hy : evO f y = some (.string ⟨b.toArray⟩)) (h : a = b) : OpW P n W R L O E f ⟨d, .binOp .eql T x y T', ty, pos, af, gd⟩ (.bool true) := by
  have := OpW.eqlStr (P := P) (n := n) (W := W) (R := R) (L := L) (O := O) (E := E) (d := d) (T := T) (T' := T') (ty := ty) (pos := pos) (af := af) (gd := gd) hx hy
  rwa [decide_eq_true h] at this
theorem OpW.eqlStrF (hx : evO f x = some (.string ⟨a.toArray⟩)) (hy : evO f y = some (.string ⟨b.toArray⟩)) (h : ¬ a = b) : OpW P n W R L O E f ⟨d, .binOp .eql T x y T', ty, pos, af, gd⟩ (.bool false) := by
  have := OpW.eqlStr (P := P) (n := n) (W := W) (R := R) (L := L) (O := O) (E := E) (d := d) (T := T) (T' := T') (ty := ty) (pos := pos) (af := af) (gd := gd) hx hy
  rwa [decide_eq_false h] at this
theorem OpW.neqStrT (hx : evO f x = some (.string ⟨a.toArray⟩)) (hy : evO f y = some (.string ⟨b.toArray⟩)) (h : ¬ a = b) : OpW P n W R L O E f ⟨d, .binOp .neq T x y T', ty, pos, af, gd⟩ (.bool true) := by
  have := OpW.neqStr (P := P) (n := n) (W := W) (R := R) (L := L) (O := O) (E := E) (d := d) (T := T) (T' := T') (ty := ty) (pos := pos) (af := af) (gd := gd) hx hy
  rwa [decide_eq_false h] at this
theorem OpW.neqStrF (hx : evO f x = some (.string ⟨a.toArray⟩)) (hy : evO f y = some (.string ⟨b.toArray⟩)) (h : a = b) : OpW P n W R L O E f ⟨d, .binOp .neq T x y T', ty, pos, af, gd⟩ (.bool false) := by
  have := OpW.neqStr (P := P) (n := n) (W := W) (R := R) (L := L) (O := O) (E := E) (d := d) (T := T) (T' := T') (ty := ty) (pos := pos) (af := af) (gd := gd) hx hy
  rwa [decide_eq_true h] at this
theorem OpW.cat (hx : evO f x = some (.string ⟨a.toArray⟩)) (hy : evO f y = some (.string ⟨b.toArray⟩)) (hn : a.length + b.length ≤ 9223372036854775807) : OpW P n W R L O E f ⟨d, .binOp .add T x y T', ty, pos, af, gd⟩ (.string ⟨(a ++ b).toArray⟩) :=
  OpW.bin hx hy rfl (fun w => by
    have h1 : ¬ (((⟨a.toArray⟩ : ByteArray).size + (⟨b.toArray⟩ : ByteArray).size : Nat) : Int) > IntKind.i64.max := by
      have e1 : (⟨a.toArray⟩ : ByteArray).size = a.length := List.size_toArray
      have e2 : (⟨b.toArray⟩ : ByteArray).size = b.length := List.size_toArray
      rw [e1, e2]
      simp [IntKind.max, IntKind.bits, IntKind.signed]
      omega
    have h2 : (⟨a.toArray⟩ : ByteArray) ++ ⟨b.toArray⟩ = ⟨(a ++ b).toArray⟩ := by
      apply ByteArray.ext; simp [ByteArray.data_append]
    rw [binOp_string_add]
    unfold Op.stringOp
    simp only [if_neg h1, h2]
    rfl)
/-- A struct made of its fields. -/
theorem OpW.build {parts : List (Nat × Operand)} {vals : List (Nat × Value)} {cells : List Value} (hp : evP f parts = some vals) (hb : P.built T vals = some cells.toArray) : OpW P n W R L O E f ⟨d, .build T parts.toArray, ty, pos, af, gd⟩ (.agg cells.toArray) :=
  OpW.of (fun q w hf _ => by
    have e1 := evP_map hf parts vals hp
    have e2 : (parts.toArray.map fun p => (p.1, q.eval p.2)).toList = vals := by simpa using e1
    have := run_build (P := P) w T (parts.toArray.map fun p => (p.1, q.eval p.2)) cells.toArray (by rw [e2]; exact hb)
    simp at this
    simp [execOp, this])
theorem l_build {parts : Array (Nat × Operand)} (h : SXl P n W R ops L O E f (⟨d, .build T parts, ty, pos, af, gd⟩ :: rest) Q) : SXl P n W R ops L O E f (⟨d, .build T parts, ty, pos, af, gd⟩ :: rest) Q := h
theorem r_build {parts : Array (Nat × Operand)} (h : SXr P n W R ops L O E k f (⟨d, .build T parts, ty, pos, af, gd⟩ :: rest) Q) : SXr P n W R ops L O E k f (⟨d, .build T parts, ty, pos, af, gd⟩ :: rest) Q := h
theorem OpW.nilCheck {q : Addr} (hx : evO f x = some (.pointer (some q))) : OpW P n W R L O E f ⟨d, .nilCheck x, ty, pos, af, gd⟩ (.pointer (some q)) :=
  OpW.of (fun a w hf _ => by simp [execOp, hf.eval hx])
theorem l_nilCheck (h : SXl P n W R ops L O E f (⟨d, .nilCheck x, ty, pos, af, gd⟩ :: rest) Q) : SXl P n W R ops L O E f (⟨d, .nilCheck x, ty, pos, af, gd⟩ :: rest) Q := h
theorem SQ.bodyCell2 {fn : Func} {R' : Ending → World → Prop} {t u : Tmp} {T T' : TypeId} {m g : Nat} {cells : List Value} {z : Value} [tr : TRow P T m] (i : Nat) (hr : fn.results = #[.cell t T, .tmp u]) (ht : look f t = some (.pointer (some ⟨g, 0, none⟩))) (hu : look f u = some z) (hi : L[i]? = some ⟨g, cells, T'⟩) (hm : cells.length = m) (h : ∀ w, Loc W R L O E w → R' (.returned (.tuple #[.agg cells.toArray, z])) w) : SQ n W R L O E f .ret (bodyPost P fn R') :=
  ⟨fun a w hf hl => ⟨hf.defers, .tuple #[.agg cells.toArray, z], by
    obtain ⟨⟨d, h1, h2⟩, h3⟩ := tr.h
    have hb := (hl.blk _ (List.mem_iff_getElem?.2 ⟨i, hi⟩)).2
    obtain ⟨q1, q2⟩ := rowOf_range (w := w) (b := g) (o := 0) (n := m) (by simp [hasRow, hb, hm])
    have e2 : rowOf w g 0 m = cells.toArray := by
      unfold rowOf; rw [hb]; simp [← hm]
    rw [e2] at q1
    have e := run_loadVar_mid (P := P) w g 0 T _ d q1 h1 h2 (by rw [h3]; simp [hm])
    have hx : a.tmps[t]? = some (.pointer (some ⟨g, 0, none⟩)) := hf.at_ t _ ht
    have hy : a.tmps[u]? = some z := hf.at_ u _ hu
    simp [results, hr, hx, hy, asAddr, e], h w hl⟩⟩
theorem SQ.tail (h : SXl P n W R ops L O E f rest Q) : SQ n W R L O E f .normal (fun _ a w => wpList P ops Q rest a w) := ⟨fun a w hf hl => h.run a w hf hl⟩
theorem Loc.blk0 {g : Nat} {cells : List Value} {w : World} (h : Loc W (Rg.none W) (⟨g, cells, T⟩ :: L) O E w) : W.heap.size ≤ g ∧ w.heap[g]? = some (.cells cells.toArray T (0, 0)) := by
  have hb := h.blk _ List.mem_cons_self
  exact ⟨hb.1.resolve_left (fun f => f), hb.2⟩
/-- A call that hands back a new block, of which the cells are told. -/
def NewB (ξ : Type) (v : ξ → Nat → Value) (cells : ξ → List Value) (T1 : TypeId) (w : World) (e : Ending) (w' : World) : Prop :=
  ∃ (x : ξ) (g : Nat), e = .returned (v x g) ∧ w.heap.size ≤ g ∧ w'.heap[g]? = some (.cells (cells x).toArray T1 (0, 0)) ∧ Mod (fun _ => False) w w'
theorem SXl.callB {ξ : Type} {v : ξ → Nat → Value} {cells : ξ → List Value} {T1 : TypeId} {fn : FuncId} {ars : List Operand} {args : List Value} {aT : Array TypeId} {dn : Nat} [TFun P fn] (hw : wantO ops f ⟨some dn, .call ⟨.value (.func fn), ars.toArray, aT⟩, ty, pos, af, gd⟩ = some true) (hd : Nat.blt dn n = true) (ha : evL f ars = some args)
    (hc : ∀ w, Loc W R L O E w → Calls P fn args.toArray w (NewB ξ v cells T1 w))
    (h : ∀ x g, SXl P n W R ops (⟨g, cells x, T1⟩ :: L) O E ((dn, v x g) :: f) rest Q) : SXl P n W R ops L O E f (⟨some dn, .call ⟨.value (.func fn), ars.toArray, aT⟩, ty, pos, af, gd⟩ :: rest) Q := ⟨fun a w hf hl => by
  unfold wpList
  rw [if_pos (wanted_of hf hw)]
  refine .inl ?_
  unfold Oper.wp
  rw [run_callop hf ha w _ _, Oper.upon_enter]
  refine (hc w hl).mono ?_
  rintro e w' ⟨x, g, rfl, hg, hb, hm⟩
  exact (h x g).run _ _ (hf.put hd _) (hl.made hm hg hb)⟩
end
end Go.Proofs.YthffgbhphjkdeaaDoor
namespace Go.Proofs.YthffgbhphjkdeaaDoor

instance : TOne Tryd.prog 2 := ⟨⟨_, Tryd.underlying2, rfl⟩, by kernel_rfl⟩
instance : TEl Tryd.prog 2 1 8 (.int .i64 0) := ⟨by kernel_rfl, rfl, by decide⟩
instance : TZero Tryd.prog 2 [.int .i64 0] := ⟨.int .i64 0, by kernel_rfl, rfl⟩
instance : TOne Tryd.prog 3 := ⟨⟨_, Tryd.underlying3, rfl⟩, by kernel_rfl⟩
instance : TEl Tryd.prog 3 1 8 (.int .i64 0) := ⟨by kernel_rfl, rfl, by decide⟩
instance : TZero Tryd.prog 3 [.int .i64 0] := ⟨.int .i64 0, by kernel_rfl, rfl⟩
instance : TOne Tryd.prog 4 := ⟨⟨_, Tryd.underlying4, rfl⟩, by kernel_rfl⟩
instance : TBool Tryd.prog 4 := ⟨Tryd.underlying4⟩
instance : TEl Tryd.prog 4 1 1 (.bool false) := ⟨by kernel_rfl, rfl, by decide⟩
instance : TZero Tryd.prog 4 [.bool false] := ⟨.bool false, by kernel_rfl, rfl⟩
instance : TOne Tryd.prog 5 := ⟨⟨_, Tryd.underlying5, rfl⟩, by kernel_rfl⟩
instance : TEl Tryd.prog 5 1 1 (.int .u8 0) := ⟨by kernel_rfl, rfl, by decide⟩
instance : TZero Tryd.prog 5 [.int .u8 0] := ⟨.int .u8 0, by kernel_rfl, rfl⟩
instance : TOne Tryd.prog 6 := ⟨⟨_, Tryd.underlying6, rfl⟩, by kernel_rfl⟩
instance : TEl Tryd.prog 6 1 1 (.int .u8 0) := ⟨by kernel_rfl, rfl, by decide⟩
instance : TZero Tryd.prog 6 [.int .u8 0] := ⟨.int .u8 0, by kernel_rfl, rfl⟩
instance : TRow Tryd.prog 7 4 := ⟨⟨_, Tryd.underlying7, rfl⟩, by kernel_rfl⟩
instance : TFld Tryd.prog 7 0 0 := ⟨_, _, 0, Tryd.underlying7, rfl, rfl, by kernel_rfl⟩
instance : TFld Tryd.prog 7 1 1 := ⟨_, _, 0, Tryd.underlying7, rfl, rfl, by kernel_rfl⟩
instance : TFld Tryd.prog 7 2 2 := ⟨_, _, 0, Tryd.underlying7, rfl, rfl, by kernel_rfl⟩
instance : TFld Tryd.prog 7 3 3 := ⟨_, _, 0, Tryd.underlying7, rfl, rfl, by kernel_rfl⟩
instance : TEl Tryd.prog 7 4 24 (.agg #[.int .i64 0, .int .i64 0, .bool false, .int .u8 0]) := ⟨by kernel_rfl, rfl, by decide⟩
instance : TZero Tryd.prog 7 [.int .i64 0, .int .i64 0, .bool false, .int .u8 0] := ⟨.agg #[.int .i64 0, .int .i64 0, .bool false, .int .u8 0], by kernel_rfl, rfl⟩
instance : TRow Tryd.prog 8 4 := ⟨⟨_, Tryd.underlying8, rfl⟩, by kernel_rfl⟩
instance : TFld Tryd.prog 8 0 0 := ⟨_, _, 0, Tryd.underlying8, rfl, rfl, by kernel_rfl⟩
instance : TFld Tryd.prog 8 1 1 := ⟨_, _, 0, Tryd.underlying8, rfl, rfl, by kernel_rfl⟩
instance : TFld Tryd.prog 8 2 2 := ⟨_, _, 0, Tryd.underlying8, rfl, rfl, by kernel_rfl⟩
instance : TFld Tryd.prog 8 3 3 := ⟨_, _, 0, Tryd.underlying8, rfl, rfl, by kernel_rfl⟩
instance : TEl Tryd.prog 8 4 24 (.agg #[.int .i64 0, .int .i64 0, .bool false, .int .u8 0]) := ⟨by kernel_rfl, rfl, by decide⟩
instance : TZero Tryd.prog 8 [.int .i64 0, .int .i64 0, .bool false, .int .u8 0] := ⟨.agg #[.int .i64 0, .int .i64 0, .bool false, .int .u8 0], by kernel_rfl, rfl⟩
instance : TOne Tryd.prog 9 := ⟨⟨_, Tryd.underlying9, rfl⟩, by kernel_rfl⟩
instance : TStr Tryd.prog 9 := ⟨Tryd.underlying9⟩
instance : TEl Tryd.prog 9 1 16 (.string ⟨#[]⟩) := ⟨by kernel_rfl, rfl, by decide⟩
instance : TZero Tryd.prog 9 [.string ⟨#[]⟩] := ⟨.string ⟨#[]⟩, by kernel_rfl, rfl⟩
instance : TOne Tryd.prog 10 := ⟨⟨_, Tryd.underlying10, rfl⟩, by kernel_rfl⟩
instance : TStr Tryd.prog 10 := ⟨Tryd.underlying10⟩
instance : TEl Tryd.prog 10 1 16 (.string ⟨#[]⟩) := ⟨by kernel_rfl, rfl, by decide⟩
instance : TZero Tryd.prog 10 [.string ⟨#[]⟩] := ⟨.string ⟨#[]⟩, by kernel_rfl, rfl⟩
instance : TOne Tryd.prog 11 := ⟨⟨_, Tryd.underlying11, rfl⟩, by kernel_rfl⟩
instance : TStr Tryd.prog 11 := ⟨Tryd.underlying11⟩
instance : TEl Tryd.prog 11 1 16 (.string ⟨#[]⟩) := ⟨by kernel_rfl, rfl, by decide⟩
instance : TZero Tryd.prog 11 [.string ⟨#[]⟩] := ⟨.string ⟨#[]⟩, by kernel_rfl, rfl⟩
instance : TOne Tryd.prog 12 := ⟨⟨_, Tryd.underlying12, rfl⟩, by kernel_rfl⟩
instance : TEl Tryd.prog 12 1 8 (.int .u64 0) := ⟨by kernel_rfl, rfl, by decide⟩
instance : TZero Tryd.prog 12 [.int .u64 0] := ⟨.int .u64 0, by kernel_rfl, rfl⟩
instance : TRow Tryd.prog 13 2 := ⟨⟨_, Tryd.underlying13, rfl⟩, by kernel_rfl⟩
instance : TFld Tryd.prog 13 0 0 := ⟨_, _, 0, Tryd.underlying13, rfl, rfl, by kernel_rfl⟩
instance : TFld Tryd.prog 13 1 1 := ⟨_, _, 0, Tryd.underlying13, rfl, rfl, by kernel_rfl⟩
instance : TEl Tryd.prog 13 2 24 (.agg #[.string ⟨#[]⟩, .int .u64 0]) := ⟨by kernel_rfl, rfl, by decide⟩
instance : TZero Tryd.prog 13 [.string ⟨#[]⟩, .int .u64 0] := ⟨.agg #[.string ⟨#[]⟩, .int .u64 0], by kernel_rfl, rfl⟩
instance : TRow Tryd.prog 14 2 := ⟨⟨_, Tryd.underlying14, rfl⟩, by kernel_rfl⟩
instance : TFld Tryd.prog 14 0 0 := ⟨_, _, 0, Tryd.underlying14, rfl, rfl, by kernel_rfl⟩
instance : TFld Tryd.prog 14 1 1 := ⟨_, _, 0, Tryd.underlying14, rfl, rfl, by kernel_rfl⟩
instance : TEl Tryd.prog 14 2 24 (.agg #[.string ⟨#[]⟩, .int .u64 0]) := ⟨by kernel_rfl, rfl, by decide⟩
instance : TZero Tryd.prog 14 [.string ⟨#[]⟩, .int .u64 0] := ⟨.agg #[.string ⟨#[]⟩, .int .u64 0], by kernel_rfl, rfl⟩
instance : TOne Tryd.prog 15 := ⟨⟨_, Tryd.underlying15, rfl⟩, by kernel_rfl⟩
instance : TPtr Tryd.prog 15 := ⟨⟨_, Tryd.underlying15⟩⟩
instance : TEl Tryd.prog 15 1 8 (.pointer none) := ⟨by kernel_rfl, rfl, by decide⟩
instance : TZero Tryd.prog 15 [.pointer none] := ⟨.pointer none, by kernel_rfl, rfl⟩
instance : TOne Tryd.prog 16 := ⟨⟨_, Tryd.underlying16, rfl⟩, by kernel_rfl⟩
instance : TPtr Tryd.prog 16 := ⟨⟨_, Tryd.underlying16⟩⟩
instance : TEl Tryd.prog 16 1 8 (.pointer none) := ⟨by kernel_rfl, rfl, by decide⟩
instance : TZero Tryd.prog 16 [.pointer none] := ⟨.pointer none, by kernel_rfl, rfl⟩
instance : TOne Tryd.prog 17 := ⟨⟨_, Tryd.underlying17, rfl⟩, by kernel_rfl⟩
instance : TPtr Tryd.prog 17 := ⟨⟨_, Tryd.underlying17⟩⟩
instance : TEl Tryd.prog 17 1 8 (.pointer none) := ⟨by kernel_rfl, rfl, by decide⟩
instance : TZero Tryd.prog 17 [.pointer none] := ⟨.pointer none, by kernel_rfl, rfl⟩
instance : TRow Tryd.prog 18 1 := ⟨⟨_, Tryd.underlying18, rfl⟩, by kernel_rfl⟩
instance : TFld Tryd.prog 18 0 0 := ⟨_, _, 0, Tryd.underlying18, rfl, rfl, by kernel_rfl⟩
instance : TEl Tryd.prog 18 1 8 (.agg #[.pointer none]) := ⟨by kernel_rfl, rfl, by decide⟩
instance : TZero Tryd.prog 18 [.pointer none] := ⟨.agg #[.pointer none], by kernel_rfl, rfl⟩
instance : TRow Tryd.prog 19 1 := ⟨⟨_, Tryd.underlying19, rfl⟩, by kernel_rfl⟩
instance : TFld Tryd.prog 19 0 0 := ⟨_, _, 0, Tryd.underlying19, rfl, rfl, by kernel_rfl⟩
instance : TEl Tryd.prog 19 1 8 (.agg #[.pointer none]) := ⟨by kernel_rfl, rfl, by decide⟩
instance : TZero Tryd.prog 19 [.pointer none] := ⟨.agg #[.pointer none], by kernel_rfl, rfl⟩
instance : TOne Tryd.prog 21 := ⟨⟨_, Tryd.underlying21, rfl⟩, by kernel_rfl⟩
instance : TEl Tryd.prog 21 1 4 (.int .i32 0) := ⟨by kernel_rfl, rfl, by decide⟩
instance : TZero Tryd.prog 21 [.int .i32 0] := ⟨.int .i32 0, by kernel_rfl, rfl⟩
instance : TRow Tryd.prog 22 2 := ⟨⟨_, Tryd.underlying22, rfl⟩, by kernel_rfl⟩
instance : TFld Tryd.prog 22 0 0 := ⟨_, _, 0, Tryd.underlying22, rfl, rfl, by kernel_rfl⟩
instance : TFld Tryd.prog 22 1 1 := ⟨_, _, 0, Tryd.underlying22, rfl, rfl, by kernel_rfl⟩
instance : TEq Tryd.prog 22 [0, 0] := ⟨by kernel_rfl, by kernel_rfl, _, Tryd.underlying22⟩
instance : TEl Tryd.prog 22 2 16 (.agg #[.int .i64 0, .int .i64 0]) := ⟨by kernel_rfl, rfl, by decide⟩
instance : TZero Tryd.prog 22 [.int .i64 0, .int .i64 0] := ⟨.agg #[.int .i64 0, .int .i64 0], by kernel_rfl, rfl⟩
instance : TRow Tryd.prog 23 2 := ⟨⟨_, Tryd.underlying23, rfl⟩, by kernel_rfl⟩
instance : TFld Tryd.prog 23 0 0 := ⟨_, _, 0, Tryd.underlying23, rfl, rfl, by kernel_rfl⟩
instance : TFld Tryd.prog 23 1 1 := ⟨_, _, 0, Tryd.underlying23, rfl, rfl, by kernel_rfl⟩
instance : TEq Tryd.prog 23 [0, 0] := ⟨by kernel_rfl, by kernel_rfl, _, Tryd.underlying23⟩
instance : TEl Tryd.prog 23 2 16 (.agg #[.int .i64 0, .int .i64 0]) := ⟨by kernel_rfl, rfl, by decide⟩
instance : TZero Tryd.prog 23 [.int .i64 0, .int .i64 0] := ⟨.agg #[.int .i64 0, .int .i64 0], by kernel_rfl, rfl⟩
instance : TRow Tryd.prog 24 12 := ⟨⟨_, Tryd.underlying24, rfl⟩, by kernel_rfl⟩
instance : TFld Tryd.prog 24 0 0 := ⟨_, _, 1, Tryd.underlying24, rfl, rfl, by kernel_rfl⟩
instance : TFld Tryd.prog 24 1 2 := ⟨_, _, 1, Tryd.underlying24, rfl, rfl, by kernel_rfl⟩
instance : TFld Tryd.prog 24 2 4 := ⟨_, _, 1, Tryd.underlying24, rfl, rfl, by kernel_rfl⟩
instance : TFld Tryd.prog 24 3 6 := ⟨_, _, 1, Tryd.underlying24, rfl, rfl, by kernel_rfl⟩
instance : TFld Tryd.prog 24 4 8 := ⟨_, _, 1, Tryd.underlying24, rfl, rfl, by kernel_rfl⟩
instance : TFld Tryd.prog 24 5 10 := ⟨_, _, 1, Tryd.underlying24, rfl, rfl, by kernel_rfl⟩
instance : TEq Tryd.prog 24 [0, 0, 0, 0, 0, 0, 0, 0, 0, 0, 0, 0] := ⟨by kernel_rfl, by kernel_rfl, _, Tryd.underlying24⟩
instance : TEl Tryd.prog 24 12 96 (.agg #[.int .i64 0, .int .i64 0, .int .i64 0, .int .i64 0, .int .i64 0, .int .i64 0, .int .i64 0, .int .i64 0, .int .i64 0, .int .i64 0, .int .i64 0, .int .i64 0]) := ⟨by kernel_rfl, rfl, by decide⟩
instance : TZero Tryd.prog 24 [.int .i64 0, .int .i64 0, .int .i64 0, .int .i64 0, .int .i64 0, .int .i64 0, .int .i64 0, .int .i64 0, .int .i64 0, .int .i64 0, .int .i64 0, .int .i64 0] := ⟨.agg #[.int .i64 0, .int .i64 0, .int .i64 0, .int .i64 0, .int .i64 0, .int .i64 0, .int .i64 0, .int .i64 0, .int .i64 0, .int .i64 0, .int .i64 0, .int .i64 0], by kernel_rfl, rfl⟩
instance : TRow Tryd.prog 25 12 := ⟨⟨_, Tryd.underlying25, rfl⟩, by kernel_rfl⟩
instance : TFld Tryd.prog 25 0 0 := ⟨_, _, 1, Tryd.underlying25, rfl, rfl, by kernel_rfl⟩
instance : TFld Tryd.prog 25 1 2 := ⟨_, _, 1, Tryd.underlying25, rfl, rfl, by kernel_rfl⟩
instance : TFld Tryd.prog 25 2 4 := ⟨_, _, 1, Tryd.underlying25, rfl, rfl, by kernel_rfl⟩
instance : TFld Tryd.prog 25 3 6 := ⟨_, _, 1, Tryd.underlying25, rfl, rfl, by kernel_rfl⟩
instance : TFld Tryd.prog 25 4 8 := ⟨_, _, 1, Tryd.underlying25, rfl, rfl, by kernel_rfl⟩
instance : TFld Tryd.prog 25 5 10 := ⟨_, _, 1, Tryd.underlying25, rfl, rfl, by kernel_rfl⟩
instance : TEq Tryd.prog 25 [0, 0, 0, 0, 0, 0, 0, 0, 0, 0, 0, 0] := ⟨by kernel_rfl, by kernel_rfl, _, Tryd.underlying25⟩
instance : TEl Tryd.prog 25 12 96 (.agg #[.int .i64 0, .int .i64 0, .int .i64 0, .int .i64 0, .int .i64 0, .int .i64 0, .int .i64 0, .int .i64 0, .int .i64 0, .int .i64 0, .int .i64 0, .int .i64 0]) := ⟨by kernel_rfl, rfl, by decide⟩
instance : TZero Tryd.prog 25 [.int .i64 0, .int .i64 0, .int .i64 0, .int .i64 0, .int .i64 0, .int .i64 0, .int .i64 0, .int .i64 0, .int .i64 0, .int .i64 0, .int .i64 0, .int .i64 0] := ⟨.agg #[.int .i64 0, .int .i64 0, .int .i64 0, .int .i64 0, .int .i64 0, .int .i64 0, .int .i64 0, .int .i64 0, .int .i64 0, .int .i64 0, .int .i64 0, .int .i64 0], by kernel_rfl, rfl⟩
instance : TRow Tryd.prog 26 4 := ⟨⟨_, Tryd.underlying26, rfl⟩, by kernel_rfl⟩
instance : TFld Tryd.prog 26 0 0 := ⟨_, _, 0, Tryd.underlying26, rfl, rfl, by kernel_rfl⟩
instance : TFld Tryd.prog 26 1 1 := ⟨_, _, 0, Tryd.underlying26, rfl, rfl, by kernel_rfl⟩
instance : TFld Tryd.prog 26 2 2 := ⟨_, _, 0, Tryd.underlying26, rfl, rfl, by kernel_rfl⟩
instance : TFld Tryd.prog 26 3 3 := ⟨_, _, 0, Tryd.underlying26, rfl, rfl, by kernel_rfl⟩
instance : TEq Tryd.prog 26 [0, 0, 0, 0] := ⟨by kernel_rfl, by kernel_rfl, _, Tryd.underlying26⟩
instance : TEl Tryd.prog 26 4 32 (.agg #[.int .i64 0, .int .i64 0, .int .i64 0, .int .i64 0]) := ⟨by kernel_rfl, rfl, by decide⟩
instance : TZero Tryd.prog 26 [.int .i64 0, .int .i64 0, .int .i64 0, .int .i64 0] := ⟨.agg #[.int .i64 0, .int .i64 0, .int .i64 0, .int .i64 0], by kernel_rfl, rfl⟩
instance : TRow Tryd.prog 27 4 := ⟨⟨_, Tryd.underlying27, rfl⟩, by kernel_rfl⟩
instance : TFld Tryd.prog 27 0 0 := ⟨_, _, 0, Tryd.underlying27, rfl, rfl, by kernel_rfl⟩
instance : TFld Tryd.prog 27 1 1 := ⟨_, _, 0, Tryd.underlying27, rfl, rfl, by kernel_rfl⟩
instance : TFld Tryd.prog 27 2 2 := ⟨_, _, 0, Tryd.underlying27, rfl, rfl, by kernel_rfl⟩
instance : TFld Tryd.prog 27 3 3 := ⟨_, _, 0, Tryd.underlying27, rfl, rfl, by kernel_rfl⟩
instance : TEq Tryd.prog 27 [0, 0, 0, 0] := ⟨by kernel_rfl, by kernel_rfl, _, Tryd.underlying27⟩
instance : TEl Tryd.prog 27 4 32 (.agg #[.int .i64 0, .int .i64 0, .int .i64 0, .int .i64 0]) := ⟨by kernel_rfl, rfl, by decide⟩
instance : TZero Tryd.prog 27 [.int .i64 0, .int .i64 0, .int .i64 0, .int .i64 0] := ⟨.agg #[.int .i64 0, .int .i64 0, .int .i64 0, .int .i64 0], by kernel_rfl, rfl⟩
instance : TRow Tryd.prog 28 60 := ⟨⟨_, Tryd.underlying28, rfl⟩, by kernel_rfl⟩
instance : TFld Tryd.prog 28 0 0 := ⟨_, _, 0, Tryd.underlying28, rfl, rfl, by kernel_rfl⟩
instance : TFld Tryd.prog 28 1 1 := ⟨_, _, 0, Tryd.underlying28, rfl, rfl, by kernel_rfl⟩
instance : TFld Tryd.prog 28 2 2 := ⟨_, _, 0, Tryd.underlying28, rfl, rfl, by kernel_rfl⟩
instance : TFld Tryd.prog 28 3 3 := ⟨_, _, 0, Tryd.underlying28, rfl, rfl, by kernel_rfl⟩
instance : TFld Tryd.prog 28 4 4 := ⟨_, _, 0, Tryd.underlying28, rfl, rfl, by kernel_rfl⟩
instance : TFld Tryd.prog 28 5 5 := ⟨_, _, 0, Tryd.underlying28, rfl, rfl, by kernel_rfl⟩
instance : TFld Tryd.prog 28 6 6 := ⟨_, _, 0, Tryd.underlying28, rfl, rfl, by kernel_rfl⟩
instance : TFld Tryd.prog 28 7 7 := ⟨_, _, 0, Tryd.underlying28, rfl, rfl, by kernel_rfl⟩
instance : TFld Tryd.prog 28 8 8 := ⟨_, _, 0, Tryd.underlying28, rfl, rfl, by kernel_rfl⟩
instance : TFld Tryd.prog 28 9 9 := ⟨_, _, 0, Tryd.underlying28, rfl, rfl, by kernel_rfl⟩
instance : TFld Tryd.prog 28 10 10 := ⟨_, _, 0, Tryd.underlying28, rfl, rfl, by kernel_rfl⟩
instance : TFld Tryd.prog 28 11 11 := ⟨_, _, 1, Tryd.underlying28, rfl, rfl, by kernel_rfl⟩
instance : TFld Tryd.prog 28 12 13 := ⟨_, _, 1, Tryd.underlying28, rfl, rfl, by kernel_rfl⟩
instance : TFld Tryd.prog 28 13 15 := ⟨_, _, 1, Tryd.underlying28, rfl, rfl, by kernel_rfl⟩
instance : TFld Tryd.prog 28 14 17 := ⟨_, _, 1, Tryd.underlying28, rfl, rfl, by kernel_rfl⟩
instance : TFld Tryd.prog 28 15 19 := ⟨_, _, 1, Tryd.underlying28, rfl, rfl, by kernel_rfl⟩
instance : TFld Tryd.prog 28 16 21 := ⟨_, _, 1, Tryd.underlying28, rfl, rfl, by kernel_rfl⟩
instance : TFld Tryd.prog 28 17 23 := ⟨_, _, 1, Tryd.underlying28, rfl, rfl, by kernel_rfl⟩
instance : TFld Tryd.prog 28 18 25 := ⟨_, _, 0, Tryd.underlying28, rfl, rfl, by kernel_rfl⟩
instance : TFld Tryd.prog 28 19 26 := ⟨_, _, 11, Tryd.underlying28, rfl, rfl, by kernel_rfl⟩
instance : TFld Tryd.prog 28 20 38 := ⟨_, _, 11, Tryd.underlying28, rfl, rfl, by kernel_rfl⟩
instance : TFld Tryd.prog 28 21 50 := ⟨_, _, 3, Tryd.underlying28, rfl, rfl, by kernel_rfl⟩
instance : TFld Tryd.prog 28 22 54 := ⟨_, _, 3, Tryd.underlying28, rfl, rfl, by kernel_rfl⟩
instance : TFld Tryd.prog 28 23 58 := ⟨_, _, 0, Tryd.underlying28, rfl, rfl, by kernel_rfl⟩
instance : TFld Tryd.prog 28 24 59 := ⟨_, _, 0, Tryd.underlying28, rfl, rfl, by kernel_rfl⟩
instance : TEq Tryd.prog 28 [0, 0, 0, 0, 0, 0, 1, 1, 0, 0, 0, 0, 0, 0, 0, 0, 0, 0, 0, 0, 0, 0, 0, 0, 0, 0, 0, 0, 0, 0, 0, 0, 0, 0, 0, 0, 0, 0, 0, 0, 0, 0, 0, 0, 0, 0, 0, 0, 0, 0, 0, 0, 0, 0, 0, 0, 0, 0, 0, 0] := ⟨by kernel_rfl, by kernel_rfl, _, Tryd.underlying28⟩
instance : TEl Tryd.prog 28 60 472 (.agg #[.int .i64 0, .int .i64 0, .int .i64 0, .int .i64 0, .int .i64 0, .int .i64 0, .bool false, .bool false, .int .i64 0, .int .i64 0, .int .i64 0, .int .i64 0, .int .i64 0, .int .i64 0, .int .i64 0, .int .i64 0, .int .i64 0, .int .i64 0, .int .i64 0, .int .i64 0, .int .i64 0, .int .i64 0, .int .i64 0, .int .i64 0, .int .i64 0, .int .i64 0, .int .i64 0, .int .i64 0, .int .i64 0, .int .i64 0, .int .i64 0, .int .i64 0, .int .i64 0, .int .i64 0, .int .i64 0, .int .i64 0, .int .i64 0, .int .i64 0, .int .i64 0, .int .i64 0, .int .i64 0, .int .i64 0, .int .i64 0, .int .i64 0, .int .i64 0, .int .i64 0, .int .i64 0, .int .i64 0, .int .i64 0, .int .i64 0, .int .i64 0, .int .i64 0, .int .i64 0, .int .i64 0, .int .i64 0, .int .i64 0, .int .i64 0, .int .i64 0, .int .i64 0, .int .i64 0]) := ⟨by kernel_rfl, rfl, by decide⟩
instance : TZero Tryd.prog 28 [.int .i64 0, .int .i64 0, .int .i64 0, .int .i64 0, .int .i64 0, .int .i64 0, .bool false, .bool false, .int .i64 0, .int .i64 0, .int .i64 0, .int .i64 0, .int .i64 0, .int .i64 0, .int .i64 0, .int .i64 0, .int .i64 0, .int .i64 0, .int .i64 0, .int .i64 0, .int .i64 0, .int .i64 0, .int .i64 0, .int .i64 0, .int .i64 0, .int .i64 0, .int .i64 0, .int .i64 0, .int .i64 0, .int .i64 0, .int .i64 0, .int .i64 0, .int .i64 0, .int .i64 0, .int .i64 0, .int .i64 0, .int .i64 0, .int .i64 0, .int .i64 0, .int .i64 0, .int .i64 0, .int .i64 0, .int .i64 0, .int .i64 0, .int .i64 0, .int .i64 0, .int .i64 0, .int .i64 0, .int .i64 0, .int .i64 0, .int .i64 0, .int .i64 0, .int .i64 0, .int .i64 0, .int .i64 0, .int .i64 0, .int .i64 0, .int .i64 0, .int .i64 0, .int .i64 0] := ⟨.agg #[.int .i64 0, .int .i64 0, .int .i64 0, .int .i64 0, .int .i64 0, .int .i64 0, .bool false, .bool false, .int .i64 0, .int .i64 0, .int .i64 0, .int .i64 0, .int .i64 0, .int .i64 0, .int .i64 0, .int .i64 0, .int .i64 0, .int .i64 0, .int .i64 0, .int .i64 0, .int .i64 0, .int .i64 0, .int .i64 0, .int .i64 0, .int .i64 0, .int .i64 0, .int .i64 0, .int .i64 0, .int .i64 0, .int .i64 0, .int .i64 0, .int .i64 0, .int .i64 0, .int .i64 0, .int .i64 0, .int .i64 0, .int .i64 0, .int .i64 0, .int .i64 0, .int .i64 0, .int .i64 0, .int .i64 0, .int .i64 0, .int .i64 0, .int .i64 0, .int .i64 0, .int .i64 0, .int .i64 0, .int .i64 0, .int .i64 0, .int .i64 0, .int .i64 0, .int .i64 0, .int .i64 0, .int .i64 0, .int .i64 0, .int .i64 0, .int .i64 0, .int .i64 0, .int .i64 0], by kernel_rfl, rfl⟩
instance : TRow Tryd.prog 29 60 := ⟨⟨_, Tryd.underlying29, rfl⟩, by kernel_rfl⟩
instance : TFld Tryd.prog 29 0 0 := ⟨_, _, 0, Tryd.underlying29, rfl, rfl, by kernel_rfl⟩
instance : TFld Tryd.prog 29 1 1 := ⟨_, _, 0, Tryd.underlying29, rfl, rfl, by kernel_rfl⟩
instance : TFld Tryd.prog 29 2 2 := ⟨_, _, 0, Tryd.underlying29, rfl, rfl, by kernel_rfl⟩
instance : TFld Tryd.prog 29 3 3 := ⟨_, _, 0, Tryd.underlying29, rfl, rfl, by kernel_rfl⟩
instance : TFld Tryd.prog 29 4 4 := ⟨_, _, 0, Tryd.underlying29, rfl, rfl, by kernel_rfl⟩
instance : TFld Tryd.prog 29 5 5 := ⟨_, _, 0, Tryd.underlying29, rfl, rfl, by kernel_rfl⟩
instance : TFld Tryd.prog 29 6 6 := ⟨_, _, 0, Tryd.underlying29, rfl, rfl, by kernel_rfl⟩
instance : TFld Tryd.prog 29 7 7 := ⟨_, _, 0, Tryd.underlying29, rfl, rfl, by kernel_rfl⟩
instance : TFld Tryd.prog 29 8 8 := ⟨_, _, 0, Tryd.underlying29, rfl, rfl, by kernel_rfl⟩
instance : TFld Tryd.prog 29 9 9 := ⟨_, _, 0, Tryd.underlying29, rfl, rfl, by kernel_rfl⟩
instance : TFld Tryd.prog 29 10 10 := ⟨_, _, 0, Tryd.underlying29, rfl, rfl, by kernel_rfl⟩
instance : TFld Tryd.prog 29 11 11 := ⟨_, _, 1, Tryd.underlying29, rfl, rfl, by kernel_rfl⟩
instance : TFld Tryd.prog 29 12 13 := ⟨_, _, 1, Tryd.underlying29, rfl, rfl, by kernel_rfl⟩
instance : TFld Tryd.prog 29 13 15 := ⟨_, _, 1, Tryd.underlying29, rfl, rfl, by kernel_rfl⟩
instance : TFld Tryd.prog 29 14 17 := ⟨_, _, 1, Tryd.underlying29, rfl, rfl, by kernel_rfl⟩
instance : TFld Tryd.prog 29 15 19 := ⟨_, _, 1, Tryd.underlying29, rfl, rfl, by kernel_rfl⟩
instance : TFld Tryd.prog 29 16 21 := ⟨_, _, 1, Tryd.underlying29, rfl, rfl, by kernel_rfl⟩
instance : TFld Tryd.prog 29 17 23 := ⟨_, _, 1, Tryd.underlying29, rfl, rfl, by kernel_rfl⟩
instance : TFld Tryd.prog 29 18 25 := ⟨_, _, 0, Tryd.underlying29, rfl, rfl, by kernel_rfl⟩
instance : TFld Tryd.prog 29 19 26 := ⟨_, _, 11, Tryd.underlying29, rfl, rfl, by kernel_rfl⟩
instance : TFld Tryd.prog 29 20 38 := ⟨_, _, 11, Tryd.underlying29, rfl, rfl, by kernel_rfl⟩
instance : TFld Tryd.prog 29 21 50 := ⟨_, _, 3, Tryd.underlying29, rfl, rfl, by kernel_rfl⟩
instance : TFld Tryd.prog 29 22 54 := ⟨_, _, 3, Tryd.underlying29, rfl, rfl, by kernel_rfl⟩
instance : TFld Tryd.prog 29 23 58 := ⟨_, _, 0, Tryd.underlying29, rfl, rfl, by kernel_rfl⟩
instance : TFld Tryd.prog 29 24 59 := ⟨_, _, 0, Tryd.underlying29, rfl, rfl, by kernel_rfl⟩
instance : TEq Tryd.prog 29 [0, 0, 0, 0, 0, 0, 1, 1, 0, 0, 0, 0, 0, 0, 0, 0, 0, 0, 0, 0, 0, 0, 0, 0, 0, 0, 0, 0, 0, 0, 0, 0, 0, 0, 0, 0, 0, 0, 0, 0, 0, 0, 0, 0, 0, 0, 0, 0, 0, 0, 0, 0, 0, 0, 0, 0, 0, 0, 0, 0] := ⟨by kernel_rfl, by kernel_rfl, _, Tryd.underlying29⟩
instance : TEl Tryd.prog 29 60 472 (.agg #[.int .i64 0, .int .i64 0, .int .i64 0, .int .i64 0, .int .i64 0, .int .i64 0, .bool false, .bool false, .int .i64 0, .int .i64 0, .int .i64 0, .int .i64 0, .int .i64 0, .int .i64 0, .int .i64 0, .int .i64 0, .int .i64 0, .int .i64 0, .int .i64 0, .int .i64 0, .int .i64 0, .int .i64 0, .int .i64 0, .int .i64 0, .int .i64 0, .int .i64 0, .int .i64 0, .int .i64 0, .int .i64 0, .int .i64 0, .int .i64 0, .int .i64 0, .int .i64 0, .int .i64 0, .int .i64 0, .int .i64 0, .int .i64 0, .int .i64 0, .int .i64 0, .int .i64 0, .int .i64 0, .int .i64 0, .int .i64 0, .int .i64 0, .int .i64 0, .int .i64 0, .int .i64 0, .int .i64 0, .int .i64 0, .int .i64 0, .int .i64 0, .int .i64 0, .int .i64 0, .int .i64 0, .int .i64 0, .int .i64 0, .int .i64 0, .int .i64 0, .int .i64 0, .int .i64 0]) := ⟨by kernel_rfl, rfl, by decide⟩
instance : TZero Tryd.prog 29 [.int .i64 0, .int .i64 0, .int .i64 0, .int .i64 0, .int .i64 0, .int .i64 0, .bool false, .bool false, .int .i64 0, .int .i64 0, .int .i64 0, .int .i64 0, .int .i64 0, .int .i64 0, .int .i64 0, .int .i64 0, .int .i64 0, .int .i64 0, .int .i64 0, .int .i64 0, .int .i64 0, .int .i64 0, .int .i64 0, .int .i64 0, .int .i64 0, .int .i64 0, .int .i64 0, .int .i64 0, .int .i64 0, .int .i64 0, .int .i64 0, .int .i64 0, .int .i64 0, .int .i64 0, .int .i64 0, .int .i64 0, .int .i64 0, .int .i64 0, .int .i64 0, .int .i64 0, .int .i64 0, .int .i64 0, .int .i64 0, .int .i64 0, .int .i64 0, .int .i64 0, .int .i64 0, .int .i64 0, .int .i64 0, .int .i64 0, .int .i64 0, .int .i64 0, .int .i64 0, .int .i64 0, .int .i64 0, .int .i64 0, .int .i64 0, .int .i64 0, .int .i64 0, .int .i64 0] := ⟨.agg #[.int .i64 0, .int .i64 0, .int .i64 0, .int .i64 0, .int .i64 0, .int .i64 0, .bool false, .bool false, .int .i64 0, .int .i64 0, .int .i64 0, .int .i64 0, .int .i64 0, .int .i64 0, .int .i64 0, .int .i64 0, .int .i64 0, .int .i64 0, .int .i64 0, .int .i64 0, .int .i64 0, .int .i64 0, .int .i64 0, .int .i64 0, .int .i64 0, .int .i64 0, .int .i64 0, .int .i64 0, .int .i64 0, .int .i64 0, .int .i64 0, .int .i64 0, .int .i64 0, .int .i64 0, .int .i64 0, .int .i64 0, .int .i64 0, .int .i64 0, .int .i64 0, .int .i64 0, .int .i64 0, .int .i64 0, .int .i64 0, .int .i64 0, .int .i64 0, .int .i64 0, .int .i64 0, .int .i64 0, .int .i64 0, .int .i64 0, .int .i64 0, .int .i64 0, .int .i64 0, .int .i64 0, .int .i64 0, .int .i64 0, .int .i64 0, .int .i64 0, .int .i64 0, .int .i64 0], by kernel_rfl, rfl⟩
instance : TOne Tryd.prog 30 := ⟨⟨_, Tryd.underlying30, rfl⟩, by kernel_rfl⟩
instance : TSl Tryd.prog 30 9 1 := ⟨Tryd.underlying30, by kernel_rfl⟩
instance : TEl Tryd.prog 30 1 24 (.slice none 0 0) := ⟨by kernel_rfl, rfl, by decide⟩
instance : TZero Tryd.prog 30 [.slice none 0 0] := ⟨.slice none 0 0, by kernel_rfl, rfl⟩
instance : TRow Tryd.prog 32 2 := ⟨⟨_, Tryd.underlying32, rfl⟩, by kernel_rfl⟩
instance : TFld Tryd.prog 32 0 0 := ⟨_, _, 0, Tryd.underlying32, rfl, rfl, by kernel_rfl⟩
instance : TFld Tryd.prog 32 1 1 := ⟨_, _, 0, Tryd.underlying32, rfl, rfl, by kernel_rfl⟩
instance : TEq Tryd.prog 32 [0, 0] := ⟨by kernel_rfl, by kernel_rfl, _, Tryd.underlying32⟩
instance : TEl Tryd.prog 32 2 16 (.agg #[.int .i64 0, .int .i64 0]) := ⟨by kernel_rfl, rfl, by decide⟩
instance : TZero Tryd.prog 32 [.int .i64 0, .int .i64 0] := ⟨.agg #[.int .i64 0, .int .i64 0], by kernel_rfl, rfl⟩
instance : TRow Tryd.prog 33 12 := ⟨⟨_, Tryd.underlying33, rfl⟩, by kernel_rfl⟩
instance : TFld Tryd.prog 33 0 0 := ⟨_, _, 1, Tryd.underlying33, rfl, rfl, by kernel_rfl⟩
instance : TFld Tryd.prog 33 1 2 := ⟨_, _, 1, Tryd.underlying33, rfl, rfl, by kernel_rfl⟩
instance : TFld Tryd.prog 33 2 4 := ⟨_, _, 1, Tryd.underlying33, rfl, rfl, by kernel_rfl⟩
instance : TFld Tryd.prog 33 3 6 := ⟨_, _, 1, Tryd.underlying33, rfl, rfl, by kernel_rfl⟩
instance : TFld Tryd.prog 33 4 8 := ⟨_, _, 1, Tryd.underlying33, rfl, rfl, by kernel_rfl⟩
instance : TFld Tryd.prog 33 5 10 := ⟨_, _, 1, Tryd.underlying33, rfl, rfl, by kernel_rfl⟩
instance : TEq Tryd.prog 33 [0, 0, 0, 0, 0, 0, 0, 0, 0, 0, 0, 0] := ⟨by kernel_rfl, by kernel_rfl, _, Tryd.underlying33⟩
instance : TEl Tryd.prog 33 12 96 (.agg #[.int .i64 0, .int .i64 0, .int .i64 0, .int .i64 0, .int .i64 0, .int .i64 0, .int .i64 0, .int .i64 0, .int .i64 0, .int .i64 0, .int .i64 0, .int .i64 0]) := ⟨by kernel_rfl, rfl, by decide⟩
instance : TZero Tryd.prog 33 [.int .i64 0, .int .i64 0, .int .i64 0, .int .i64 0, .int .i64 0, .int .i64 0, .int .i64 0, .int .i64 0, .int .i64 0, .int .i64 0, .int .i64 0, .int .i64 0] := ⟨.agg #[.int .i64 0, .int .i64 0, .int .i64 0, .int .i64 0, .int .i64 0, .int .i64 0, .int .i64 0, .int .i64 0, .int .i64 0, .int .i64 0, .int .i64 0, .int .i64 0], by kernel_rfl, rfl⟩
instance : TRow Tryd.prog 34 12 := ⟨⟨_, Tryd.underlying34, rfl⟩, by kernel_rfl⟩
instance : TFld Tryd.prog 34 0 0 := ⟨_, _, 1, Tryd.underlying34, rfl, rfl, by kernel_rfl⟩
instance : TFld Tryd.prog 34 1 2 := ⟨_, _, 1, Tryd.underlying34, rfl, rfl, by kernel_rfl⟩
instance : TFld Tryd.prog 34 2 4 := ⟨_, _, 1, Tryd.underlying34, rfl, rfl, by kernel_rfl⟩
instance : TFld Tryd.prog 34 3 6 := ⟨_, _, 1, Tryd.underlying34, rfl, rfl, by kernel_rfl⟩
instance : TFld Tryd.prog 34 4 8 := ⟨_, _, 1, Tryd.underlying34, rfl, rfl, by kernel_rfl⟩
instance : TFld Tryd.prog 34 5 10 := ⟨_, _, 1, Tryd.underlying34, rfl, rfl, by kernel_rfl⟩
instance : TEq Tryd.prog 34 [0, 0, 0, 0, 0, 0, 0, 0, 0, 0, 0, 0] := ⟨by kernel_rfl, by kernel_rfl, _, Tryd.underlying34⟩
instance : TEl Tryd.prog 34 12 96 (.agg #[.int .i64 0, .int .i64 0, .int .i64 0, .int .i64 0, .int .i64 0, .int .i64 0, .int .i64 0, .int .i64 0, .int .i64 0, .int .i64 0, .int .i64 0, .int .i64 0]) := ⟨by kernel_rfl, rfl, by decide⟩
instance : TZero Tryd.prog 34 [.int .i64 0, .int .i64 0, .int .i64 0, .int .i64 0, .int .i64 0, .int .i64 0, .int .i64 0, .int .i64 0, .int .i64 0, .int .i64 0, .int .i64 0, .int .i64 0] := ⟨.agg #[.int .i64 0, .int .i64 0, .int .i64 0, .int .i64 0, .int .i64 0, .int .i64 0, .int .i64 0, .int .i64 0, .int .i64 0, .int .i64 0, .int .i64 0, .int .i64 0], by kernel_rfl, rfl⟩
instance : TRow Tryd.prog 35 4 := ⟨⟨_, Tryd.underlying35, rfl⟩, by kernel_rfl⟩
instance : TFld Tryd.prog 35 0 0 := ⟨_, _, 0, Tryd.underlying35, rfl, rfl, by kernel_rfl⟩
instance : TFld Tryd.prog 35 1 1 := ⟨_, _, 0, Tryd.underlying35, rfl, rfl, by kernel_rfl⟩
instance : TFld Tryd.prog 35 2 2 := ⟨_, _, 0, Tryd.underlying35, rfl, rfl, by kernel_rfl⟩
instance : TFld Tryd.prog 35 3 3 := ⟨_, _, 0, Tryd.underlying35, rfl, rfl, by kernel_rfl⟩
instance : TEq Tryd.prog 35 [0, 0, 0, 0] := ⟨by kernel_rfl, by kernel_rfl, _, Tryd.underlying35⟩
instance : TEl Tryd.prog 35 4 32 (.agg #[.int .i64 0, .int .i64 0, .int .i64 0, .int .i64 0]) := ⟨by kernel_rfl, rfl, by decide⟩
instance : TZero Tryd.prog 35 [.int .i64 0, .int .i64 0, .int .i64 0, .int .i64 0] := ⟨.agg #[.int .i64 0, .int .i64 0, .int .i64 0, .int .i64 0], by kernel_rfl, rfl⟩
instance : TRow Tryd.prog 36 60 := ⟨⟨_, Tryd.underlying36, rfl⟩, by kernel_rfl⟩
instance : TFld Tryd.prog 36 0 0 := ⟨_, _, 0, Tryd.underlying36, rfl, rfl, by kernel_rfl⟩
instance : TFld Tryd.prog 36 1 1 := ⟨_, _, 0, Tryd.underlying36, rfl, rfl, by kernel_rfl⟩
instance : TFld Tryd.prog 36 2 2 := ⟨_, _, 0, Tryd.underlying36, rfl, rfl, by kernel_rfl⟩
instance : TFld Tryd.prog 36 3 3 := ⟨_, _, 0, Tryd.underlying36, rfl, rfl, by kernel_rfl⟩
instance : TFld Tryd.prog 36 4 4 := ⟨_, _, 0, Tryd.underlying36, rfl, rfl, by kernel_rfl⟩
instance : TFld Tryd.prog 36 5 5 := ⟨_, _, 0, Tryd.underlying36, rfl, rfl, by kernel_rfl⟩
instance : TFld Tryd.prog 36 6 6 := ⟨_, _, 0, Tryd.underlying36, rfl, rfl, by kernel_rfl⟩
instance : TFld Tryd.prog 36 7 7 := ⟨_, _, 0, Tryd.underlying36, rfl, rfl, by kernel_rfl⟩
instance : TFld Tryd.prog 36 8 8 := ⟨_, _, 0, Tryd.underlying36, rfl, rfl, by kernel_rfl⟩
instance : TFld Tryd.prog 36 9 9 := ⟨_, _, 0, Tryd.underlying36, rfl, rfl, by kernel_rfl⟩
instance : TFld Tryd.prog 36 10 10 := ⟨_, _, 0, Tryd.underlying36, rfl, rfl, by kernel_rfl⟩
instance : TFld Tryd.prog 36 11 11 := ⟨_, _, 1, Tryd.underlying36, rfl, rfl, by kernel_rfl⟩
instance : TFld Tryd.prog 36 12 13 := ⟨_, _, 1, Tryd.underlying36, rfl, rfl, by kernel_rfl⟩
instance : TFld Tryd.prog 36 13 15 := ⟨_, _, 1, Tryd.underlying36, rfl, rfl, by kernel_rfl⟩
instance : TFld Tryd.prog 36 14 17 := ⟨_, _, 1, Tryd.underlying36, rfl, rfl, by kernel_rfl⟩
instance : TFld Tryd.prog 36 15 19 := ⟨_, _, 1, Tryd.underlying36, rfl, rfl, by kernel_rfl⟩
instance : TFld Tryd.prog 36 16 21 := ⟨_, _, 1, Tryd.underlying36, rfl, rfl, by kernel_rfl⟩
instance : TFld Tryd.prog 36 17 23 := ⟨_, _, 1, Tryd.underlying36, rfl, rfl, by kernel_rfl⟩
instance : TFld Tryd.prog 36 18 25 := ⟨_, _, 0, Tryd.underlying36, rfl, rfl, by kernel_rfl⟩
instance : TFld Tryd.prog 36 19 26 := ⟨_, _, 11, Tryd.underlying36, rfl, rfl, by kernel_rfl⟩
instance : TFld Tryd.prog 36 20 38 := ⟨_, _, 11, Tryd.underlying36, rfl, rfl, by kernel_rfl⟩
instance : TFld Tryd.prog 36 21 50 := ⟨_, _, 3, Tryd.underlying36, rfl, rfl, by kernel_rfl⟩
instance : TFld Tryd.prog 36 22 54 := ⟨_, _, 3, Tryd.underlying36, rfl, rfl, by kernel_rfl⟩
instance : TFld Tryd.prog 36 23 58 := ⟨_, _, 0, Tryd.underlying36, rfl, rfl, by kernel_rfl⟩
instance : TFld Tryd.prog 36 24 59 := ⟨_, _, 0, Tryd.underlying36, rfl, rfl, by kernel_rfl⟩
instance : TEq Tryd.prog 36 [0, 0, 0, 0, 0, 0, 1, 1, 0, 0, 0, 0, 0, 0, 0, 0, 0, 0, 0, 0, 0, 0, 0, 0, 0, 0, 0, 0, 0, 0, 0, 0, 0, 0, 0, 0, 0, 0, 0, 0, 0, 0, 0, 0, 0, 0, 0, 0, 0, 0, 0, 0, 0, 0, 0, 0, 0, 0, 0, 0] := ⟨by kernel_rfl, by kernel_rfl, _, Tryd.underlying36⟩
instance : TEl Tryd.prog 36 60 472 (.agg #[.int .i64 0, .int .i64 0, .int .i64 0, .int .i64 0, .int .i64 0, .int .i64 0, .bool false, .bool false, .int .i64 0, .int .i64 0, .int .i64 0, .int .i64 0, .int .i64 0, .int .i64 0, .int .i64 0, .int .i64 0, .int .i64 0, .int .i64 0, .int .i64 0, .int .i64 0, .int .i64 0, .int .i64 0, .int .i64 0, .int .i64 0, .int .i64 0, .int .i64 0, .int .i64 0, .int .i64 0, .int .i64 0, .int .i64 0, .int .i64 0, .int .i64 0, .int .i64 0, .int .i64 0, .int .i64 0, .int .i64 0, .int .i64 0, .int .i64 0, .int .i64 0, .int .i64 0, .int .i64 0, .int .i64 0, .int .i64 0, .int .i64 0, .int .i64 0, .int .i64 0, .int .i64 0, .int .i64 0, .int .i64 0, .int .i64 0, .int .i64 0, .int .i64 0, .int .i64 0, .int .i64 0, .int .i64 0, .int .i64 0, .int .i64 0, .int .i64 0, .int .i64 0, .int .i64 0]) := ⟨by kernel_rfl, rfl, by decide⟩
instance : TZero Tryd.prog 36 [.int .i64 0, .int .i64 0, .int .i64 0, .int .i64 0, .int .i64 0, .int .i64 0, .bool false, .bool false, .int .i64 0, .int .i64 0, .int .i64 0, .int .i64 0, .int .i64 0, .int .i64 0, .int .i64 0, .int .i64 0, .int .i64 0, .int .i64 0, .int .i64 0, .int .i64 0, .int .i64 0, .int .i64 0, .int .i64 0, .int .i64 0, .int .i64 0, .int .i64 0, .int .i64 0, .int .i64 0, .int .i64 0, .int .i64 0, .int .i64 0, .int .i64 0, .int .i64 0, .int .i64 0, .int .i64 0, .int .i64 0, .int .i64 0, .int .i64 0, .int .i64 0, .int .i64 0, .int .i64 0, .int .i64 0, .int .i64 0, .int .i64 0, .int .i64 0, .int .i64 0, .int .i64 0, .int .i64 0, .int .i64 0, .int .i64 0, .int .i64 0, .int .i64 0, .int .i64 0, .int .i64 0, .int .i64 0, .int .i64 0, .int .i64 0, .int .i64 0, .int .i64 0, .int .i64 0] := ⟨.agg #[.int .i64 0, .int .i64 0, .int .i64 0, .int .i64 0, .int .i64 0, .int .i64 0, .bool false, .bool false, .int .i64 0, .int .i64 0, .int .i64 0, .int .i64 0, .int .i64 0, .int .i64 0, .int .i64 0, .int .i64 0, .int .i64 0, .int .i64 0, .int .i64 0, .int .i64 0, .int .i64 0, .int .i64 0, .int .i64 0, .int .i64 0, .int .i64 0, .int .i64 0, .int .i64 0, .int .i64 0, .int .i64 0, .int .i64 0, .int .i64 0, .int .i64 0, .int .i64 0, .int .i64 0, .int .i64 0, .int .i64 0, .int .i64 0, .int .i64 0, .int .i64 0, .int .i64 0, .int .i64 0, .int .i64 0, .int .i64 0, .int .i64 0, .int .i64 0, .int .i64 0, .int .i64 0, .int .i64 0, .int .i64 0, .int .i64 0, .int .i64 0, .int .i64 0, .int .i64 0, .int .i64 0, .int .i64 0, .int .i64 0, .int .i64 0, .int .i64 0, .int .i64 0, .int .i64 0], by kernel_rfl, rfl⟩
instance : TRow Tryd.prog 37 60 := ⟨⟨_, Tryd.underlying37, rfl⟩, by kernel_rfl⟩
instance : TFld Tryd.prog 37 0 0 := ⟨_, _, 0, Tryd.underlying37, rfl, rfl, by kernel_rfl⟩
instance : TFld Tryd.prog 37 1 1 := ⟨_, _, 0, Tryd.underlying37, rfl, rfl, by kernel_rfl⟩
instance : TFld Tryd.prog 37 2 2 := ⟨_, _, 0, Tryd.underlying37, rfl, rfl, by kernel_rfl⟩
instance : TFld Tryd.prog 37 3 3 := ⟨_, _, 0, Tryd.underlying37, rfl, rfl, by kernel_rfl⟩
instance : TFld Tryd.prog 37 4 4 := ⟨_, _, 0, Tryd.underlying37, rfl, rfl, by kernel_rfl⟩
instance : TFld Tryd.prog 37 5 5 := ⟨_, _, 0, Tryd.underlying37, rfl, rfl, by kernel_rfl⟩
instance : TFld Tryd.prog 37 6 6 := ⟨_, _, 0, Tryd.underlying37, rfl, rfl, by kernel_rfl⟩
instance : TFld Tryd.prog 37 7 7 := ⟨_, _, 0, Tryd.underlying37, rfl, rfl, by kernel_rfl⟩
instance : TFld Tryd.prog 37 8 8 := ⟨_, _, 0, Tryd.underlying37, rfl, rfl, by kernel_rfl⟩
instance : TFld Tryd.prog 37 9 9 := ⟨_, _, 0, Tryd.underlying37, rfl, rfl, by kernel_rfl⟩
instance : TFld Tryd.prog 37 10 10 := ⟨_, _, 0, Tryd.underlying37, rfl, rfl, by kernel_rfl⟩
instance : TFld Tryd.prog 37 11 11 := ⟨_, _, 1, Tryd.underlying37, rfl, rfl, by kernel_rfl⟩
instance : TFld Tryd.prog 37 12 13 := ⟨_, _, 1, Tryd.underlying37, rfl, rfl, by kernel_rfl⟩
instance : TFld Tryd.prog 37 13 15 := ⟨_, _, 1, Tryd.underlying37, rfl, rfl, by kernel_rfl⟩
instance : TFld Tryd.prog 37 14 17 := ⟨_, _, 1, Tryd.underlying37, rfl, rfl, by kernel_rfl⟩
instance : TFld Tryd.prog 37 15 19 := ⟨_, _, 1, Tryd.underlying37, rfl, rfl, by kernel_rfl⟩
instance : TFld Tryd.prog 37 16 21 := ⟨_, _, 1, Tryd.underlying37, rfl, rfl, by kernel_rfl⟩
instance : TFld Tryd.prog 37 17 23 := ⟨_, _, 1, Tryd.underlying37, rfl, rfl, by kernel_rfl⟩
instance : TFld Tryd.prog 37 18 25 := ⟨_, _, 0, Tryd.underlying37, rfl, rfl, by kernel_rfl⟩
instance : TFld Tryd.prog 37 19 26 := ⟨_, _, 11, Tryd.underlying37, rfl, rfl, by kernel_rfl⟩
instance : TFld Tryd.prog 37 20 38 := ⟨_, _, 11, Tryd.underlying37, rfl, rfl, by kernel_rfl⟩
instance : TFld Tryd.prog 37 21 50 := ⟨_, _, 3, Tryd.underlying37, rfl, rfl, by kernel_rfl⟩
instance : TFld Tryd.prog 37 22 54 := ⟨_, _, 3, Tryd.underlying37, rfl, rfl, by kernel_rfl⟩
instance : TFld Tryd.prog 37 23 58 := ⟨_, _, 0, Tryd.underlying37, rfl, rfl, by kernel_rfl⟩
instance : TFld Tryd.prog 37 24 59 := ⟨_, _, 0, Tryd.underlying37, rfl, rfl, by kernel_rfl⟩
instance : TEq Tryd.prog 37 [0, 0, 0, 0, 0, 0, 1, 1, 0, 0, 0, 0, 0, 0, 0, 0, 0, 0, 0, 0, 0, 0, 0, 0, 0, 0, 0, 0, 0, 0, 0, 0, 0, 0, 0, 0, 0, 0, 0, 0, 0, 0, 0, 0, 0, 0, 0, 0, 0, 0, 0, 0, 0, 0, 0, 0, 0, 0, 0, 0] := ⟨by kernel_rfl, by kernel_rfl, _, Tryd.underlying37⟩
instance : TEl Tryd.prog 37 60 472 (.agg #[.int .i64 0, .int .i64 0, .int .i64 0, .int .i64 0, .int .i64 0, .int .i64 0, .bool false, .bool false, .int .i64 0, .int .i64 0, .int .i64 0, .int .i64 0, .int .i64 0, .int .i64 0, .int .i64 0, .int .i64 0, .int .i64 0, .int .i64 0, .int .i64 0, .int .i64 0, .int .i64 0, .int .i64 0, .int .i64 0, .int .i64 0, .int .i64 0, .int .i64 0, .int .i64 0, .int .i64 0, .int .i64 0, .int .i64 0, .int .i64 0, .int .i64 0, .int .i64 0, .int .i64 0, .int .i64 0, .int .i64 0, .int .i64 0, .int .i64 0, .int .i64 0, .int .i64 0, .int .i64 0, .int .i64 0, .int .i64 0, .int .i64 0, .int .i64 0, .int .i64 0, .int .i64 0, .int .i64 0, .int .i64 0, .int .i64 0, .int .i64 0, .int .i64 0, .int .i64 0, .int .i64 0, .int .i64 0, .int .i64 0, .int .i64 0, .int .i64 0, .int .i64 0, .int .i64 0]) := ⟨by kernel_rfl, rfl, by decide⟩
instance : TZero Tryd.prog 37 [.int .i64 0, .int .i64 0, .int .i64 0, .int .i64 0, .int .i64 0, .int .i64 0, .bool false, .bool false, .int .i64 0, .int .i64 0, .int .i64 0, .int .i64 0, .int .i64 0, .int .i64 0, .int .i64 0, .int .i64 0, .int .i64 0, .int .i64 0, .int .i64 0, .int .i64 0, .int .i64 0, .int .i64 0, .int .i64 0, .int .i64 0, .int .i64 0, .int .i64 0, .int .i64 0, .int .i64 0, .int .i64 0, .int .i64 0, .int .i64 0, .int .i64 0, .int .i64 0, .int .i64 0, .int .i64 0, .int .i64 0, .int .i64 0, .int .i64 0, .int .i64 0, .int .i64 0, .int .i64 0, .int .i64 0, .int .i64 0, .int .i64 0, .int .i64 0, .int .i64 0, .int .i64 0, .int .i64 0, .int .i64 0, .int .i64 0, .int .i64 0, .int .i64 0, .int .i64 0, .int .i64 0, .int .i64 0, .int .i64 0, .int .i64 0, .int .i64 0, .int .i64 0, .int .i64 0] := ⟨.agg #[.int .i64 0, .int .i64 0, .int .i64 0, .int .i64 0, .int .i64 0, .int .i64 0, .bool false, .bool false, .int .i64 0, .int .i64 0, .int .i64 0, .int .i64 0, .int .i64 0, .int .i64 0, .int .i64 0, .int .i64 0, .int .i64 0, .int .i64 0, .int .i64 0, .int .i64 0, .int .i64 0, .int .i64 0, .int .i64 0, .int .i64 0, .int .i64 0, .int .i64 0, .int .i64 0, .int .i64 0, .int .i64 0, .int .i64 0, .int .i64 0, .int .i64 0, .int .i64 0, .int .i64 0, .int .i64 0, .int .i64 0, .int .i64 0, .int .i64 0, .int .i64 0, .int .i64 0, .int .i64 0, .int .i64 0, .int .i64 0, .int .i64 0, .int .i64 0, .int .i64 0, .int .i64 0, .int .i64 0, .int .i64 0, .int .i64 0, .int .i64 0, .int .i64 0, .int .i64 0, .int .i64 0, .int .i64 0, .int .i64 0, .int .i64 0, .int .i64 0, .int .i64 0, .int .i64 0], by kernel_rfl, rfl⟩
instance : TOne Tryd.prog 47 := ⟨⟨_, Tryd.underlying47, rfl⟩, by kernel_rfl⟩
instance : TSl Tryd.prog 47 5 1 := ⟨Tryd.underlying47, by kernel_rfl⟩
instance : TEl Tryd.prog 47 1 24 (.slice none 0 0) := ⟨by kernel_rfl, rfl, by decide⟩
instance : TZero Tryd.prog 47 [.slice none 0 0] := ⟨.slice none 0 0, by kernel_rfl, rfl⟩
instance : TOne Tryd.prog 58 := ⟨⟨_, Tryd.underlying58, rfl⟩, by kernel_rfl⟩
instance : TSl Tryd.prog 58 127 3 := ⟨Tryd.underlying58, by kernel_rfl⟩
instance : TEl Tryd.prog 58 1 24 (.slice none 0 0) := ⟨by kernel_rfl, rfl, by decide⟩
instance : TZero Tryd.prog 58 [.slice none 0 0] := ⟨.slice none 0 0, by kernel_rfl, rfl⟩
instance : TRow Tryd.prog 59 1 := ⟨⟨_, Tryd.underlying59, rfl⟩, by kernel_rfl⟩
instance : TFld Tryd.prog 59 0 0 := ⟨_, _, 0, Tryd.underlying59, rfl, rfl, by kernel_rfl⟩
instance : TEl Tryd.prog 59 1 24 (.agg #[.slice none 0 0]) := ⟨by kernel_rfl, rfl, by decide⟩
instance : TZero Tryd.prog 59 [.slice none 0 0] := ⟨.agg #[.slice none 0 0], by kernel_rfl, rfl⟩
instance : TRow Tryd.prog 60 1 := ⟨⟨_, Tryd.underlying60, rfl⟩, by kernel_rfl⟩
instance : TFld Tryd.prog 60 0 0 := ⟨_, _, 0, Tryd.underlying60, rfl, rfl, by kernel_rfl⟩
instance : TEl Tryd.prog 60 1 24 (.agg #[.slice none 0 0]) := ⟨by kernel_rfl, rfl, by decide⟩
instance : TZero Tryd.prog 60 [.slice none 0 0] := ⟨.agg #[.slice none 0 0], by kernel_rfl, rfl⟩
instance : TOne Tryd.prog 66 := ⟨⟨_, Tryd.underlying66, rfl⟩, by kernel_rfl⟩
instance : TSl Tryd.prog 66 194 3 := ⟨Tryd.underlying66, by kernel_rfl⟩
instance : TEl Tryd.prog 66 1 24 (.slice none 0 0) := ⟨by kernel_rfl, rfl, by decide⟩
instance : TZero Tryd.prog 66 [.slice none 0 0] := ⟨.slice none 0 0, by kernel_rfl, rfl⟩
instance : TRow Tryd.prog 67 1 := ⟨⟨_, Tryd.underlying67, rfl⟩, by kernel_rfl⟩
instance : TFld Tryd.prog 67 0 0 := ⟨_, _, 0, Tryd.underlying67, rfl, rfl, by kernel_rfl⟩
instance : TEl Tryd.prog 67 1 24 (.agg #[.slice none 0 0]) := ⟨by kernel_rfl, rfl, by decide⟩
instance : TZero Tryd.prog 67 [.slice none 0 0] := ⟨.agg #[.slice none 0 0], by kernel_rfl, rfl⟩
instance : TRow Tryd.prog 68 1 := ⟨⟨_, Tryd.underlying68, rfl⟩, by kernel_rfl⟩
instance : TFld Tryd.prog 68 0 0 := ⟨_, _, 0, Tryd.underlying68, rfl, rfl, by kernel_rfl⟩
instance : TEl Tryd.prog 68 1 24 (.agg #[.slice none 0 0]) := ⟨by kernel_rfl, rfl, by decide⟩
instance : TZero Tryd.prog 68 [.slice none 0 0] := ⟨.agg #[.slice none 0 0], by kernel_rfl, rfl⟩
instance : TRow Tryd.prog 69 11 := ⟨⟨_, Tryd.underlying69, rfl⟩, by kernel_rfl⟩
instance : TFld Tryd.prog 69 0 0 := ⟨_, _, 0, Tryd.underlying69, rfl, rfl, by kernel_rfl⟩
instance : TFld Tryd.prog 69 1 1 := ⟨_, _, 0, Tryd.underlying69, rfl, rfl, by kernel_rfl⟩
instance : TFld Tryd.prog 69 2 2 := ⟨_, _, 0, Tryd.underlying69, rfl, rfl, by kernel_rfl⟩
instance : TFld Tryd.prog 69 3 3 := ⟨_, _, 0, Tryd.underlying69, rfl, rfl, by kernel_rfl⟩
instance : TFld Tryd.prog 69 4 4 := ⟨_, _, 0, Tryd.underlying69, rfl, rfl, by kernel_rfl⟩
instance : TFld Tryd.prog 69 5 5 := ⟨_, _, 1, Tryd.underlying69, rfl, rfl, by kernel_rfl⟩
instance : TFld Tryd.prog 69 6 7 := ⟨_, _, 0, Tryd.underlying69, rfl, rfl, by kernel_rfl⟩
instance : TFld Tryd.prog 69 7 8 := ⟨_, _, 0, Tryd.underlying69, rfl, rfl, by kernel_rfl⟩
instance : TFld Tryd.prog 69 8 9 := ⟨_, _, 0, Tryd.underlying69, rfl, rfl, by kernel_rfl⟩
instance : TFld Tryd.prog 69 9 10 := ⟨_, _, 0, Tryd.underlying69, rfl, rfl, by kernel_rfl⟩
instance : TEl Tryd.prog 69 11 112 (.agg #[.int .i64 0, .int .i64 0, .int .i64 0, .int .i64 0, .string ⟨#[]⟩, .int .i64 0, .int .i64 0, .slice none 0 0, .int .i64 0, .int .i64 0, .bool false]) := ⟨by kernel_rfl, rfl, by decide⟩
instance : TZero Tryd.prog 69 [.int .i64 0, .int .i64 0, .int .i64 0, .int .i64 0, .string ⟨#[]⟩, .int .i64 0, .int .i64 0, .slice none 0 0, .int .i64 0, .int .i64 0, .bool false] := ⟨.agg #[.int .i64 0, .int .i64 0, .int .i64 0, .int .i64 0, .string ⟨#[]⟩, .int .i64 0, .int .i64 0, .slice none 0 0, .int .i64 0, .int .i64 0, .bool false], by kernel_rfl, rfl⟩
instance : TRow Tryd.prog 70 11 := ⟨⟨_, Tryd.underlying70, rfl⟩, by kernel_rfl⟩
instance : TFld Tryd.prog 70 0 0 := ⟨_, _, 0, Tryd.underlying70, rfl, rfl, by kernel_rfl⟩
instance : TFld Tryd.prog 70 1 1 := ⟨_, _, 0, Tryd.underlying70, rfl, rfl, by kernel_rfl⟩
instance : TFld Tryd.prog 70 2 2 := ⟨_, _, 0, Tryd.underlying70, rfl, rfl, by kernel_rfl⟩
instance : TFld Tryd.prog 70 3 3 := ⟨_, _, 0, Tryd.underlying70, rfl, rfl, by kernel_rfl⟩
instance : TFld Tryd.prog 70 4 4 := ⟨_, _, 0, Tryd.underlying70, rfl, rfl, by kernel_rfl⟩
instance : TFld Tryd.prog 70 5 5 := ⟨_, _, 1, Tryd.underlying70, rfl, rfl, by kernel_rfl⟩
instance : TFld Tryd.prog 70 6 7 := ⟨_, _, 0, Tryd.underlying70, rfl, rfl, by kernel_rfl⟩
instance : TFld Tryd.prog 70 7 8 := ⟨_, _, 0, Tryd.underlying70, rfl, rfl, by kernel_rfl⟩
instance : TFld Tryd.prog 70 8 9 := ⟨_, _, 0, Tryd.underlying70, rfl, rfl, by kernel_rfl⟩
instance : TFld Tryd.prog 70 9 10 := ⟨_, _, 0, Tryd.underlying70, rfl, rfl, by kernel_rfl⟩
instance : TEl Tryd.prog 70 11 112 (.agg #[.int .i64 0, .int .i64 0, .int .i64 0, .int .i64 0, .string ⟨#[]⟩, .int .i64 0, .int .i64 0, .slice none 0 0, .int .i64 0, .int .i64 0, .bool false]) := ⟨by kernel_rfl, rfl, by decide⟩
instance : TZero Tryd.prog 70 [.int .i64 0, .int .i64 0, .int .i64 0, .int .i64 0, .string ⟨#[]⟩, .int .i64 0, .int .i64 0, .slice none 0 0, .int .i64 0, .int .i64 0, .bool false] := ⟨.agg #[.int .i64 0, .int .i64 0, .int .i64 0, .int .i64 0, .string ⟨#[]⟩, .int .i64 0, .int .i64 0, .slice none 0 0, .int .i64 0, .int .i64 0, .bool false], by kernel_rfl, rfl⟩
instance : TRow Tryd.prog 73 11 := ⟨⟨_, Tryd.underlying73, rfl⟩, by kernel_rfl⟩
instance : TFld Tryd.prog 73 0 0 := ⟨_, _, 0, Tryd.underlying73, rfl, rfl, by kernel_rfl⟩
instance : TFld Tryd.prog 73 1 1 := ⟨_, _, 0, Tryd.underlying73, rfl, rfl, by kernel_rfl⟩
instance : TFld Tryd.prog 73 2 2 := ⟨_, _, 0, Tryd.underlying73, rfl, rfl, by kernel_rfl⟩
instance : TFld Tryd.prog 73 3 3 := ⟨_, _, 0, Tryd.underlying73, rfl, rfl, by kernel_rfl⟩
instance : TFld Tryd.prog 73 4 4 := ⟨_, _, 0, Tryd.underlying73, rfl, rfl, by kernel_rfl⟩
instance : TFld Tryd.prog 73 5 5 := ⟨_, _, 1, Tryd.underlying73, rfl, rfl, by kernel_rfl⟩
instance : TFld Tryd.prog 73 6 7 := ⟨_, _, 0, Tryd.underlying73, rfl, rfl, by kernel_rfl⟩
instance : TFld Tryd.prog 73 7 8 := ⟨_, _, 0, Tryd.underlying73, rfl, rfl, by kernel_rfl⟩
instance : TFld Tryd.prog 73 8 9 := ⟨_, _, 0, Tryd.underlying73, rfl, rfl, by kernel_rfl⟩
instance : TFld Tryd.prog 73 9 10 := ⟨_, _, 0, Tryd.underlying73, rfl, rfl, by kernel_rfl⟩
instance : TEl Tryd.prog 73 11 112 (.agg #[.int .i64 0, .int .i64 0, .int .i64 0, .int .i64 0, .string ⟨#[]⟩, .int .i64 0, .int .i64 0, .slice none 0 0, .int .i64 0, .int .i64 0, .bool false]) := ⟨by kernel_rfl, rfl, by decide⟩
instance : TZero Tryd.prog 73 [.int .i64 0, .int .i64 0, .int .i64 0, .int .i64 0, .string ⟨#[]⟩, .int .i64 0, .int .i64 0, .slice none 0 0, .int .i64 0, .int .i64 0, .bool false] := ⟨.agg #[.int .i64 0, .int .i64 0, .int .i64 0, .int .i64 0, .string ⟨#[]⟩, .int .i64 0, .int .i64 0, .slice none 0 0, .int .i64 0, .int .i64 0, .bool false], by kernel_rfl, rfl⟩
instance : TRow Tryd.prog 74 11 := ⟨⟨_, Tryd.underlying74, rfl⟩, by kernel_rfl⟩
instance : TFld Tryd.prog 74 0 0 := ⟨_, _, 0, Tryd.underlying74, rfl, rfl, by kernel_rfl⟩
instance : TFld Tryd.prog 74 1 1 := ⟨_, _, 0, Tryd.underlying74, rfl, rfl, by kernel_rfl⟩
instance : TFld Tryd.prog 74 2 2 := ⟨_, _, 0, Tryd.underlying74, rfl, rfl, by kernel_rfl⟩
instance : TFld Tryd.prog 74 3 3 := ⟨_, _, 0, Tryd.underlying74, rfl, rfl, by kernel_rfl⟩
instance : TFld Tryd.prog 74 4 4 := ⟨_, _, 0, Tryd.underlying74, rfl, rfl, by kernel_rfl⟩
instance : TFld Tryd.prog 74 5 5 := ⟨_, _, 1, Tryd.underlying74, rfl, rfl, by kernel_rfl⟩
instance : TFld Tryd.prog 74 6 7 := ⟨_, _, 0, Tryd.underlying74, rfl, rfl, by kernel_rfl⟩
instance : TFld Tryd.prog 74 7 8 := ⟨_, _, 0, Tryd.underlying74, rfl, rfl, by kernel_rfl⟩
instance : TFld Tryd.prog 74 8 9 := ⟨_, _, 0, Tryd.underlying74, rfl, rfl, by kernel_rfl⟩
instance : TFld Tryd.prog 74 9 10 := ⟨_, _, 0, Tryd.underlying74, rfl, rfl, by kernel_rfl⟩
instance : TEl Tryd.prog 74 11 112 (.agg #[.int .i64 0, .int .i64 0, .int .i64 0, .int .i64 0, .string ⟨#[]⟩, .int .i64 0, .int .i64 0, .slice none 0 0, .int .i64 0, .int .i64 0, .bool false]) := ⟨by kernel_rfl, rfl, by decide⟩
instance : TZero Tryd.prog 74 [.int .i64 0, .int .i64 0, .int .i64 0, .int .i64 0, .string ⟨#[]⟩, .int .i64 0, .int .i64 0, .slice none 0 0, .int .i64 0, .int .i64 0, .bool false] := ⟨.agg #[.int .i64 0, .int .i64 0, .int .i64 0, .int .i64 0, .string ⟨#[]⟩, .int .i64 0, .int .i64 0, .slice none 0 0, .int .i64 0, .int .i64 0, .bool false], by kernel_rfl, rfl⟩
instance : TOne Tryd.prog 78 := ⟨⟨_, Tryd.underlying78, rfl⟩, by kernel_rfl⟩
instance : TSl Tryd.prog 78 180 64 := ⟨Tryd.underlying78, by kernel_rfl⟩
instance : TEl Tryd.prog 78 1 24 (.slice none 0 0) := ⟨by kernel_rfl, rfl, by decide⟩
instance : TZero Tryd.prog 78 [.slice none 0 0] := ⟨.slice none 0 0, by kernel_rfl, rfl⟩
instance : TRow Tryd.prog 79 1 := ⟨⟨_, Tryd.underlying79, rfl⟩, by kernel_rfl⟩
instance : TFld Tryd.prog 79 0 0 := ⟨_, _, 0, Tryd.underlying79, rfl, rfl, by kernel_rfl⟩
instance : TEl Tryd.prog 79 1 24 (.agg #[.slice none 0 0]) := ⟨by kernel_rfl, rfl, by decide⟩
instance : TZero Tryd.prog 79 [.slice none 0 0] := ⟨.agg #[.slice none 0 0], by kernel_rfl, rfl⟩
instance : TRow Tryd.prog 80 1 := ⟨⟨_, Tryd.underlying80, rfl⟩, by kernel_rfl⟩
instance : TFld Tryd.prog 80 0 0 := ⟨_, _, 0, Tryd.underlying80, rfl, rfl, by kernel_rfl⟩
instance : TEl Tryd.prog 80 1 24 (.agg #[.slice none 0 0]) := ⟨by kernel_rfl, rfl, by decide⟩
instance : TZero Tryd.prog 80 [.slice none 0 0] := ⟨.agg #[.slice none 0 0], by kernel_rfl, rfl⟩
instance : TOne Tryd.prog 83 := ⟨⟨_, Tryd.underlying83, rfl⟩, by kernel_rfl⟩
instance : TSl Tryd.prog 83 144 64 := ⟨Tryd.underlying83, by kernel_rfl⟩
instance : TEl Tryd.prog 83 1 24 (.slice none 0 0) := ⟨by kernel_rfl, rfl, by decide⟩
instance : TZero Tryd.prog 83 [.slice none 0 0] := ⟨.slice none 0 0, by kernel_rfl, rfl⟩
instance : TRow Tryd.prog 84 1 := ⟨⟨_, Tryd.underlying84, rfl⟩, by kernel_rfl⟩
instance : TFld Tryd.prog 84 0 0 := ⟨_, _, 0, Tryd.underlying84, rfl, rfl, by kernel_rfl⟩
instance : TEl Tryd.prog 84 1 24 (.agg #[.slice none 0 0]) := ⟨by kernel_rfl, rfl, by decide⟩
instance : TZero Tryd.prog 84 [.slice none 0 0] := ⟨.agg #[.slice none 0 0], by kernel_rfl, rfl⟩
instance : TRow Tryd.prog 85 1 := ⟨⟨_, Tryd.underlying85, rfl⟩, by kernel_rfl⟩
instance : TFld Tryd.prog 85 0 0 := ⟨_, _, 0, Tryd.underlying85, rfl, rfl, by kernel_rfl⟩
instance : TEl Tryd.prog 85 1 24 (.agg #[.slice none 0 0]) := ⟨by kernel_rfl, rfl, by decide⟩
instance : TZero Tryd.prog 85 [.slice none 0 0] := ⟨.agg #[.slice none 0 0], by kernel_rfl, rfl⟩
instance : TOne Tryd.prog 97 := ⟨⟨_, Tryd.underlying97, rfl⟩, by kernel_rfl⟩
instance : TPtr Tryd.prog 97 := ⟨⟨_, Tryd.underlying97⟩⟩
instance : TEl Tryd.prog 97 1 8 (.pointer none) := ⟨by kernel_rfl, rfl, by decide⟩
instance : TZero Tryd.prog 97 [.pointer none] := ⟨.pointer none, by kernel_rfl, rfl⟩
instance : TOne Tryd.prog 98 := ⟨⟨_, Tryd.underlying98, rfl⟩, by kernel_rfl⟩
instance : TPtr Tryd.prog 98 := ⟨⟨_, Tryd.underlying98⟩⟩
instance : TEl Tryd.prog 98 1 8 (.pointer none) := ⟨by kernel_rfl, rfl, by decide⟩
instance : TZero Tryd.prog 98 [.pointer none] := ⟨.pointer none, by kernel_rfl, rfl⟩
instance : TOne Tryd.prog 101 := ⟨⟨_, Tryd.underlying101, rfl⟩, by kernel_rfl⟩
instance : TPtr Tryd.prog 101 := ⟨⟨_, Tryd.underlying101⟩⟩
instance : TEl Tryd.prog 101 1 8 (.pointer none) := ⟨by kernel_rfl, rfl, by decide⟩
instance : TZero Tryd.prog 101 [.pointer none] := ⟨.pointer none, by kernel_rfl, rfl⟩
instance : TOne Tryd.prog 107 := ⟨⟨_, Tryd.underlying107, rfl⟩, by kernel_rfl⟩
instance : TPtr Tryd.prog 107 := ⟨⟨_, Tryd.underlying107⟩⟩
instance : TEl Tryd.prog 107 1 8 (.pointer none) := ⟨by kernel_rfl, rfl, by decide⟩
instance : TZero Tryd.prog 107 [.pointer none] := ⟨.pointer none, by kernel_rfl, rfl⟩
instance : TOne Tryd.prog 109 := ⟨⟨_, Tryd.underlying109, rfl⟩, by kernel_rfl⟩
instance : TSl Tryd.prog 109 101 1 := ⟨Tryd.underlying109, by kernel_rfl⟩
instance : TEl Tryd.prog 109 1 24 (.slice none 0 0) := ⟨by kernel_rfl, rfl, by decide⟩
instance : TZero Tryd.prog 109 [.slice none 0 0] := ⟨.slice none 0 0, by kernel_rfl, rfl⟩
instance : TOne Tryd.prog 111 := ⟨⟨_, Tryd.underlying111, rfl⟩, by kernel_rfl⟩
instance : TSl Tryd.prog 111 98 1 := ⟨Tryd.underlying111, by kernel_rfl⟩
instance : TEl Tryd.prog 111 1 24 (.slice none 0 0) := ⟨by kernel_rfl, rfl, by decide⟩
instance : TZero Tryd.prog 111 [.slice none 0 0] := ⟨.slice none 0 0, by kernel_rfl, rfl⟩
instance : TOne Tryd.prog 116 := ⟨⟨_, Tryd.underlying116, rfl⟩, by kernel_rfl⟩
instance : TPtr Tryd.prog 116 := ⟨⟨_, Tryd.underlying116⟩⟩
instance : TEl Tryd.prog 116 1 8 (.pointer none) := ⟨by kernel_rfl, rfl, by decide⟩
instance : TZero Tryd.prog 116 [.pointer none] := ⟨.pointer none, by kernel_rfl, rfl⟩
instance : TOne Tryd.prog 122 := ⟨⟨_, Tryd.underlying122, rfl⟩, by kernel_rfl⟩
instance : TSl Tryd.prog 122 3 1 := ⟨Tryd.underlying122, by kernel_rfl⟩
instance : TEl Tryd.prog 122 1 24 (.slice none 0 0) := ⟨by kernel_rfl, rfl, by decide⟩
instance : TZero Tryd.prog 122 [.slice none 0 0] := ⟨.slice none 0 0, by kernel_rfl, rfl⟩
instance : TRow Tryd.prog 126 3 := ⟨⟨_, Tryd.underlying126, rfl⟩, by kernel_rfl⟩
instance : TFld Tryd.prog 126 0 0 := ⟨_, _, 0, Tryd.underlying126, rfl, rfl, by kernel_rfl⟩
instance : TFld Tryd.prog 126 1 1 := ⟨_, _, 0, Tryd.underlying126, rfl, rfl, by kernel_rfl⟩
instance : TFld Tryd.prog 126 2 2 := ⟨_, _, 0, Tryd.underlying126, rfl, rfl, by kernel_rfl⟩
instance : TEq Tryd.prog 126 [0, 0, 0] := ⟨by kernel_rfl, by kernel_rfl, _, Tryd.underlying126⟩
instance : TEl Tryd.prog 126 3 24 (.agg #[.int .i64 0, .int .i64 0, .int .i64 0]) := ⟨by kernel_rfl, rfl, by decide⟩
instance : TZero Tryd.prog 126 [.int .i64 0, .int .i64 0, .int .i64 0] := ⟨.agg #[.int .i64 0, .int .i64 0, .int .i64 0], by kernel_rfl, rfl⟩
instance : TRow Tryd.prog 127 3 := ⟨⟨_, Tryd.underlying127, rfl⟩, by kernel_rfl⟩
instance : TFld Tryd.prog 127 0 0 := ⟨_, _, 0, Tryd.underlying127, rfl, rfl, by kernel_rfl⟩
instance : TFld Tryd.prog 127 1 1 := ⟨_, _, 0, Tryd.underlying127, rfl, rfl, by kernel_rfl⟩
instance : TFld Tryd.prog 127 2 2 := ⟨_, _, 0, Tryd.underlying127, rfl, rfl, by kernel_rfl⟩
instance : TEq Tryd.prog 127 [0, 0, 0] := ⟨by kernel_rfl, by kernel_rfl, _, Tryd.underlying127⟩
instance : TEl Tryd.prog 127 3 24 (.agg #[.int .i64 0, .int .i64 0, .int .i64 0]) := ⟨by kernel_rfl, rfl, by decide⟩
instance : TZero Tryd.prog 127 [.int .i64 0, .int .i64 0, .int .i64 0] := ⟨.agg #[.int .i64 0, .int .i64 0, .int .i64 0], by kernel_rfl, rfl⟩
instance : TRow Tryd.prog 143 64 := ⟨⟨_, Tryd.underlying143, rfl⟩, by kernel_rfl⟩
instance : TFld Tryd.prog 143 0 0 := ⟨_, _, 0, Tryd.underlying143, rfl, rfl, by kernel_rfl⟩
instance : TFld Tryd.prog 143 1 1 := ⟨_, _, 0, Tryd.underlying143, rfl, rfl, by kernel_rfl⟩
instance : TFld Tryd.prog 143 2 2 := ⟨_, _, 59, Tryd.underlying143, rfl, rfl, by kernel_rfl⟩
instance : TFld Tryd.prog 143 3 62 := ⟨_, _, 0, Tryd.underlying143, rfl, rfl, by kernel_rfl⟩
instance : TFld Tryd.prog 143 4 63 := ⟨_, _, 0, Tryd.underlying143, rfl, rfl, by kernel_rfl⟩
instance : TEl Tryd.prog 143 64 536 (.agg #[.int .i64 0, .slice none 0 0, .int .i64 0, .int .i64 0, .int .i64 0, .int .i64 0, .int .i64 0, .int .i64 0, .bool false, .bool false, .int .i64 0, .int .i64 0, .int .i64 0, .int .i64 0, .int .i64 0, .int .i64 0, .int .i64 0, .int .i64 0, .int .i64 0, .int .i64 0, .int .i64 0, .int .i64 0, .int .i64 0, .int .i64 0, .int .i64 0, .int .i64 0, .int .i64 0, .int .i64 0, .int .i64 0, .int .i64 0, .int .i64 0, .int .i64 0, .int .i64 0, .int .i64 0, .int .i64 0, .int .i64 0, .int .i64 0, .int .i64 0, .int .i64 0, .int .i64 0, .int .i64 0, .int .i64 0, .int .i64 0, .int .i64 0, .int .i64 0, .int .i64 0, .int .i64 0, .int .i64 0, .int .i64 0, .int .i64 0, .int .i64 0, .int .i64 0, .int .i64 0, .int .i64 0, .int .i64 0, .int .i64 0, .int .i64 0, .int .i64 0, .int .i64 0, .int .i64 0, .int .i64 0, .int .i64 0, .bool false, .slice none 0 0]) := ⟨by kernel_rfl, rfl, by decide⟩
instance : TZero Tryd.prog 143 [.int .i64 0, .slice none 0 0, .int .i64 0, .int .i64 0, .int .i64 0, .int .i64 0, .int .i64 0, .int .i64 0, .bool false, .bool false, .int .i64 0, .int .i64 0, .int .i64 0, .int .i64 0, .int .i64 0, .int .i64 0, .int .i64 0, .int .i64 0, .int .i64 0, .int .i64 0, .int .i64 0, .int .i64 0, .int .i64 0, .int .i64 0, .int .i64 0, .int .i64 0, .int .i64 0, .int .i64 0, .int .i64 0, .int .i64 0, .int .i64 0, .int .i64 0, .int .i64 0, .int .i64 0, .int .i64 0, .int .i64 0, .int .i64 0, .int .i64 0, .int .i64 0, .int .i64 0, .int .i64 0, .int .i64 0, .int .i64 0, .int .i64 0, .int .i64 0, .int .i64 0, .int .i64 0, .int .i64 0, .int .i64 0, .int .i64 0, .int .i64 0, .int .i64 0, .int .i64 0, .int .i64 0, .int .i64 0, .int .i64 0, .int .i64 0, .int .i64 0, .int .i64 0, .int .i64 0, .int .i64 0, .int .i64 0, .bool false, .slice none 0 0] := ⟨.agg #[.int .i64 0, .slice none 0 0, .int .i64 0, .int .i64 0, .int .i64 0, .int .i64 0, .int .i64 0, .int .i64 0, .bool false, .bool false, .int .i64 0, .int .i64 0, .int .i64 0, .int .i64 0, .int .i64 0, .int .i64 0, .int .i64 0, .int .i64 0, .int .i64 0, .int .i64 0, .int .i64 0, .int .i64 0, .int .i64 0, .int .i64 0, .int .i64 0, .int .i64 0, .int .i64 0, .int .i64 0, .int .i64 0, .int .i64 0, .int .i64 0, .int .i64 0, .int .i64 0, .int .i64 0, .int .i64 0, .int .i64 0, .int .i64 0, .int .i64 0, .int .i64 0, .int .i64 0, .int .i64 0, .int .i64 0, .int .i64 0, .int .i64 0, .int .i64 0, .int .i64 0, .int .i64 0, .int .i64 0, .int .i64 0, .int .i64 0, .int .i64 0, .int .i64 0, .int .i64 0, .int .i64 0, .int .i64 0, .int .i64 0, .int .i64 0, .int .i64 0, .int .i64 0, .int .i64 0, .int .i64 0, .int .i64 0, .bool false, .slice none 0 0], by kernel_rfl, rfl⟩
instance : TRow Tryd.prog 144 64 := ⟨⟨_, Tryd.underlying144, rfl⟩, by kernel_rfl⟩
instance : TFld Tryd.prog 144 0 0 := ⟨_, _, 0, Tryd.underlying144, rfl, rfl, by kernel_rfl⟩
instance : TFld Tryd.prog 144 1 1 := ⟨_, _, 0, Tryd.underlying144, rfl, rfl, by kernel_rfl⟩
instance : TFld Tryd.prog 144 2 2 := ⟨_, _, 59, Tryd.underlying144, rfl, rfl, by kernel_rfl⟩
instance : TFld Tryd.prog 144 3 62 := ⟨_, _, 0, Tryd.underlying144, rfl, rfl, by kernel_rfl⟩
instance : TFld Tryd.prog 144 4 63 := ⟨_, _, 0, Tryd.underlying144, rfl, rfl, by kernel_rfl⟩
instance : TEl Tryd.prog 144 64 536 (.agg #[.int .i64 0, .slice none 0 0, .int .i64 0, .int .i64 0, .int .i64 0, .int .i64 0, .int .i64 0, .int .i64 0, .bool false, .bool false, .int .i64 0, .int .i64 0, .int .i64 0, .int .i64 0, .int .i64 0, .int .i64 0, .int .i64 0, .int .i64 0, .int .i64 0, .int .i64 0, .int .i64 0, .int .i64 0, .int .i64 0, .int .i64 0, .int .i64 0, .int .i64 0, .int .i64 0, .int .i64 0, .int .i64 0, .int .i64 0, .int .i64 0, .int .i64 0, .int .i64 0, .int .i64 0, .int .i64 0, .int .i64 0, .int .i64 0, .int .i64 0, .int .i64 0, .int .i64 0, .int .i64 0, .int .i64 0, .int .i64 0, .int .i64 0, .int .i64 0, .int .i64 0, .int .i64 0, .int .i64 0, .int .i64 0, .int .i64 0, .int .i64 0, .int .i64 0, .int .i64 0, .int .i64 0, .int .i64 0, .int .i64 0, .int .i64 0, .int .i64 0, .int .i64 0, .int .i64 0, .int .i64 0, .int .i64 0, .bool false, .slice none 0 0]) := ⟨by kernel_rfl, rfl, by decide⟩
instance : TZero Tryd.prog 144 [.int .i64 0, .slice none 0 0, .int .i64 0, .int .i64 0, .int .i64 0, .int .i64 0, .int .i64 0, .int .i64 0, .bool false, .bool false, .int .i64 0, .int .i64 0, .int .i64 0, .int .i64 0, .int .i64 0, .int .i64 0, .int .i64 0, .int .i64 0, .int .i64 0, .int .i64 0, .int .i64 0, .int .i64 0, .int .i64 0, .int .i64 0, .int .i64 0, .int .i64 0, .int .i64 0, .int .i64 0, .int .i64 0, .int .i64 0, .int .i64 0, .int .i64 0, .int .i64 0, .int .i64 0, .int .i64 0, .int .i64 0, .int .i64 0, .int .i64 0, .int .i64 0, .int .i64 0, .int .i64 0, .int .i64 0, .int .i64 0, .int .i64 0, .int .i64 0, .int .i64 0, .int .i64 0, .int .i64 0, .int .i64 0, .int .i64 0, .int .i64 0, .int .i64 0, .int .i64 0, .int .i64 0, .int .i64 0, .int .i64 0, .int .i64 0, .int .i64 0, .int .i64 0, .int .i64 0, .int .i64 0, .int .i64 0, .bool false, .slice none 0 0] := ⟨.agg #[.int .i64 0, .slice none 0 0, .int .i64 0, .int .i64 0, .int .i64 0, .int .i64 0, .int .i64 0, .int .i64 0, .bool false, .bool false, .int .i64 0, .int .i64 0, .int .i64 0, .int .i64 0, .int .i64 0, .int .i64 0, .int .i64 0, .int .i64 0, .int .i64 0, .int .i64 0, .int .i64 0, .int .i64 0, .int .i64 0, .int .i64 0, .int .i64 0, .int .i64 0, .int .i64 0, .int .i64 0, .int .i64 0, .int .i64 0, .int .i64 0, .int .i64 0, .int .i64 0, .int .i64 0, .int .i64 0, .int .i64 0, .int .i64 0, .int .i64 0, .int .i64 0, .int .i64 0, .int .i64 0, .int .i64 0, .int .i64 0, .int .i64 0, .int .i64 0, .int .i64 0, .int .i64 0, .int .i64 0, .int .i64 0, .int .i64 0, .int .i64 0, .int .i64 0, .int .i64 0, .int .i64 0, .int .i64 0, .int .i64 0, .int .i64 0, .int .i64 0, .int .i64 0, .int .i64 0, .int .i64 0, .int .i64 0, .bool false, .slice none 0 0], by kernel_rfl, rfl⟩
instance : TOne Tryd.prog 156 := ⟨⟨_, Tryd.underlying156, rfl⟩, by kernel_rfl⟩
instance : TSl Tryd.prog 156 32 2 := ⟨Tryd.underlying156, by kernel_rfl⟩
instance : TEl Tryd.prog 156 1 24 (.slice none 0 0) := ⟨by kernel_rfl, rfl, by decide⟩
instance : TZero Tryd.prog 156 [.slice none 0 0] := ⟨.slice none 0 0, by kernel_rfl, rfl⟩
instance : TRow Tryd.prog 157 3 := ⟨⟨_, Tryd.underlying157, rfl⟩, by kernel_rfl⟩
instance : TFld Tryd.prog 157 0 0 := ⟨_, _, 0, Tryd.underlying157, rfl, rfl, by kernel_rfl⟩
instance : TFld Tryd.prog 157 1 1 := ⟨_, _, 0, Tryd.underlying157, rfl, rfl, by kernel_rfl⟩
instance : TFld Tryd.prog 157 2 2 := ⟨_, _, 0, Tryd.underlying157, rfl, rfl, by kernel_rfl⟩
instance : TEl Tryd.prog 157 3 40 (.agg #[.slice none 0 0, .int .i64 0, .int .i64 0]) := ⟨by kernel_rfl, rfl, by decide⟩
instance : TZero Tryd.prog 157 [.slice none 0 0, .int .i64 0, .int .i64 0] := ⟨.agg #[.slice none 0 0, .int .i64 0, .int .i64 0], by kernel_rfl, rfl⟩
instance : TRow Tryd.prog 158 3 := ⟨⟨_, Tryd.underlying158, rfl⟩, by kernel_rfl⟩
instance : TFld Tryd.prog 158 0 0 := ⟨_, _, 0, Tryd.underlying158, rfl, rfl, by kernel_rfl⟩
instance : TFld Tryd.prog 158 1 1 := ⟨_, _, 0, Tryd.underlying158, rfl, rfl, by kernel_rfl⟩
instance : TFld Tryd.prog 158 2 2 := ⟨_, _, 0, Tryd.underlying158, rfl, rfl, by kernel_rfl⟩
instance : TEl Tryd.prog 158 3 40 (.agg #[.slice none 0 0, .int .i64 0, .int .i64 0]) := ⟨by kernel_rfl, rfl, by decide⟩
instance : TZero Tryd.prog 158 [.slice none 0 0, .int .i64 0, .int .i64 0] := ⟨.agg #[.slice none 0 0, .int .i64 0, .int .i64 0], by kernel_rfl, rfl⟩
instance : TOne Tryd.prog 173 := ⟨⟨_, Tryd.underlying173, rfl⟩, by kernel_rfl⟩
instance : TPtr Tryd.prog 173 := ⟨⟨_, Tryd.underlying173⟩⟩
instance : TEl Tryd.prog 173 1 8 (.pointer none) := ⟨by kernel_rfl, rfl, by decide⟩
instance : TZero Tryd.prog 173 [.pointer none] := ⟨.pointer none, by kernel_rfl, rfl⟩
instance : TRow Tryd.prog 174 2 := ⟨⟨_, Tryd.underlying174, rfl⟩, by kernel_rfl⟩
instance : TFld Tryd.prog 174 0 0 := ⟨_, _, 0, Tryd.underlying174, rfl, rfl, by kernel_rfl⟩
instance : TFld Tryd.prog 174 1 1 := ⟨_, _, 0, Tryd.underlying174, rfl, rfl, by kernel_rfl⟩
instance : TEl Tryd.prog 174 2 32 (.agg #[.pointer none, .slice none 0 0]) := ⟨by kernel_rfl, rfl, by decide⟩
instance : TZero Tryd.prog 174 [.pointer none, .slice none 0 0] := ⟨.agg #[.pointer none, .slice none 0 0], by kernel_rfl, rfl⟩
instance : TRow Tryd.prog 175 2 := ⟨⟨_, Tryd.underlying175, rfl⟩, by kernel_rfl⟩
instance : TFld Tryd.prog 175 0 0 := ⟨_, _, 0, Tryd.underlying175, rfl, rfl, by kernel_rfl⟩
instance : TFld Tryd.prog 175 1 1 := ⟨_, _, 0, Tryd.underlying175, rfl, rfl, by kernel_rfl⟩
instance : TEl Tryd.prog 175 2 32 (.agg #[.pointer none, .slice none 0 0]) := ⟨by kernel_rfl, rfl, by decide⟩
instance : TZero Tryd.prog 175 [.pointer none, .slice none 0 0] := ⟨.agg #[.pointer none, .slice none 0 0], by kernel_rfl, rfl⟩
instance : TRow Tryd.prog 179 64 := ⟨⟨_, Tryd.underlying179, rfl⟩, by kernel_rfl⟩
instance : TFld Tryd.prog 179 0 0 := ⟨_, _, 0, Tryd.underlying179, rfl, rfl, by kernel_rfl⟩
instance : TFld Tryd.prog 179 1 1 := ⟨_, _, 0, Tryd.underlying179, rfl, rfl, by kernel_rfl⟩
instance : TFld Tryd.prog 179 2 2 := ⟨_, _, 59, Tryd.underlying179, rfl, rfl, by kernel_rfl⟩
instance : TFld Tryd.prog 179 3 62 := ⟨_, _, 0, Tryd.underlying179, rfl, rfl, by kernel_rfl⟩
instance : TFld Tryd.prog 179 4 63 := ⟨_, _, 0, Tryd.underlying179, rfl, rfl, by kernel_rfl⟩
instance : TEl Tryd.prog 179 64 536 (.agg #[.int .i64 0, .slice none 0 0, .int .i64 0, .int .i64 0, .int .i64 0, .int .i64 0, .int .i64 0, .int .i64 0, .bool false, .bool false, .int .i64 0, .int .i64 0, .int .i64 0, .int .i64 0, .int .i64 0, .int .i64 0, .int .i64 0, .int .i64 0, .int .i64 0, .int .i64 0, .int .i64 0, .int .i64 0, .int .i64 0, .int .i64 0, .int .i64 0, .int .i64 0, .int .i64 0, .int .i64 0, .int .i64 0, .int .i64 0, .int .i64 0, .int .i64 0, .int .i64 0, .int .i64 0, .int .i64 0, .int .i64 0, .int .i64 0, .int .i64 0, .int .i64 0, .int .i64 0, .int .i64 0, .int .i64 0, .int .i64 0, .int .i64 0, .int .i64 0, .int .i64 0, .int .i64 0, .int .i64 0, .int .i64 0, .int .i64 0, .int .i64 0, .int .i64 0, .int .i64 0, .int .i64 0, .int .i64 0, .int .i64 0, .int .i64 0, .int .i64 0, .int .i64 0, .int .i64 0, .int .i64 0, .int .i64 0, .bool false, .slice none 0 0]) := ⟨by kernel_rfl, rfl, by decide⟩
instance : TZero Tryd.prog 179 [.int .i64 0, .slice none 0 0, .int .i64 0, .int .i64 0, .int .i64 0, .int .i64 0, .int .i64 0, .int .i64 0, .bool false, .bool false, .int .i64 0, .int .i64 0, .int .i64 0, .int .i64 0, .int .i64 0, .int .i64 0, .int .i64 0, .int .i64 0, .int .i64 0, .int .i64 0, .int .i64 0, .int .i64 0, .int .i64 0, .int .i64 0, .int .i64 0, .int .i64 0, .int .i64 0, .int .i64 0, .int .i64 0, .int .i64 0, .int .i64 0, .int .i64 0, .int .i64 0, .int .i64 0, .int .i64 0, .int .i64 0, .int .i64 0, .int .i64 0, .int .i64 0, .int .i64 0, .int .i64 0, .int .i64 0, .int .i64 0, .int .i64 0, .int .i64 0, .int .i64 0, .int .i64 0, .int .i64 0, .int .i64 0, .int .i64 0, .int .i64 0, .int .i64 0, .int .i64 0, .int .i64 0, .int .i64 0, .int .i64 0, .int .i64 0, .int .i64 0, .int .i64 0, .int .i64 0, .int .i64 0, .int .i64 0, .bool false, .slice none 0 0] := ⟨.agg #[.int .i64 0, .slice none 0 0, .int .i64 0, .int .i64 0, .int .i64 0, .int .i64 0, .int .i64 0, .int .i64 0, .bool false, .bool false, .int .i64 0, .int .i64 0, .int .i64 0, .int .i64 0, .int .i64 0, .int .i64 0, .int .i64 0, .int .i64 0, .int .i64 0, .int .i64 0, .int .i64 0, .int .i64 0, .int .i64 0, .int .i64 0, .int .i64 0, .int .i64 0, .int .i64 0, .int .i64 0, .int .i64 0, .int .i64 0, .int .i64 0, .int .i64 0, .int .i64 0, .int .i64 0, .int .i64 0, .int .i64 0, .int .i64 0, .int .i64 0, .int .i64 0, .int .i64 0, .int .i64 0, .int .i64 0, .int .i64 0, .int .i64 0, .int .i64 0, .int .i64 0, .int .i64 0, .int .i64 0, .int .i64 0, .int .i64 0, .int .i64 0, .int .i64 0, .int .i64 0, .int .i64 0, .int .i64 0, .int .i64 0, .int .i64 0, .int .i64 0, .int .i64 0, .int .i64 0, .int .i64 0, .int .i64 0, .bool false, .slice none 0 0], by kernel_rfl, rfl⟩
instance : TRow Tryd.prog 180 64 := ⟨⟨_, Tryd.underlying180, rfl⟩, by kernel_rfl⟩
instance : TFld Tryd.prog 180 0 0 := ⟨_, _, 0, Tryd.underlying180, rfl, rfl, by kernel_rfl⟩
instance : TFld Tryd.prog 180 1 1 := ⟨_, _, 0, Tryd.underlying180, rfl, rfl, by kernel_rfl⟩
instance : TFld Tryd.prog 180 2 2 := ⟨_, _, 59, Tryd.underlying180, rfl, rfl, by kernel_rfl⟩
instance : TFld Tryd.prog 180 3 62 := ⟨_, _, 0, Tryd.underlying180, rfl, rfl, by kernel_rfl⟩
instance : TFld Tryd.prog 180 4 63 := ⟨_, _, 0, Tryd.underlying180, rfl, rfl, by kernel_rfl⟩
instance : TEl Tryd.prog 180 64 536 (.agg #[.int .i64 0, .slice none 0 0, .int .i64 0, .int .i64 0, .int .i64 0, .int .i64 0, .int .i64 0, .int .i64 0, .bool false, .bool false, .int .i64 0, .int .i64 0, .int .i64 0, .int .i64 0, .int .i64 0, .int .i64 0, .int .i64 0, .int .i64 0, .int .i64 0, .int .i64 0, .int .i64 0, .int .i64 0, .int .i64 0, .int .i64 0, .int .i64 0, .int .i64 0, .int .i64 0, .int .i64 0, .int .i64 0, .int .i64 0, .int .i64 0, .int .i64 0, .int .i64 0, .int .i64 0, .int .i64 0, .int .i64 0, .int .i64 0, .int .i64 0, .int .i64 0, .int .i64 0, .int .i64 0, .int .i64 0, .int .i64 0, .int .i64 0, .int .i64 0, .int .i64 0, .int .i64 0, .int .i64 0, .int .i64 0, .int .i64 0, .int .i64 0, .int .i64 0, .int .i64 0, .int .i64 0, .int .i64 0, .int .i64 0, .int .i64 0, .int .i64 0, .int .i64 0, .int .i64 0, .int .i64 0, .int .i64 0, .bool false, .slice none 0 0]) := ⟨by kernel_rfl, rfl, by decide⟩
instance : TZero Tryd.prog 180 [.int .i64 0, .slice none 0 0, .int .i64 0, .int .i64 0, .int .i64 0, .int .i64 0, .int .i64 0, .int .i64 0, .bool false, .bool false, .int .i64 0, .int .i64 0, .int .i64 0, .int .i64 0, .int .i64 0, .int .i64 0, .int .i64 0, .int .i64 0, .int .i64 0, .int .i64 0, .int .i64 0, .int .i64 0, .int .i64 0, .int .i64 0, .int .i64 0, .int .i64 0, .int .i64 0, .int .i64 0, .int .i64 0, .int .i64 0, .int .i64 0, .int .i64 0, .int .i64 0, .int .i64 0, .int .i64 0, .int .i64 0, .int .i64 0, .int .i64 0, .int .i64 0, .int .i64 0, .int .i64 0, .int .i64 0, .int .i64 0, .int .i64 0, .int .i64 0, .int .i64 0, .int .i64 0, .int .i64 0, .int .i64 0, .int .i64 0, .int .i64 0, .int .i64 0, .int .i64 0, .int .i64 0, .int .i64 0, .int .i64 0, .int .i64 0, .int .i64 0, .int .i64 0, .int .i64 0, .int .i64 0, .int .i64 0, .bool false, .slice none 0 0] := ⟨.agg #[.int .i64 0, .slice none 0 0, .int .i64 0, .int .i64 0, .int .i64 0, .int .i64 0, .int .i64 0, .int .i64 0, .bool false, .bool false, .int .i64 0, .int .i64 0, .int .i64 0, .int .i64 0, .int .i64 0, .int .i64 0, .int .i64 0, .int .i64 0, .int .i64 0, .int .i64 0, .int .i64 0, .int .i64 0, .int .i64 0, .int .i64 0, .int .i64 0, .int .i64 0, .int .i64 0, .int .i64 0, .int .i64 0, .int .i64 0, .int .i64 0, .int .i64 0, .int .i64 0, .int .i64 0, .int .i64 0, .int .i64 0, .int .i64 0, .int .i64 0, .int .i64 0, .int .i64 0, .int .i64 0, .int .i64 0, .int .i64 0, .int .i64 0, .int .i64 0, .int .i64 0, .int .i64 0, .int .i64 0, .int .i64 0, .int .i64 0, .int .i64 0, .int .i64 0, .int .i64 0, .int .i64 0, .int .i64 0, .int .i64 0, .int .i64 0, .int .i64 0, .int .i64 0, .int .i64 0, .int .i64 0, .int .i64 0, .bool false, .slice none 0 0], by kernel_rfl, rfl⟩
instance : TOne Tryd.prog 184 := ⟨⟨_, Tryd.underlying184, rfl⟩, by kernel_rfl⟩
instance : TEl Tryd.prog 184 1 8 (.int .u64 0) := ⟨by kernel_rfl, rfl, by decide⟩
instance : TZero Tryd.prog 184 [.int .u64 0] := ⟨.int .u64 0, by kernel_rfl, rfl⟩
instance : TRow Tryd.prog 194 3 := ⟨⟨_, Tryd.underlying194, rfl⟩, by kernel_rfl⟩
instance : TFld Tryd.prog 194 0 0 := ⟨_, _, 0, Tryd.underlying194, rfl, rfl, by kernel_rfl⟩
instance : TFld Tryd.prog 194 1 1 := ⟨_, _, 0, Tryd.underlying194, rfl, rfl, by kernel_rfl⟩
instance : TFld Tryd.prog 194 2 2 := ⟨_, _, 0, Tryd.underlying194, rfl, rfl, by kernel_rfl⟩
instance : TEq Tryd.prog 194 [0, 0, 0] := ⟨by kernel_rfl, by kernel_rfl, _, Tryd.underlying194⟩
instance : TEl Tryd.prog 194 3 24 (.agg #[.int .i64 0, .int .i64 0, .int .i64 0]) := ⟨by kernel_rfl, rfl, by decide⟩
instance : TZero Tryd.prog 194 [.int .i64 0, .int .i64 0, .int .i64 0] := ⟨.agg #[.int .i64 0, .int .i64 0, .int .i64 0], by kernel_rfl, rfl⟩
instance : TOne Tryd.prog 195 := ⟨⟨_, Tryd.underlying195, rfl⟩, by kernel_rfl⟩
instance : TPtr Tryd.prog 195 := ⟨⟨_, Tryd.underlying195⟩⟩
instance : TEl Tryd.prog 195 1 8 (.pointer none) := ⟨by kernel_rfl, rfl, by decide⟩
instance : TZero Tryd.prog 195 [.pointer none] := ⟨.pointer none, by kernel_rfl, rfl⟩
instance : TOne Tryd.prog 197 := ⟨⟨_, Tryd.underlying197, rfl⟩, by kernel_rfl⟩
instance : TEl Tryd.prog 197 1 4 (.int .u32 0) := ⟨by kernel_rfl, rfl, by decide⟩
instance : TZero Tryd.prog 197 [.int .u32 0] := ⟨.int .u32 0, by kernel_rfl, rfl⟩
instance : TOne Tryd.prog 200 := ⟨⟨_, Tryd.underlying200, rfl⟩, by kernel_rfl⟩
instance : TEl Tryd.prog 200 1 8 (.int .u64 0) := ⟨by kernel_rfl, rfl, by decide⟩
instance : TZero Tryd.prog 200 [.int .u64 0] := ⟨.int .u64 0, by kernel_rfl, rfl⟩
instance : TOne Tryd.prog 208 := ⟨⟨_, Tryd.underlying208, rfl⟩, by kernel_rfl⟩
instance : TEl Tryd.prog 208 1 8 (.int .i64 0) := ⟨by kernel_rfl, rfl, by decide⟩
instance : TZero Tryd.prog 208 [.int .i64 0] := ⟨.int .i64 0, by kernel_rfl, rfl⟩
instance : TOne Tryd.prog 211 := ⟨⟨_, Tryd.underlying211, rfl⟩, by kernel_rfl⟩
instance : TPtr Tryd.prog 211 := ⟨⟨_, Tryd.underlying211⟩⟩
instance : TEl Tryd.prog 211 1 8 (.pointer none) := ⟨by kernel_rfl, rfl, by decide⟩
instance : TZero Tryd.prog 211 [.pointer none] := ⟨.pointer none, by kernel_rfl, rfl⟩
instance : TRow Tryd.prog 222 3 := ⟨⟨_, Tryd.underlying222, rfl⟩, by kernel_rfl⟩
instance : TFld Tryd.prog 222 0 0 := ⟨_, _, 0, Tryd.underlying222, rfl, rfl, by kernel_rfl⟩
instance : TFld Tryd.prog 222 1 1 := ⟨_, _, 0, Tryd.underlying222, rfl, rfl, by kernel_rfl⟩
instance : TFld Tryd.prog 222 2 2 := ⟨_, _, 0, Tryd.underlying222, rfl, rfl, by kernel_rfl⟩
instance : TRow Tryd.prog 223 3 := ⟨⟨_, Tryd.underlying223, rfl⟩, by kernel_rfl⟩
instance : TFld Tryd.prog 223 0 0 := ⟨_, _, 0, Tryd.underlying223, rfl, rfl, by kernel_rfl⟩
instance : TFld Tryd.prog 223 1 1 := ⟨_, _, 0, Tryd.underlying223, rfl, rfl, by kernel_rfl⟩
instance : TFld Tryd.prog 223 2 2 := ⟨_, _, 0, Tryd.underlying223, rfl, rfl, by kernel_rfl⟩
instance : TRow Tryd.prog 225 24 := ⟨⟨_, Tryd.underlying225, rfl⟩, by kernel_rfl⟩
instance : TEl Tryd.prog 225 24 24 (.agg #[.int .u8 0, .int .u8 0, .int .u8 0, .int .u8 0, .int .u8 0, .int .u8 0, .int .u8 0, .int .u8 0, .int .u8 0, .int .u8 0, .int .u8 0, .int .u8 0, .int .u8 0, .int .u8 0, .int .u8 0, .int .u8 0, .int .u8 0, .int .u8 0, .int .u8 0, .int .u8 0, .int .u8 0, .int .u8 0, .int .u8 0, .int .u8 0]) := ⟨by kernel_rfl, rfl, by decide⟩
instance : TZero Tryd.prog 225 [.int .u8 0, .int .u8 0, .int .u8 0, .int .u8 0, .int .u8 0, .int .u8 0, .int .u8 0, .int .u8 0, .int .u8 0, .int .u8 0, .int .u8 0, .int .u8 0, .int .u8 0, .int .u8 0, .int .u8 0, .int .u8 0, .int .u8 0, .int .u8 0, .int .u8 0, .int .u8 0, .int .u8 0, .int .u8 0, .int .u8 0, .int .u8 0] := ⟨.agg #[.int .u8 0, .int .u8 0, .int .u8 0, .int .u8 0, .int .u8 0, .int .u8 0, .int .u8 0, .int .u8 0, .int .u8 0, .int .u8 0, .int .u8 0, .int .u8 0, .int .u8 0, .int .u8 0, .int .u8 0, .int .u8 0, .int .u8 0, .int .u8 0, .int .u8 0, .int .u8 0, .int .u8 0, .int .u8 0, .int .u8 0, .int .u8 0], by kernel_rfl, rfl⟩
instance : TRow Tryd.prog 231 2 := ⟨⟨_, Tryd.underlying231, rfl⟩, by kernel_rfl⟩
instance : TFld Tryd.prog 231 0 0 := ⟨_, _, 0, Tryd.underlying231, rfl, rfl, by kernel_rfl⟩
instance : TFld Tryd.prog 231 1 1 := ⟨_, _, 0, Tryd.underlying231, rfl, rfl, by kernel_rfl⟩
instance : TEl Tryd.prog 231 2 2 (.agg #[.int .u8 0, .int .u8 0]) := ⟨by kernel_rfl, rfl, by decide⟩
instance : TZero Tryd.prog 231 [.int .u8 0, .int .u8 0] := ⟨.agg #[.int .u8 0, .int .u8 0], by kernel_rfl, rfl⟩
instance : TRow Tryd.prog 232 2 := ⟨⟨_, Tryd.underlying232, rfl⟩, by kernel_rfl⟩
instance : TFld Tryd.prog 232 0 0 := ⟨_, _, 0, Tryd.underlying232, rfl, rfl, by kernel_rfl⟩
instance : TFld Tryd.prog 232 1 1 := ⟨_, _, 0, Tryd.underlying232, rfl, rfl, by kernel_rfl⟩
instance : TEl Tryd.prog 232 2 2 (.agg #[.int .u8 0, .int .u8 0]) := ⟨by kernel_rfl, rfl, by decide⟩
instance : TZero Tryd.prog 232 [.int .u8 0, .int .u8 0] := ⟨.agg #[.int .u8 0, .int .u8 0], by kernel_rfl, rfl⟩
instance : TRow Tryd.prog 233 32 := ⟨⟨_, Tryd.underlying233, rfl⟩, by kernel_rfl⟩
instance : TEl Tryd.prog 233 32 32 (.agg #[.int .u8 0, .int .u8 0, .int .u8 0, .int .u8 0, .int .u8 0, .int .u8 0, .int .u8 0, .int .u8 0, .int .u8 0, .int .u8 0, .int .u8 0, .int .u8 0, .int .u8 0, .int .u8 0, .int .u8 0, .int .u8 0, .int .u8 0, .int .u8 0, .int .u8 0, .int .u8 0, .int .u8 0, .int .u8 0, .int .u8 0, .int .u8 0, .int .u8 0, .int .u8 0, .int .u8 0, .int .u8 0, .int .u8 0, .int .u8 0, .int .u8 0, .int .u8 0]) := ⟨by kernel_rfl, rfl, by decide⟩
instance : TZero Tryd.prog 233 [.int .u8 0, .int .u8 0, .int .u8 0, .int .u8 0, .int .u8 0, .int .u8 0, .int .u8 0, .int .u8 0, .int .u8 0, .int .u8 0, .int .u8 0, .int .u8 0, .int .u8 0, .int .u8 0, .int .u8 0, .int .u8 0, .int .u8 0, .int .u8 0, .int .u8 0, .int .u8 0, .int .u8 0, .int .u8 0, .int .u8 0, .int .u8 0, .int .u8 0, .int .u8 0, .int .u8 0, .int .u8 0, .int .u8 0, .int .u8 0, .int .u8 0, .int .u8 0] := ⟨.agg #[.int .u8 0, .int .u8 0, .int .u8 0, .int .u8 0, .int .u8 0, .int .u8 0, .int .u8 0, .int .u8 0, .int .u8 0, .int .u8 0, .int .u8 0, .int .u8 0, .int .u8 0, .int .u8 0, .int .u8 0, .int .u8 0, .int .u8 0, .int .u8 0, .int .u8 0, .int .u8 0, .int .u8 0, .int .u8 0, .int .u8 0, .int .u8 0, .int .u8 0, .int .u8 0, .int .u8 0, .int .u8 0, .int .u8 0, .int .u8 0, .int .u8 0, .int .u8 0], by kernel_rfl, rfl⟩
instance : TOne Tryd.prog 236 := ⟨⟨_, Tryd.underlying236, rfl⟩, by kernel_rfl⟩
instance : TPtr Tryd.prog 236 := ⟨⟨_, Tryd.underlying236⟩⟩
instance : TEl Tryd.prog 236 1 8 (.pointer none) := ⟨by kernel_rfl, rfl, by decide⟩
instance : TZero Tryd.prog 236 [.pointer none] := ⟨.pointer none, by kernel_rfl, rfl⟩
instance : TRow Tryd.prog 237 1 := ⟨⟨_, Tryd.underlying237, rfl⟩, by kernel_rfl⟩
instance : TFld Tryd.prog 237 0 0 := ⟨_, _, 0, Tryd.underlying237, rfl, rfl, by kernel_rfl⟩
instance : TEq Tryd.prog 237 [2] := ⟨by kernel_rfl, by kernel_rfl, _, Tryd.underlying237⟩
instance : TEl Tryd.prog 237 1 16 (.agg #[.string ⟨#[]⟩]) := ⟨by kernel_rfl, rfl, by decide⟩
instance : TZero Tryd.prog 237 [.string ⟨#[]⟩] := ⟨.agg #[.string ⟨#[]⟩], by kernel_rfl, rfl⟩
instance : TRow Tryd.prog 238 1 := ⟨⟨_, Tryd.underlying238, rfl⟩, by kernel_rfl⟩
instance : TFld Tryd.prog 238 0 0 := ⟨_, _, 0, Tryd.underlying238, rfl, rfl, by kernel_rfl⟩
instance : TEq Tryd.prog 238 [2] := ⟨by kernel_rfl, by kernel_rfl, _, Tryd.underlying238⟩
instance : TEl Tryd.prog 238 1 16 (.agg #[.string ⟨#[]⟩]) := ⟨by kernel_rfl, rfl, by decide⟩
instance : TZero Tryd.prog 238 [.string ⟨#[]⟩] := ⟨.agg #[.string ⟨#[]⟩], by kernel_rfl, rfl⟩
instance : TRow Tryd.prog 239 20 := ⟨⟨_, Tryd.underlying239, rfl⟩, by kernel_rfl⟩
instance : TEl Tryd.prog 239 20 160 (.agg #[.int .u64 0, .int .u64 0, .int .u64 0, .int .u64 0, .int .u64 0, .int .u64 0, .int .u64 0, .int .u64 0, .int .u64 0, .int .u64 0, .int .u64 0, .int .u64 0, .int .u64 0, .int .u64 0, .int .u64 0, .int .u64 0, .int .u64 0, .int .u64 0, .int .u64 0, .int .u64 0]) := ⟨by kernel_rfl, rfl, by decide⟩
instance : TZero Tryd.prog 239 [.int .u64 0, .int .u64 0, .int .u64 0, .int .u64 0, .int .u64 0, .int .u64 0, .int .u64 0, .int .u64 0, .int .u64 0, .int .u64 0, .int .u64 0, .int .u64 0, .int .u64 0, .int .u64 0, .int .u64 0, .int .u64 0, .int .u64 0, .int .u64 0, .int .u64 0, .int .u64 0] := ⟨.agg #[.int .u64 0, .int .u64 0, .int .u64 0, .int .u64 0, .int .u64 0, .int .u64 0, .int .u64 0, .int .u64 0, .int .u64 0, .int .u64 0, .int .u64 0, .int .u64 0, .int .u64 0, .int .u64 0, .int .u64 0, .int .u64 0, .int .u64 0, .int .u64 0, .int .u64 0, .int .u64 0], by kernel_rfl, rfl⟩
instance : TRow Tryd.prog 240 65 := ⟨⟨_, Tryd.underlying240, rfl⟩, by kernel_rfl⟩
instance : TEl Tryd.prog 240 65 65 (.agg #[.int .u8 0, .int .u8 0, .int .u8 0, .int .u8 0, .int .u8 0, .int .u8 0, .int .u8 0, .int .u8 0, .int .u8 0, .int .u8 0, .int .u8 0, .int .u8 0, .int .u8 0, .int .u8 0, .int .u8 0, .int .u8 0, .int .u8 0, .int .u8 0, .int .u8 0, .int .u8 0, .int .u8 0, .int .u8 0, .int .u8 0, .int .u8 0, .int .u8 0, .int .u8 0, .int .u8 0, .int .u8 0, .int .u8 0, .int .u8 0, .int .u8 0, .int .u8 0, .int .u8 0, .int .u8 0, .int .u8 0, .int .u8 0, .int .u8 0, .int .u8 0, .int .u8 0, .int .u8 0, .int .u8 0, .int .u8 0, .int .u8 0, .int .u8 0, .int .u8 0, .int .u8 0, .int .u8 0, .int .u8 0, .int .u8 0, .int .u8 0, .int .u8 0, .int .u8 0, .int .u8 0, .int .u8 0, .int .u8 0, .int .u8 0, .int .u8 0, .int .u8 0, .int .u8 0, .int .u8 0, .int .u8 0, .int .u8 0, .int .u8 0, .int .u8 0, .int .u8 0]) := ⟨by kernel_rfl, rfl, by decide⟩
instance : TZero Tryd.prog 240 [.int .u8 0, .int .u8 0, .int .u8 0, .int .u8 0, .int .u8 0, .int .u8 0, .int .u8 0, .int .u8 0, .int .u8 0, .int .u8 0, .int .u8 0, .int .u8 0, .int .u8 0, .int .u8 0, .int .u8 0, .int .u8 0, .int .u8 0, .int .u8 0, .int .u8 0, .int .u8 0, .int .u8 0, .int .u8 0, .int .u8 0, .int .u8 0, .int .u8 0, .int .u8 0, .int .u8 0, .int .u8 0, .int .u8 0, .int .u8 0, .int .u8 0, .int .u8 0, .int .u8 0, .int .u8 0, .int .u8 0, .int .u8 0, .int .u8 0, .int .u8 0, .int .u8 0, .int .u8 0, .int .u8 0, .int .u8 0, .int .u8 0, .int .u8 0, .int .u8 0, .int .u8 0, .int .u8 0, .int .u8 0, .int .u8 0, .int .u8 0, .int .u8 0, .int .u8 0, .int .u8 0, .int .u8 0, .int .u8 0, .int .u8 0, .int .u8 0, .int .u8 0, .int .u8 0, .int .u8 0, .int .u8 0, .int .u8 0, .int .u8 0, .int .u8 0, .int .u8 0] := ⟨.agg #[.int .u8 0, .int .u8 0, .int .u8 0, .int .u8 0, .int .u8 0, .int .u8 0, .int .u8 0, .int .u8 0, .int .u8 0, .int .u8 0, .int .u8 0, .int .u8 0, .int .u8 0, .int .u8 0, .int .u8 0, .int .u8 0, .int .u8 0, .int .u8 0, .int .u8 0, .int .u8 0, .int .u8 0, .int .u8 0, .int .u8 0, .int .u8 0, .int .u8 0, .int .u8 0, .int .u8 0, .int .u8 0, .int .u8 0, .int .u8 0, .int .u8 0, .int .u8 0, .int .u8 0, .int .u8 0, .int .u8 0, .int .u8 0, .int .u8 0, .int .u8 0, .int .u8 0, .int .u8 0, .int .u8 0, .int .u8 0, .int .u8 0, .int .u8 0, .int .u8 0, .int .u8 0, .int .u8 0, .int .u8 0, .int .u8 0, .int .u8 0, .int .u8 0, .int .u8 0, .int .u8 0, .int .u8 0, .int .u8 0, .int .u8 0, .int .u8 0, .int .u8 0, .int .u8 0, .int .u8 0, .int .u8 0, .int .u8 0, .int .u8 0, .int .u8 0, .int .u8 0], by kernel_rfl, rfl⟩
instance : TRow Tryd.prog 243 32 := ⟨⟨_, Tryd.underlying243, rfl⟩, by kernel_rfl⟩
instance : TEl Tryd.prog 243 32 32 (.agg #[.int .u8 0, .int .u8 0, .int .u8 0, .int .u8 0, .int .u8 0, .int .u8 0, .int .u8 0, .int .u8 0, .int .u8 0, .int .u8 0, .int .u8 0, .int .u8 0, .int .u8 0, .int .u8 0, .int .u8 0, .int .u8 0, .int .u8 0, .int .u8 0, .int .u8 0, .int .u8 0, .int .u8 0, .int .u8 0, .int .u8 0, .int .u8 0, .int .u8 0, .int .u8 0, .int .u8 0, .int .u8 0, .int .u8 0, .int .u8 0, .int .u8 0, .int .u8 0]) := ⟨by kernel_rfl, rfl, by decide⟩
instance : TZero Tryd.prog 243 [.int .u8 0, .int .u8 0, .int .u8 0, .int .u8 0, .int .u8 0, .int .u8 0, .int .u8 0, .int .u8 0, .int .u8 0, .int .u8 0, .int .u8 0, .int .u8 0, .int .u8 0, .int .u8 0, .int .u8 0, .int .u8 0, .int .u8 0, .int .u8 0, .int .u8 0, .int .u8 0, .int .u8 0, .int .u8 0, .int .u8 0, .int .u8 0, .int .u8 0, .int .u8 0, .int .u8 0, .int .u8 0, .int .u8 0, .int .u8 0, .int .u8 0, .int .u8 0] := ⟨.agg #[.int .u8 0, .int .u8 0, .int .u8 0, .int .u8 0, .int .u8 0, .int .u8 0, .int .u8 0, .int .u8 0, .int .u8 0, .int .u8 0, .int .u8 0, .int .u8 0, .int .u8 0, .int .u8 0, .int .u8 0, .int .u8 0, .int .u8 0, .int .u8 0, .int .u8 0, .int .u8 0, .int .u8 0, .int .u8 0, .int .u8 0, .int .u8 0, .int .u8 0, .int .u8 0, .int .u8 0, .int .u8 0, .int .u8 0, .int .u8 0, .int .u8 0, .int .u8 0], by kernel_rfl, rfl⟩
instance : TRow Tryd.prog 244 64 := ⟨⟨_, Tryd.underlying244, rfl⟩, by kernel_rfl⟩
instance : TEl Tryd.prog 244 64 64 (.agg #[.int .u8 0, .int .u8 0, .int .u8 0, .int .u8 0, .int .u8 0, .int .u8 0, .int .u8 0, .int .u8 0, .int .u8 0, .int .u8 0, .int .u8 0, .int .u8 0, .int .u8 0, .int .u8 0, .int .u8 0, .int .u8 0, .int .u8 0, .int .u8 0, .int .u8 0, .int .u8 0, .int .u8 0, .int .u8 0, .int .u8 0, .int .u8 0, .int .u8 0, .int .u8 0, .int .u8 0, .int .u8 0, .int .u8 0, .int .u8 0, .int .u8 0, .int .u8 0, .int .u8 0, .int .u8 0, .int .u8 0, .int .u8 0, .int .u8 0, .int .u8 0, .int .u8 0, .int .u8 0, .int .u8 0, .int .u8 0, .int .u8 0, .int .u8 0, .int .u8 0, .int .u8 0, .int .u8 0, .int .u8 0, .int .u8 0, .int .u8 0, .int .u8 0, .int .u8 0, .int .u8 0, .int .u8 0, .int .u8 0, .int .u8 0, .int .u8 0, .int .u8 0, .int .u8 0, .int .u8 0, .int .u8 0, .int .u8 0, .int .u8 0, .int .u8 0]) := ⟨by kernel_rfl, rfl, by decide⟩
instance : TZero Tryd.prog 244 [.int .u8 0, .int .u8 0, .int .u8 0, .int .u8 0, .int .u8 0, .int .u8 0, .int .u8 0, .int .u8 0, .int .u8 0, .int .u8 0, .int .u8 0, .int .u8 0, .int .u8 0, .int .u8 0, .int .u8 0, .int .u8 0, .int .u8 0, .int .u8 0, .int .u8 0, .int .u8 0, .int .u8 0, .int .u8 0, .int .u8 0, .int .u8 0, .int .u8 0, .int .u8 0, .int .u8 0, .int .u8 0, .int .u8 0, .int .u8 0, .int .u8 0, .int .u8 0, .int .u8 0, .int .u8 0, .int .u8 0, .int .u8 0, .int .u8 0, .int .u8 0, .int .u8 0, .int .u8 0, .int .u8 0, .int .u8 0, .int .u8 0, .int .u8 0, .int .u8 0, .int .u8 0, .int .u8 0, .int .u8 0, .int .u8 0, .int .u8 0, .int .u8 0, .int .u8 0, .int .u8 0, .int .u8 0, .int .u8 0, .int .u8 0, .int .u8 0, .int .u8 0, .int .u8 0, .int .u8 0, .int .u8 0, .int .u8 0, .int .u8 0, .int .u8 0] := ⟨.agg #[.int .u8 0, .int .u8 0, .int .u8 0, .int .u8 0, .int .u8 0, .int .u8 0, .int .u8 0, .int .u8 0, .int .u8 0, .int .u8 0, .int .u8 0, .int .u8 0, .int .u8 0, .int .u8 0, .int .u8 0, .int .u8 0, .int .u8 0, .int .u8 0, .int .u8 0, .int .u8 0, .int .u8 0, .int .u8 0, .int .u8 0, .int .u8 0, .int .u8 0, .int .u8 0, .int .u8 0, .int .u8 0, .int .u8 0, .int .u8 0, .int .u8 0, .int .u8 0, .int .u8 0, .int .u8 0, .int .u8 0, .int .u8 0, .int .u8 0, .int .u8 0, .int .u8 0, .int .u8 0, .int .u8 0, .int .u8 0, .int .u8 0, .int .u8 0, .int .u8 0, .int .u8 0, .int .u8 0, .int .u8 0, .int .u8 0, .int .u8 0, .int .u8 0, .int .u8 0, .int .u8 0, .int .u8 0, .int .u8 0, .int .u8 0, .int .u8 0, .int .u8 0, .int .u8 0, .int .u8 0, .int .u8 0, .int .u8 0, .int .u8 0, .int .u8 0], by kernel_rfl, rfl⟩
instance : TRow Tryd.prog 245 4 := ⟨⟨_, Tryd.underlying245, rfl⟩, by kernel_rfl⟩
instance : TFld Tryd.prog 245 0 0 := ⟨_, _, 0, Tryd.underlying245, rfl, rfl, by kernel_rfl⟩
instance : TFld Tryd.prog 245 1 1 := ⟨_, _, 0, Tryd.underlying245, rfl, rfl, by kernel_rfl⟩
instance : TFld Tryd.prog 245 2 2 := ⟨_, _, 0, Tryd.underlying245, rfl, rfl, by kernel_rfl⟩
instance : TFld Tryd.prog 245 3 3 := ⟨_, _, 0, Tryd.underlying245, rfl, rfl, by kernel_rfl⟩
instance : TEl Tryd.prog 245 4 40 (.agg #[.pointer none, .pointer none, .pointer none, .string ⟨#[]⟩]) := ⟨by kernel_rfl, rfl, by decide⟩
instance : TZero Tryd.prog 245 [.pointer none, .pointer none, .pointer none, .string ⟨#[]⟩] := ⟨.agg #[.pointer none, .pointer none, .pointer none, .string ⟨#[]⟩], by kernel_rfl, rfl⟩
instance : TRow Tryd.prog 246 4 := ⟨⟨_, Tryd.underlying246, rfl⟩, by kernel_rfl⟩
instance : TFld Tryd.prog 246 0 0 := ⟨_, _, 0, Tryd.underlying246, rfl, rfl, by kernel_rfl⟩
instance : TFld Tryd.prog 246 1 1 := ⟨_, _, 0, Tryd.underlying246, rfl, rfl, by kernel_rfl⟩
instance : TFld Tryd.prog 246 2 2 := ⟨_, _, 0, Tryd.underlying246, rfl, rfl, by kernel_rfl⟩
instance : TFld Tryd.prog 246 3 3 := ⟨_, _, 0, Tryd.underlying246, rfl, rfl, by kernel_rfl⟩
instance : TEl Tryd.prog 246 4 40 (.agg #[.pointer none, .pointer none, .pointer none, .string ⟨#[]⟩]) := ⟨by kernel_rfl, rfl, by decide⟩
instance : TZero Tryd.prog 246 [.pointer none, .pointer none, .pointer none, .string ⟨#[]⟩] := ⟨.agg #[.pointer none, .pointer none, .pointer none, .string ⟨#[]⟩], by kernel_rfl, rfl⟩
instance : TOne Tryd.prog 250 := ⟨⟨_, Tryd.underlying250, rfl⟩, by kernel_rfl⟩
instance : TEl Tryd.prog 250 1 1 (.int .u8 0) := ⟨by kernel_rfl, rfl, by decide⟩
instance : TZero Tryd.prog 250 [.int .u8 0] := ⟨.int .u8 0, by kernel_rfl, rfl⟩
instance : TOne Tryd.prog 251 := ⟨⟨_, Tryd.underlying251, rfl⟩, by kernel_rfl⟩
instance : TEl Tryd.prog 251 1 1 (.int .u8 0) := ⟨by kernel_rfl, rfl, by decide⟩
instance : TZero Tryd.prog 251 [.int .u8 0] := ⟨.int .u8 0, by kernel_rfl, rfl⟩
instance : TOne Tryd.prog 253 := ⟨⟨_, Tryd.underlying253, rfl⟩, by kernel_rfl⟩
instance : TEl Tryd.prog 253 1 4 (.int .i32 0) := ⟨by kernel_rfl, rfl, by decide⟩
instance : TZero Tryd.prog 253 [.int .i32 0] := ⟨.int .i32 0, by kernel_rfl, rfl⟩
instance : TOne Tryd.prog 254 := ⟨⟨_, Tryd.underlying254, rfl⟩, by kernel_rfl⟩
instance : TEl Tryd.prog 254 1 4 (.int .i32 0) := ⟨by kernel_rfl, rfl, by decide⟩
instance : TZero Tryd.prog 254 [.int .i32 0] := ⟨.int .i32 0, by kernel_rfl, rfl⟩
instance : TRow Tryd.prog 255 11 := ⟨⟨_, Tryd.underlying255, rfl⟩, by kernel_rfl⟩
instance : TFld Tryd.prog 255 0 0 := ⟨_, _, 0, Tryd.underlying255, rfl, rfl, by kernel_rfl⟩
instance : TFld Tryd.prog 255 1 1 := ⟨_, _, 0, Tryd.underlying255, rfl, rfl, by kernel_rfl⟩
instance : TFld Tryd.prog 255 2 2 := ⟨_, _, 0, Tryd.underlying255, rfl, rfl, by kernel_rfl⟩
instance : TFld Tryd.prog 255 3 3 := ⟨_, _, 0, Tryd.underlying255, rfl, rfl, by kernel_rfl⟩
instance : TFld Tryd.prog 255 4 4 := ⟨_, _, 0, Tryd.underlying255, rfl, rfl, by kernel_rfl⟩
instance : TFld Tryd.prog 255 5 5 := ⟨_, _, 0, Tryd.underlying255, rfl, rfl, by kernel_rfl⟩
instance : TFld Tryd.prog 255 6 6 := ⟨_, _, 0, Tryd.underlying255, rfl, rfl, by kernel_rfl⟩
instance : TFld Tryd.prog 255 7 7 := ⟨_, _, 0, Tryd.underlying255, rfl, rfl, by kernel_rfl⟩
instance : TFld Tryd.prog 255 8 8 := ⟨_, _, 0, Tryd.underlying255, rfl, rfl, by kernel_rfl⟩
instance : TFld Tryd.prog 255 9 9 := ⟨_, _, 0, Tryd.underlying255, rfl, rfl, by kernel_rfl⟩
instance : TFld Tryd.prog 255 10 10 := ⟨_, _, 0, Tryd.underlying255, rfl, rfl, by kernel_rfl⟩
instance : TRow Tryd.prog 256 11 := ⟨⟨_, Tryd.underlying256, rfl⟩, by kernel_rfl⟩
instance : TFld Tryd.prog 256 0 0 := ⟨_, _, 0, Tryd.underlying256, rfl, rfl, by kernel_rfl⟩
instance : TFld Tryd.prog 256 1 1 := ⟨_, _, 0, Tryd.underlying256, rfl, rfl, by kernel_rfl⟩
instance : TFld Tryd.prog 256 2 2 := ⟨_, _, 0, Tryd.underlying256, rfl, rfl, by kernel_rfl⟩
instance : TFld Tryd.prog 256 3 3 := ⟨_, _, 0, Tryd.underlying256, rfl, rfl, by kernel_rfl⟩
instance : TFld Tryd.prog 256 4 4 := ⟨_, _, 0, Tryd.underlying256, rfl, rfl, by kernel_rfl⟩
instance : TFld Tryd.prog 256 5 5 := ⟨_, _, 0, Tryd.underlying256, rfl, rfl, by kernel_rfl⟩
instance : TFld Tryd.prog 256 6 6 := ⟨_, _, 0, Tryd.underlying256, rfl, rfl, by kernel_rfl⟩
instance : TFld Tryd.prog 256 7 7 := ⟨_, _, 0, Tryd.underlying256, rfl, rfl, by kernel_rfl⟩
instance : TFld Tryd.prog 256 8 8 := ⟨_, _, 0, Tryd.underlying256, rfl, rfl, by kernel_rfl⟩
instance : TFld Tryd.prog 256 9 9 := ⟨_, _, 0, Tryd.underlying256, rfl, rfl, by kernel_rfl⟩
instance : TFld Tryd.prog 256 10 10 := ⟨_, _, 0, Tryd.underlying256, rfl, rfl, by kernel_rfl⟩
instance : TFun Tryd.prog 3 := ⟨_, Tryd.func3, by kernel_rfl, by kernel_rfl⟩
instance : TFun Tryd.prog 4 := ⟨_, Tryd.func4, by kernel_rfl, by kernel_rfl⟩
instance : TFun Tryd.prog 5 := ⟨_, Tryd.func5, by kernel_rfl, by kernel_rfl⟩
instance : TFun Tryd.prog 6 := ⟨_, Tryd.func6, by kernel_rfl, by kernel_rfl⟩
instance : TFun Tryd.prog 7 := ⟨_, Tryd.func7, by kernel_rfl, by kernel_rfl⟩
instance : TFun Tryd.prog 8 := ⟨_, Tryd.func8, by kernel_rfl, by kernel_rfl⟩
instance : TFun Tryd.prog 9 := ⟨_, Tryd.func9, by kernel_rfl, by kernel_rfl⟩
instance : TFun Tryd.prog 10 := ⟨_, Tryd.func10, by kernel_rfl, by kernel_rfl⟩
instance : TFun Tryd.prog 11 := ⟨_, Tryd.func11, by kernel_rfl, by kernel_rfl⟩
instance : TFun Tryd.prog 12 := ⟨_, Tryd.func12, by kernel_rfl, by kernel_rfl⟩
instance : TFun Tryd.prog 13 := ⟨_, Tryd.func13, by kernel_rfl, by kernel_rfl⟩
instance : TFun Tryd.prog 14 := ⟨_, Tryd.func14, by kernel_rfl, by kernel_rfl⟩
instance : TFun Tryd.prog 15 := ⟨_, Tryd.func15, by kernel_rfl, by kernel_rfl⟩
instance : TFun Tryd.prog 16 := ⟨_, Tryd.func16, by kernel_rfl, by kernel_rfl⟩
instance : TFun Tryd.prog 17 := ⟨_, Tryd.func17, by kernel_rfl, by kernel_rfl⟩
instance : TFun Tryd.prog 18 := ⟨_, Tryd.func18, by kernel_rfl, by kernel_rfl⟩
instance : TFun Tryd.prog 19 := ⟨_, Tryd.func19, by kernel_rfl, by kernel_rfl⟩
instance : TFun Tryd.prog 20 := ⟨_, Tryd.func20, by kernel_rfl, by kernel_rfl⟩
instance : TFun Tryd.prog 21 := ⟨_, Tryd.func21, by kernel_rfl, by kernel_rfl⟩
instance : TFun Tryd.prog 22 := ⟨_, Tryd.func22, by kernel_rfl, by kernel_rfl⟩
instance : TFun Tryd.prog 23 := ⟨_, Tryd.func23, by kernel_rfl, by kernel_rfl⟩
instance : TFun Tryd.prog 24 := ⟨_, Tryd.func24, by kernel_rfl, by kernel_rfl⟩
instance : TFun Tryd.prog 25 := ⟨_, Tryd.func25, by kernel_rfl, by kernel_rfl⟩
instance : TFun Tryd.prog 26 := ⟨_, Tryd.func26, by kernel_rfl, by kernel_rfl⟩
instance : TFun Tryd.prog 27 := ⟨_, Tryd.func27, by kernel_rfl, by kernel_rfl⟩
instance : TFun Tryd.prog 28 := ⟨_, Tryd.func28, by kernel_rfl, by kernel_rfl⟩
instance : TFun Tryd.prog 29 := ⟨_, Tryd.func29, by kernel_rfl, by kernel_rfl⟩
instance : TFun Tryd.prog 30 := ⟨_, Tryd.func30, by kernel_rfl, by kernel_rfl⟩
instance : TFun Tryd.prog 31 := ⟨_, Tryd.func31, by kernel_rfl, by kernel_rfl⟩
instance : TFun Tryd.prog 32 := ⟨_, Tryd.func32, by kernel_rfl, by kernel_rfl⟩
instance : TFun Tryd.prog 33 := ⟨_, Tryd.func33, by kernel_rfl, by kernel_rfl⟩
instance : TFun Tryd.prog 34 := ⟨_, Tryd.func34, by kernel_rfl, by kernel_rfl⟩
instance : TFun Tryd.prog 35 := ⟨_, Tryd.func35, by kernel_rfl, by kernel_rfl⟩
instance : TFun Tryd.prog 36 := ⟨_, Tryd.func36, by kernel_rfl, by kernel_rfl⟩
instance : TFun Tryd.prog 37 := ⟨_, Tryd.func37, by kernel_rfl, by kernel_rfl⟩
instance : TFun Tryd.prog 38 := ⟨_, Tryd.func38, by kernel_rfl, by kernel_rfl⟩
instance : TFun Tryd.prog 39 := ⟨_, Tryd.func39, by kernel_rfl, by kernel_rfl⟩
instance : TFun Tryd.prog 40 := ⟨_, Tryd.func40, by kernel_rfl, by kernel_rfl⟩
instance : TFun Tryd.prog 41 := ⟨_, Tryd.func41, by kernel_rfl, by kernel_rfl⟩
instance : TFun Tryd.prog 42 := ⟨_, Tryd.func42, by kernel_rfl, by kernel_rfl⟩
instance : TFun Tryd.prog 43 := ⟨_, Tryd.func43, by kernel_rfl, by kernel_rfl⟩
instance : TFun Tryd.prog 44 := ⟨_, Tryd.func44, by kernel_rfl, by kernel_rfl⟩
instance : TFun Tryd.prog 45 := ⟨_, Tryd.func45, by kernel_rfl, by kernel_rfl⟩
instance : TFun Tryd.prog 46 := ⟨_, Tryd.func46, by kernel_rfl, by kernel_rfl⟩
instance : TFun Tryd.prog 47 := ⟨_, Tryd.func47, by kernel_rfl, by kernel_rfl⟩
instance : TFun Tryd.prog 48 := ⟨_, Tryd.func48, by kernel_rfl, by kernel_rfl⟩
instance : TFun Tryd.prog 49 := ⟨_, Tryd.func49, by kernel_rfl, by kernel_rfl⟩
instance : TFun Tryd.prog 50 := ⟨_, Tryd.func50, by kernel_rfl, by kernel_rfl⟩
instance : TFun Tryd.prog 51 := ⟨_, Tryd.func51, by kernel_rfl, by kernel_rfl⟩
instance : TFun Tryd.prog 52 := ⟨_, Tryd.func52, by kernel_rfl, by kernel_rfl⟩
instance : TFun Tryd.prog 53 := ⟨_, Tryd.func53, by kernel_rfl, by kernel_rfl⟩
instance : TFun Tryd.prog 54 := ⟨_, Tryd.func54, by kernel_rfl, by kernel_rfl⟩
instance : TFun Tryd.prog 55 := ⟨_, Tryd.func55, by kernel_rfl, by kernel_rfl⟩
instance : TFun Tryd.prog 56 := ⟨_, Tryd.func56, by kernel_rfl, by kernel_rfl⟩
instance : TFun Tryd.prog 57 := ⟨_, Tryd.func57, by kernel_rfl, by kernel_rfl⟩
instance : TFun Tryd.prog 58 := ⟨_, Tryd.func58, by kernel_rfl, by kernel_rfl⟩
instance : TFun Tryd.prog 59 := ⟨_, Tryd.func59, by kernel_rfl, by kernel_rfl⟩
instance : TFun Tryd.prog 60 := ⟨_, Tryd.func60, by kernel_rfl, by kernel_rfl⟩
instance : TFun Tryd.prog 61 := ⟨_, Tryd.func61, by kernel_rfl, by kernel_rfl⟩
instance : TFun Tryd.prog 62 := ⟨_, Tryd.func62, by kernel_rfl, by kernel_rfl⟩
instance : TFun Tryd.prog 63 := ⟨_, Tryd.func63, by kernel_rfl, by kernel_rfl⟩
instance : TFun Tryd.prog 64 := ⟨_, Tryd.func64, by kernel_rfl, by kernel_rfl⟩
instance : TFun Tryd.prog 65 := ⟨_, Tryd.func65, by kernel_rfl, by kernel_rfl⟩
instance : TFun Tryd.prog 66 := ⟨_, Tryd.func66, by kernel_rfl, by kernel_rfl⟩
instance : TFun Tryd.prog 67 := ⟨_, Tryd.func67, by kernel_rfl, by kernel_rfl⟩
instance : TFun Tryd.prog 68 := ⟨_, Tryd.func68, by kernel_rfl, by kernel_rfl⟩
instance : TFun Tryd.prog 69 := ⟨_, Tryd.func69, by kernel_rfl, by kernel_rfl⟩
instance : TFun Tryd.prog 70 := ⟨_, Tryd.func70, by kernel_rfl, by kernel_rfl⟩
instance : TFun Tryd.prog 71 := ⟨_, Tryd.func71, by kernel_rfl, by kernel_rfl⟩
instance : TFun Tryd.prog 72 := ⟨_, Tryd.func72, by kernel_rfl, by kernel_rfl⟩
instance : TFun Tryd.prog 73 := ⟨_, Tryd.func73, by kernel_rfl, by kernel_rfl⟩
instance : TFun Tryd.prog 74 := ⟨_, Tryd.func74, by kernel_rfl, by kernel_rfl⟩
instance : TFun Tryd.prog 75 := ⟨_, Tryd.func75, by kernel_rfl, by kernel_rfl⟩
instance : TFun Tryd.prog 76 := ⟨_, Tryd.func76, by kernel_rfl, by kernel_rfl⟩
instance : TFun Tryd.prog 77 := ⟨_, Tryd.func77, by kernel_rfl, by kernel_rfl⟩
instance : TFun Tryd.prog 78 := ⟨_, Tryd.func78, by kernel_rfl, by kernel_rfl⟩
instance : TFun Tryd.prog 80 := ⟨_, Tryd.func80, by kernel_rfl, by kernel_rfl⟩
instance : TFun Tryd.prog 81 := ⟨_, Tryd.func81, by kernel_rfl, by kernel_rfl⟩
instance : TFun Tryd.prog 82 := ⟨_, Tryd.func82, by kernel_rfl, by kernel_rfl⟩
instance : TFun Tryd.prog 83 := ⟨_, Tryd.func83, by kernel_rfl, by kernel_rfl⟩
instance : TFun Tryd.prog 84 := ⟨_, Tryd.func84, by kernel_rfl, by kernel_rfl⟩
instance : TFun Tryd.prog 85 := ⟨_, Tryd.func85, by kernel_rfl, by kernel_rfl⟩
instance : TFun Tryd.prog 86 := ⟨_, Tryd.func86, by kernel_rfl, by kernel_rfl⟩
instance : TFun Tryd.prog 87 := ⟨_, Tryd.func87, by kernel_rfl, by kernel_rfl⟩
instance : TFun Tryd.prog 88 := ⟨_, Tryd.func88, by kernel_rfl, by kernel_rfl⟩
instance : TFun Tryd.prog 89 := ⟨_, Tryd.func89, by kernel_rfl, by kernel_rfl⟩
instance : TFun Tryd.prog 90 := ⟨_, Tryd.func90, by kernel_rfl, by kernel_rfl⟩
instance : TFun Tryd.prog 91 := ⟨_, Tryd.func91, by kernel_rfl, by kernel_rfl⟩
instance : TFun Tryd.prog 92 := ⟨_, Tryd.func92, by kernel_rfl, by kernel_rfl⟩
instance : TFun Tryd.prog 93 := ⟨_, Tryd.func93, by kernel_rfl, by kernel_rfl⟩
instance : TFun Tryd.prog 94 := ⟨_, Tryd.func94, by kernel_rfl, by kernel_rfl⟩
instance : TFun Tryd.prog 95 := ⟨_, Tryd.func95, by kernel_rfl, by kernel_rfl⟩
instance : TFun Tryd.prog 96 := ⟨_, Tryd.func96, by kernel_rfl, by kernel_rfl⟩
instance : TFun Tryd.prog 97 := ⟨_, Tryd.func97, by kernel_rfl, by kernel_rfl⟩
instance : TFun Tryd.prog 98 := ⟨_, Tryd.func98, by kernel_rfl, by kernel_rfl⟩
instance : TFun Tryd.prog 99 := ⟨_, Tryd.func99, by kernel_rfl, by kernel_rfl⟩
instance : TFun Tryd.prog 100 := ⟨_, Tryd.func100, by kernel_rfl, by kernel_rfl⟩
instance : TFun Tryd.prog 101 := ⟨_, Tryd.func101, by kernel_rfl, by kernel_rfl⟩
instance : TFun Tryd.prog 103 := ⟨_, Tryd.func103, by kernel_rfl, by kernel_rfl⟩
instance : TFun Tryd.prog 104 := ⟨_, Tryd.func104, by kernel_rfl, by kernel_rfl⟩
instance : TFun Tryd.prog 105 := ⟨_, Tryd.func105, by kernel_rfl, by kernel_rfl⟩
instance : TFun Tryd.prog 106 := ⟨_, Tryd.func106, by kernel_rfl, by kernel_rfl⟩
instance : TFun Tryd.prog 107 := ⟨_, Tryd.func107, by kernel_rfl, by kernel_rfl⟩
instance : TFun Tryd.prog 108 := ⟨_, Tryd.func108, by kernel_rfl, by kernel_rfl⟩
instance : TFun Tryd.prog 109 := ⟨_, Tryd.func109, by kernel_rfl, by kernel_rfl⟩
instance : TFun Tryd.prog 110 := ⟨_, Tryd.func110, by kernel_rfl, by kernel_rfl⟩
instance : TFun Tryd.prog 111 := ⟨_, Tryd.func111, by kernel_rfl, by kernel_rfl⟩
instance : TFun Tryd.prog 113 := ⟨_, Tryd.func113, by kernel_rfl, by kernel_rfl⟩
instance : TFun Tryd.prog 114 := ⟨_, Tryd.func114, by kernel_rfl, by kernel_rfl⟩
instance : TFun Tryd.prog 115 := ⟨_, Tryd.func115, by kernel_rfl, by kernel_rfl⟩
instance : TFun Tryd.prog 116 := ⟨_, Tryd.func116, by kernel_rfl, by kernel_rfl⟩
instance : TFun Tryd.prog 117 := ⟨_, Tryd.func117, by kernel_rfl, by kernel_rfl⟩
instance : TFun Tryd.prog 118 := ⟨_, Tryd.func118, by kernel_rfl, by kernel_rfl⟩
instance : TFun Tryd.prog 119 := ⟨_, Tryd.func119, by kernel_rfl, by kernel_rfl⟩
instance : TFun Tryd.prog 120 := ⟨_, Tryd.func120, by kernel_rfl, by kernel_rfl⟩
instance : TFun Tryd.prog 121 := ⟨_, Tryd.func121, by kernel_rfl, by kernel_rfl⟩
instance : TFun Tryd.prog 122 := ⟨_, Tryd.func122, by kernel_rfl, by kernel_rfl⟩
instance : TFun Tryd.prog 123 := ⟨_, Tryd.func123, by kernel_rfl, by kernel_rfl⟩
instance : TFun Tryd.prog 124 := ⟨_, Tryd.func124, by kernel_rfl, by kernel_rfl⟩
instance : TFun Tryd.prog 125 := ⟨_, Tryd.func125, by kernel_rfl, by kernel_rfl⟩
instance : TFun Tryd.prog 126 := ⟨_, Tryd.func126, by kernel_rfl, by kernel_rfl⟩
instance : TFun Tryd.prog 127 := ⟨_, Tryd.func127, by kernel_rfl, by kernel_rfl⟩
instance : TFun Tryd.prog 128 := ⟨_, Tryd.func128, by kernel_rfl, by kernel_rfl⟩
instance : TFun Tryd.prog 129 := ⟨_, Tryd.func129, by kernel_rfl, by kernel_rfl⟩
instance : TFun Tryd.prog 130 := ⟨_, Tryd.func130, by kernel_rfl, by kernel_rfl⟩
instance : TFun Tryd.prog 131 := ⟨_, Tryd.func131, by kernel_rfl, by kernel_rfl⟩
instance : TFun Tryd.prog 132 := ⟨_, Tryd.func132, by kernel_rfl, by kernel_rfl⟩
instance : TFun Tryd.prog 133 := ⟨_, Tryd.func133, by kernel_rfl, by kernel_rfl⟩
instance : TFun Tryd.prog 134 := ⟨_, Tryd.func134, by kernel_rfl, by kernel_rfl⟩
instance : TFun Tryd.prog 135 := ⟨_, Tryd.func135, by kernel_rfl, by kernel_rfl⟩
instance : TFun Tryd.prog 138 := ⟨_, Tryd.func138, by kernel_rfl, by kernel_rfl⟩
instance : TFun Tryd.prog 139 := ⟨_, Tryd.func139, by kernel_rfl, by kernel_rfl⟩
instance : TFun Tryd.prog 140 := ⟨_, Tryd.func140, by kernel_rfl, by kernel_rfl⟩
instance : TFun Tryd.prog 141 := ⟨_, Tryd.func141, by kernel_rfl, by kernel_rfl⟩
instance : TFun Tryd.prog 142 := ⟨_, Tryd.func142, by kernel_rfl, by kernel_rfl⟩
instance : TFun Tryd.prog 144 := ⟨_, Tryd.func144, by kernel_rfl, by kernel_rfl⟩
instance : TFun Tryd.prog 148 := ⟨_, Tryd.func148, by kernel_rfl, by kernel_rfl⟩
instance : TFun Tryd.prog 149 := ⟨_, Tryd.func149, by kernel_rfl, by kernel_rfl⟩
instance : TFun Tryd.prog 150 := ⟨_, Tryd.func150, by kernel_rfl, by kernel_rfl⟩
instance : TFun Tryd.prog 151 := ⟨_, Tryd.func151, by kernel_rfl, by kernel_rfl⟩
instance : TFun Tryd.prog 152 := ⟨_, Tryd.func152, by kernel_rfl, by kernel_rfl⟩
instance : TFun Tryd.prog 156 := ⟨_, Tryd.func156, by kernel_rfl, by kernel_rfl⟩
instance : TFun Tryd.prog 157 := ⟨_, Tryd.func157, by kernel_rfl, by kernel_rfl⟩
instance : TFun Tryd.prog 158 := ⟨_, Tryd.func158, by kernel_rfl, by kernel_rfl⟩
instance : TFun Tryd.prog 164 := ⟨_, Tryd.func164, by kernel_rfl, by kernel_rfl⟩
instance : TFun Tryd.prog 168 := ⟨_, Tryd.func168, by kernel_rfl, by kernel_rfl⟩
instance : TFun Tryd.prog 169 := ⟨_, Tryd.func169, by kernel_rfl, by kernel_rfl⟩
instance : TFun Tryd.prog 173 := ⟨_, Tryd.func173, by kernel_rfl, by kernel_rfl⟩

end Go.Proofs.YthffgbhphjkdeaaDoor
namespace Go.Proofs.YthffgbhphjkdeaaDoor
open Go.RowKit
set_option linter.unusedVariables false
set_option linter.unusedSimpArgs false

def valOk (v : Val) : Bool := if v.kind = 0 ∨ v.kind = 3 then decide (v.n = 0) else if v.kind = 1 then inB v.n (-1048576) 1048576 else if v.kind = 2 then inB v.n (-1000) 1000 else false
def sizeOk (v : Val) : Bool := valOk v && decide (0 ≤ v.n)
set_option maxRecDepth 100000 in
set_option maxHeartbeats 4000000 in
theorem valueOk_any (v : Val) (w : World) : Calls Tryd.prog 57 #[.agg #[.int .i64 v.kind, .int .i64 v.n]] w fun e w' => e = .returned (.bool (valOk v)) ∧ Mod (fun _ => False) w w' := by
  refine calls_sx Tryd.func57 rfl rfl (fun a h1 h2 h3 => ((Fr.nil h1 h2).arg (h3 0 _ rfl))) ?_
  by_cases k0 : v.kind = 0
  · have hv : valOk v = decide (v.n = 0) := if_pos (.inl k0)
    repeat (first | refine SX.seq ?_ | refine SXl.nil ?_ | refine SX.region ?_ | refine SQ.thenNormal ?_ | refine SX.block ?_ | refine SX.skip ?_ | refine SX.condT rfl ?_ | refine SX.condF rfl ?_ | (refine l_call ?_; (first | refine SXl.v (OpW.calls rfl (fun w _ => in_any _ _ _ _)) rfl ?_ ?_ ?_); rfl; rfl) | (refine l_load ?_; (first | refine SXl.v (OpW.load 0 rfl rfl rfl) rfl ?_ ?_ ?_ | refine SXl.v (OpW.load 1 rfl rfl rfl) rfl ?_ ?_ ?_ | refine SXl.v (OpW.load 2 rfl rfl rfl) rfl ?_ ?_ ?_ | refine SXl.v (OpW.load 3 rfl rfl rfl) rfl ?_ ?_ ?_ | refine SXl.v (OpW.loadOld rfl (by assumption) (fun h => h)) rfl ?_ ?_ ?_); rfl; rfl) | (refine l_fieldAddr ?_; (first | refine SXl.v (OpW.fieldAddr rfl) rfl ?_ ?_ ?_); rfl; rfl) | (refine l_assign ?_; (first | refine SXl.v (OpW.assign rfl) rfl ?_ ?_ ?_); rfl; rfl) | (refine l_eql ?_; (first | refine SXl.v (OpW.eqlT rfl rfl (by omega)) rfl ?_ ?_ ?_ | refine SXl.v (OpW.eqlF rfl rfl (by omega)) rfl ?_ ?_ ?_ | refine SXl.v (OpW.eql rfl rfl) rfl ?_ ?_ ?_); rfl; rfl) | (refine l_box ?_; refine SXl.box ?_ ?_ rfl rfl (fun g => ?_); rfl; rfl) | refine SX.ret ?_ | refine SX.exit ?_ | refine SQ.thenRet ?_ | refine SQ.thenExit ?_ | refine SQ.blockNormal ?_ | refine SQ.blockRet ?_ | refine SQ.blockExit ?_ | refine SQ.blockOther rfl ?_)
    refine SQ.body1 rfl rfl (fun w' hl => ⟨ret_bool hv.symm, hl.mod⟩)
  · by_cases k3 : v.kind = 3
    · have hv : valOk v = decide (v.n = 0) := if_pos (.inr k3)
      repeat (first | refine SX.seq ?_ | refine SXl.nil ?_ | refine SX.region ?_ | refine SQ.thenNormal ?_ | refine SX.block ?_ | refine SX.skip ?_ | refine SX.condT rfl ?_ | refine SX.condF rfl ?_ | (refine l_call ?_; (first | refine SXl.v (OpW.calls rfl (fun w _ => in_any _ _ _ _)) rfl ?_ ?_ ?_); rfl; rfl) | (refine l_load ?_; (first | refine SXl.v (OpW.load 0 rfl rfl rfl) rfl ?_ ?_ ?_ | refine SXl.v (OpW.load 1 rfl rfl rfl) rfl ?_ ?_ ?_ | refine SXl.v (OpW.load 2 rfl rfl rfl) rfl ?_ ?_ ?_ | refine SXl.v (OpW.load 3 rfl rfl rfl) rfl ?_ ?_ ?_ | refine SXl.v (OpW.loadOld rfl (by assumption) (fun h => h)) rfl ?_ ?_ ?_); rfl; rfl) | (refine l_fieldAddr ?_; (first | refine SXl.v (OpW.fieldAddr rfl) rfl ?_ ?_ ?_); rfl; rfl) | (refine l_assign ?_; (first | refine SXl.v (OpW.assign rfl) rfl ?_ ?_ ?_); rfl; rfl) | (refine l_eql ?_; (first | refine SXl.v (OpW.eqlT rfl rfl (by omega)) rfl ?_ ?_ ?_ | refine SXl.v (OpW.eqlF rfl rfl (by omega)) rfl ?_ ?_ ?_ | refine SXl.v (OpW.eql rfl rfl) rfl ?_ ?_ ?_); rfl; rfl) | (refine l_box ?_; refine SXl.box ?_ ?_ rfl rfl (fun g => ?_); rfl; rfl) | refine SX.ret ?_ | refine SX.exit ?_ | refine SQ.thenRet ?_ | refine SQ.thenExit ?_ | refine SQ.blockNormal ?_ | refine SQ.blockRet ?_ | refine SQ.blockExit ?_ | refine SQ.blockOther rfl ?_)
      refine SQ.body1 rfl rfl (fun w' hl => ⟨ret_bool hv.symm, hl.mod⟩)
    · by_cases k1 : v.kind = 1
      · have hv : valOk v = inB v.n (-1048576) 1048576 := (if_neg (by omega)).trans (if_pos k1)
        repeat (first | refine SX.seq ?_ | refine SXl.nil ?_ | refine SX.region ?_ | refine SQ.thenNormal ?_ | refine SX.block ?_ | refine SX.skip ?_ | refine SX.condT rfl ?_ | refine SX.condF rfl ?_ | (refine l_call ?_; (first | refine SXl.v (OpW.calls rfl (fun w _ => in_any _ _ _ _)) rfl ?_ ?_ ?_); rfl; rfl) | (refine l_load ?_; (first | refine SXl.v (OpW.load 0 rfl rfl rfl) rfl ?_ ?_ ?_ | refine SXl.v (OpW.load 1 rfl rfl rfl) rfl ?_ ?_ ?_ | refine SXl.v (OpW.load 2 rfl rfl rfl) rfl ?_ ?_ ?_ | refine SXl.v (OpW.load 3 rfl rfl rfl) rfl ?_ ?_ ?_ | refine SXl.v (OpW.loadOld rfl (by assumption) (fun h => h)) rfl ?_ ?_ ?_); rfl; rfl) | (refine l_fieldAddr ?_; (first | refine SXl.v (OpW.fieldAddr rfl) rfl ?_ ?_ ?_); rfl; rfl) | (refine l_assign ?_; (first | refine SXl.v (OpW.assign rfl) rfl ?_ ?_ ?_); rfl; rfl) | (refine l_eql ?_; (first | refine SXl.v (OpW.eqlT rfl rfl (by omega)) rfl ?_ ?_ ?_ | refine SXl.v (OpW.eqlF rfl rfl (by omega)) rfl ?_ ?_ ?_ | refine SXl.v (OpW.eql rfl rfl) rfl ?_ ?_ ?_); rfl; rfl) | (refine l_box ?_; refine SXl.box ?_ ?_ rfl rfl (fun g => ?_); rfl; rfl) | refine SX.ret ?_ | refine SX.exit ?_ | refine SQ.thenRet ?_ | refine SQ.thenExit ?_ | refine SQ.blockNormal ?_ | refine SQ.blockRet ?_ | refine SQ.blockExit ?_ | refine SQ.blockOther rfl ?_)
        refine SQ.body1 rfl rfl (fun w' hl => ⟨ret_bool hv.symm, hl.mod⟩)
      · by_cases k2 : v.kind = 2
        · have hv : valOk v = inB v.n (-1000) 1000 := (if_neg (by omega)).trans ((if_neg k1).trans (if_pos k2))
          repeat (first | refine SX.seq ?_ | refine SXl.nil ?_ | refine SX.region ?_ | refine SQ.thenNormal ?_ | refine SX.block ?_ | refine SX.skip ?_ | refine SX.condT rfl ?_ | refine SX.condF rfl ?_ | (refine l_call ?_; (first | refine SXl.v (OpW.calls rfl (fun w _ => in_any _ _ _ _)) rfl ?_ ?_ ?_); rfl; rfl) | (refine l_load ?_; (first | refine SXl.v (OpW.load 0 rfl rfl rfl) rfl ?_ ?_ ?_ | refine SXl.v (OpW.load 1 rfl rfl rfl) rfl ?_ ?_ ?_ | refine SXl.v (OpW.load 2 rfl rfl rfl) rfl ?_ ?_ ?_ | refine SXl.v (OpW.load 3 rfl rfl rfl) rfl ?_ ?_ ?_ | refine SXl.v (OpW.loadOld rfl (by assumption) (fun h => h)) rfl ?_ ?_ ?_); rfl; rfl) | (refine l_fieldAddr ?_; (first | refine SXl.v (OpW.fieldAddr rfl) rfl ?_ ?_ ?_); rfl; rfl) | (refine l_assign ?_; (first | refine SXl.v (OpW.assign rfl) rfl ?_ ?_ ?_); rfl; rfl) | (refine l_eql ?_; (first | refine SXl.v (OpW.eqlT rfl rfl (by omega)) rfl ?_ ?_ ?_ | refine SXl.v (OpW.eqlF rfl rfl (by omega)) rfl ?_ ?_ ?_ | refine SXl.v (OpW.eql rfl rfl) rfl ?_ ?_ ?_); rfl; rfl) | (refine l_box ?_; refine SXl.box ?_ ?_ rfl rfl (fun g => ?_); rfl; rfl) | refine SX.ret ?_ | refine SX.exit ?_ | refine SQ.thenRet ?_ | refine SQ.thenExit ?_ | refine SQ.blockNormal ?_ | refine SQ.blockRet ?_ | refine SQ.blockExit ?_ | refine SQ.blockOther rfl ?_)
          refine SQ.body1 rfl rfl (fun w' hl => ⟨ret_bool hv.symm, hl.mod⟩)
        · have hv : valOk v = false := (if_neg (by omega)).trans ((if_neg k1).trans (if_neg k2))
          repeat (first | refine SX.seq ?_ | refine SXl.nil ?_ | refine SX.region ?_ | refine SQ.thenNormal ?_ | refine SX.block ?_ | refine SX.skip ?_ | refine SX.condT rfl ?_ | refine SX.condF rfl ?_ | (refine l_call ?_; (first | refine SXl.v (OpW.calls rfl (fun w _ => in_any _ _ _ _)) rfl ?_ ?_ ?_); rfl; rfl) | (refine l_load ?_; (first | refine SXl.v (OpW.load 0 rfl rfl rfl) rfl ?_ ?_ ?_ | refine SXl.v (OpW.load 1 rfl rfl rfl) rfl ?_ ?_ ?_ | refine SXl.v (OpW.load 2 rfl rfl rfl) rfl ?_ ?_ ?_ | refine SXl.v (OpW.load 3 rfl rfl rfl) rfl ?_ ?_ ?_ | refine SXl.v (OpW.loadOld rfl (by assumption) (fun h => h)) rfl ?_ ?_ ?_); rfl; rfl) | (refine l_fieldAddr ?_; (first | refine SXl.v (OpW.fieldAddr rfl) rfl ?_ ?_ ?_); rfl; rfl) | (refine l_assign ?_; (first | refine SXl.v (OpW.assign rfl) rfl ?_ ?_ ?_); rfl; rfl) | (refine l_eql ?_; (first | refine SXl.v (OpW.eqlT rfl rfl (by omega)) rfl ?_ ?_ ?_ | refine SXl.v (OpW.eqlF rfl rfl (by omega)) rfl ?_ ?_ ?_ | refine SXl.v (OpW.eql rfl rfl) rfl ?_ ?_ ?_); rfl; rfl) | (refine l_box ?_; refine SXl.box ?_ ?_ rfl rfl (fun g => ?_); rfl; rfl) | refine SX.ret ?_ | refine SX.exit ?_ | refine SQ.thenRet ?_ | refine SQ.thenExit ?_ | refine SQ.blockNormal ?_ | refine SQ.blockRet ?_ | refine SQ.blockExit ?_ | refine SQ.blockOther rfl ?_)
          refine SQ.body1 rfl rfl (fun w' hl => ⟨ret_bool hv.symm, hl.mod⟩)

set_option maxRecDepth 100000 in
set_option maxHeartbeats 4000000 in
theorem svalueOk_any (v : Val) (w : World) : Calls Tryd.prog 51 #[.agg #[.int .i64 v.kind, .int .i64 v.n]] w fun e w' => e = .returned (.bool (valOk v)) ∧ Mod (fun _ => False) w w' := by
  refine calls_sx Tryd.func51 rfl rfl (fun a h1 h2 h3 => ((Fr.nil h1 h2).arg (h3 0 _ rfl))) ?_
  by_cases k0 : v.kind = 0
  · have hv : valOk v = decide (v.n = 0) := if_pos (.inl k0)
    repeat (first | refine SX.seq ?_ | refine SXl.nil ?_ | refine SX.region ?_ | refine SQ.thenNormal ?_ | refine SX.block ?_ | refine SX.skip ?_ | refine SX.condT rfl ?_ | refine SX.condF rfl ?_ | (refine l_call ?_; (first | refine SXl.v (OpW.calls rfl (fun w _ => l01In_any _ _ _ _)) rfl ?_ ?_ ?_); rfl; rfl) | (refine l_load ?_; (first | refine SXl.v (OpW.load 0 rfl rfl rfl) rfl ?_ ?_ ?_ | refine SXl.v (OpW.load 1 rfl rfl rfl) rfl ?_ ?_ ?_ | refine SXl.v (OpW.load 2 rfl rfl rfl) rfl ?_ ?_ ?_ | refine SXl.v (OpW.load 3 rfl rfl rfl) rfl ?_ ?_ ?_ | refine SXl.v (OpW.loadOld rfl (by assumption) (fun h => h)) rfl ?_ ?_ ?_); rfl; rfl) | (refine l_fieldAddr ?_; (first | refine SXl.v (OpW.fieldAddr rfl) rfl ?_ ?_ ?_); rfl; rfl) | (refine l_assign ?_; (first | refine SXl.v (OpW.assign rfl) rfl ?_ ?_ ?_); rfl; rfl) | (refine l_eql ?_; (first | refine SXl.v (OpW.eqlT rfl rfl (by omega)) rfl ?_ ?_ ?_ | refine SXl.v (OpW.eqlF rfl rfl (by omega)) rfl ?_ ?_ ?_ | refine SXl.v (OpW.eql rfl rfl) rfl ?_ ?_ ?_); rfl; rfl) | (refine l_box ?_; refine SXl.box ?_ ?_ rfl rfl (fun g => ?_); rfl; rfl) | refine SX.ret ?_ | refine SX.exit ?_ | refine SQ.thenRet ?_ | refine SQ.thenExit ?_ | refine SQ.blockNormal ?_ | refine SQ.blockRet ?_ | refine SQ.blockExit ?_ | refine SQ.blockOther rfl ?_)
    refine SQ.body1 rfl rfl (fun w' hl => ⟨ret_bool hv.symm, hl.mod⟩)
  · by_cases k3 : v.kind = 3
    · have hv : valOk v = decide (v.n = 0) := if_pos (.inr k3)
      repeat (first | refine SX.seq ?_ | refine SXl.nil ?_ | refine SX.region ?_ | refine SQ.thenNormal ?_ | refine SX.block ?_ | refine SX.skip ?_ | refine SX.condT rfl ?_ | refine SX.condF rfl ?_ | (refine l_call ?_; (first | refine SXl.v (OpW.calls rfl (fun w _ => l01In_any _ _ _ _)) rfl ?_ ?_ ?_); rfl; rfl) | (refine l_load ?_; (first | refine SXl.v (OpW.load 0 rfl rfl rfl) rfl ?_ ?_ ?_ | refine SXl.v (OpW.load 1 rfl rfl rfl) rfl ?_ ?_ ?_ | refine SXl.v (OpW.load 2 rfl rfl rfl) rfl ?_ ?_ ?_ | refine SXl.v (OpW.load 3 rfl rfl rfl) rfl ?_ ?_ ?_ | refine SXl.v (OpW.loadOld rfl (by assumption) (fun h => h)) rfl ?_ ?_ ?_); rfl; rfl) | (refine l_fieldAddr ?_; (first | refine SXl.v (OpW.fieldAddr rfl) rfl ?_ ?_ ?_); rfl; rfl) | (refine l_assign ?_; (first | refine SXl.v (OpW.assign rfl) rfl ?_ ?_ ?_); rfl; rfl) | (refine l_eql ?_; (first | refine SXl.v (OpW.eqlT rfl rfl (by omega)) rfl ?_ ?_ ?_ | refine SXl.v (OpW.eqlF rfl rfl (by omega)) rfl ?_ ?_ ?_ | refine SXl.v (OpW.eql rfl rfl) rfl ?_ ?_ ?_); rfl; rfl) | (refine l_box ?_; refine SXl.box ?_ ?_ rfl rfl (fun g => ?_); rfl; rfl) | refine SX.ret ?_ | refine SX.exit ?_ | refine SQ.thenRet ?_ | refine SQ.thenExit ?_ | refine SQ.blockNormal ?_ | refine SQ.blockRet ?_ | refine SQ.blockExit ?_ | refine SQ.blockOther rfl ?_)
      refine SQ.body1 rfl rfl (fun w' hl => ⟨ret_bool hv.symm, hl.mod⟩)
    · by_cases k1 : v.kind = 1
      · have hv : valOk v = inB v.n (-1048576) 1048576 := (if_neg (by omega)).trans (if_pos k1)
        repeat (first | refine SX.seq ?_ | refine SXl.nil ?_ | refine SX.region ?_ | refine SQ.thenNormal ?_ | refine SX.block ?_ | refine SX.skip ?_ | refine SX.condT rfl ?_ | refine SX.condF rfl ?_ | (refine l_call ?_; (first | refine SXl.v (OpW.calls rfl (fun w _ => l01In_any _ _ _ _)) rfl ?_ ?_ ?_); rfl; rfl) | (refine l_load ?_; (first | refine SXl.v (OpW.load 0 rfl rfl rfl) rfl ?_ ?_ ?_ | refine SXl.v (OpW.load 1 rfl rfl rfl) rfl ?_ ?_ ?_ | refine SXl.v (OpW.load 2 rfl rfl rfl) rfl ?_ ?_ ?_ | refine SXl.v (OpW.load 3 rfl rfl rfl) rfl ?_ ?_ ?_ | refine SXl.v (OpW.loadOld rfl (by assumption) (fun h => h)) rfl ?_ ?_ ?_); rfl; rfl) | (refine l_fieldAddr ?_; (first | refine SXl.v (OpW.fieldAddr rfl) rfl ?_ ?_ ?_); rfl; rfl) | (refine l_assign ?_; (first | refine SXl.v (OpW.assign rfl) rfl ?_ ?_ ?_); rfl; rfl) | (refine l_eql ?_; (first | refine SXl.v (OpW.eqlT rfl rfl (by omega)) rfl ?_ ?_ ?_ | refine SXl.v (OpW.eqlF rfl rfl (by omega)) rfl ?_ ?_ ?_ | refine SXl.v (OpW.eql rfl rfl) rfl ?_ ?_ ?_); rfl; rfl) | (refine l_box ?_; refine SXl.box ?_ ?_ rfl rfl (fun g => ?_); rfl; rfl) | refine SX.ret ?_ | refine SX.exit ?_ | refine SQ.thenRet ?_ | refine SQ.thenExit ?_ | refine SQ.blockNormal ?_ | refine SQ.blockRet ?_ | refine SQ.blockExit ?_ | refine SQ.blockOther rfl ?_)
        refine SQ.body1 rfl rfl (fun w' hl => ⟨ret_bool hv.symm, hl.mod⟩)
      · by_cases k2 : v.kind = 2
        · have hv : valOk v = inB v.n (-1000) 1000 := (if_neg (by omega)).trans ((if_neg k1).trans (if_pos k2))
          repeat (first | refine SX.seq ?_ | refine SXl.nil ?_ | refine SX.region ?_ | refine SQ.thenNormal ?_ | refine SX.block ?_ | refine SX.skip ?_ | refine SX.condT rfl ?_ | refine SX.condF rfl ?_ | (refine l_call ?_; (first | refine SXl.v (OpW.calls rfl (fun w _ => l01In_any _ _ _ _)) rfl ?_ ?_ ?_); rfl; rfl) | (refine l_load ?_; (first | refine SXl.v (OpW.load 0 rfl rfl rfl) rfl ?_ ?_ ?_ | refine SXl.v (OpW.load 1 rfl rfl rfl) rfl ?_ ?_ ?_ | refine SXl.v (OpW.load 2 rfl rfl rfl) rfl ?_ ?_ ?_ | refine SXl.v (OpW.load 3 rfl rfl rfl) rfl ?_ ?_ ?_ | refine SXl.v (OpW.loadOld rfl (by assumption) (fun h => h)) rfl ?_ ?_ ?_); rfl; rfl) | (refine l_fieldAddr ?_; (first | refine SXl.v (OpW.fieldAddr rfl) rfl ?_ ?_ ?_); rfl; rfl) | (refine l_assign ?_; (first | refine SXl.v (OpW.assign rfl) rfl ?_ ?_ ?_); rfl; rfl) | (refine l_eql ?_; (first | refine SXl.v (OpW.eqlT rfl rfl (by omega)) rfl ?_ ?_ ?_ | refine SXl.v (OpW.eqlF rfl rfl (by omega)) rfl ?_ ?_ ?_ | refine SXl.v (OpW.eql rfl rfl) rfl ?_ ?_ ?_); rfl; rfl) | (refine l_box ?_; refine SXl.box ?_ ?_ rfl rfl (fun g => ?_); rfl; rfl) | refine SX.ret ?_ | refine SX.exit ?_ | refine SQ.thenRet ?_ | refine SQ.thenExit ?_ | refine SQ.blockNormal ?_ | refine SQ.blockRet ?_ | refine SQ.blockExit ?_ | refine SQ.blockOther rfl ?_)
          refine SQ.body1 rfl rfl (fun w' hl => ⟨ret_bool hv.symm, hl.mod⟩)
        · have hv : valOk v = false := (if_neg (by omega)).trans ((if_neg k1).trans (if_neg k2))
          repeat (first | refine SX.seq ?_ | refine SXl.nil ?_ | refine SX.region ?_ | refine SQ.thenNormal ?_ | refine SX.block ?_ | refine SX.skip ?_ | refine SX.condT rfl ?_ | refine SX.condF rfl ?_ | (refine l_call ?_; (first | refine SXl.v (OpW.calls rfl (fun w _ => l01In_any _ _ _ _)) rfl ?_ ?_ ?_); rfl; rfl) | (refine l_load ?_; (first | refine SXl.v (OpW.load 0 rfl rfl rfl) rfl ?_ ?_ ?_ | refine SXl.v (OpW.load 1 rfl rfl rfl) rfl ?_ ?_ ?_ | refine SXl.v (OpW.load 2 rfl rfl rfl) rfl ?_ ?_ ?_ | refine SXl.v (OpW.load 3 rfl rfl rfl) rfl ?_ ?_ ?_ | refine SXl.v (OpW.loadOld rfl (by assumption) (fun h => h)) rfl ?_ ?_ ?_); rfl; rfl) | (refine l_fieldAddr ?_; (first | refine SXl.v (OpW.fieldAddr rfl) rfl ?_ ?_ ?_); rfl; rfl) | (refine l_assign ?_; (first | refine SXl.v (OpW.assign rfl) rfl ?_ ?_ ?_); rfl; rfl) | (refine l_eql ?_; (first | refine SXl.v (OpW.eqlT rfl rfl (by omega)) rfl ?_ ?_ ?_ | refine SXl.v (OpW.eqlF rfl rfl (by omega)) rfl ?_ ?_ ?_ | refine SXl.v (OpW.eql rfl rfl) rfl ?_ ?_ ?_); rfl; rfl) | (refine l_box ?_; refine SXl.box ?_ ?_ rfl rfl (fun g => ?_); rfl; rfl) | refine SX.ret ?_ | refine SX.exit ?_ | refine SQ.thenRet ?_ | refine SQ.thenExit ?_ | refine SQ.blockNormal ?_ | refine SQ.blockRet ?_ | refine SQ.blockExit ?_ | refine SQ.blockOther rfl ?_)
          refine SQ.body1 rfl rfl (fun w' hl => ⟨ret_bool hv.symm, hl.mod⟩)

end Go.Proofs.YthffgbhphjkdeaaDoor
namespace Go.Proofs.YthffgbhphjkdeaaDoor
open Go.RowKit

def valText (v : Val) : List UInt8 := if valOk v then (if v.kind = 1 then Lib.itoa v.n else if v.kind = 2 then Lib.itoa v.n ++ [37] else if v.kind = 3 then [97, 117, 116, 111] else [110, 111, 110, 101]) else [63]
theorem valText_short (v : Val) (hb : I64 v.n) : (valText v).length ≤ 24 := by
  have h := Lib.itoa_length_le v.n hb.1 hb.2
  unfold valText
  split
  · split
    · omega
    · split
      · rw [List.length_append, List.length_singleton]; omega
      · split <;> simp
  · simp
set_option maxRecDepth 100000 in
set_option maxHeartbeats 4000000 in
theorem valueText_any (v : Val) (hb : I64 v.n) (w : World) (ht : Tab w) : Calls Tryd.prog 49 #[.agg v.cells.toArray] w fun e w' => e = .returned (.string ⟨(valText v).toArray⟩) ∧ Mod (fun _ => False) w w' := by
  refine calls_sx Tryd.func49 rfl rfl (fun a h1 h2 h3 => ((Fr.nil h1 h2).arg (h3 0 _ rfl))) ?_
  have hlen := Lib.itoa_length_le v.n hb.1 hb.2
  have hd := fun w h => decimal_any v.n hb w h
  cases hv : valOk v
  · have e : valText v = [63] := by simp [valText, hv]
    rw [e]
    repeat (first | refine SX.seq ?_ | refine SXl.nil ?_ | refine SX.region ?_ | refine SQ.thenNormal ?_ | refine SX.block ?_ | refine SX.skip ?_ | refine SX.condT rfl ?_ | refine SX.condF rfl ?_ | (refine l_call ?_; (first | refine SXl.v (OpW.call rfl (fun w hl => valueOk_any v _)) rfl ?_ ?_ ?_ | refine SXl.v (OpW.call rfl (fun w hl => valueOk_any _ _)) rfl ?_ ?_ ?_); rfl; rfl) | (refine l_load ?_; (first | refine SXl.v (OpW.load 0 rfl rfl rfl) rfl ?_ ?_ ?_ | refine SXl.v (OpW.load 1 rfl rfl rfl) rfl ?_ ?_ ?_ | refine SXl.v (OpW.load 2 rfl rfl rfl) rfl ?_ ?_ ?_ | refine SXl.v (OpW.load 3 rfl rfl rfl) rfl ?_ ?_ ?_ | refine SXl.v (OpW.loadOld rfl (by assumption) (fun h => h)) rfl ?_ ?_ ?_ | refine SXl.v (OpW.loadAll 0 rfl rfl rfl) rfl ?_ ?_ ?_ | refine SXl.v (OpW.loadAll 1 rfl rfl rfl) rfl ?_ ?_ ?_ | refine SXl.v (OpW.loadAll 2 rfl rfl rfl) rfl ?_ ?_ ?_ | refine SXl.v (OpW.loadAll 3 rfl rfl rfl) rfl ?_ ?_ ?_ | refine SXl.v (OpW.loadRow 0 rfl rfl rfl rfl) rfl ?_ ?_ ?_ | refine SXl.v (OpW.loadRow 1 rfl rfl rfl rfl) rfl ?_ ?_ ?_ | refine SXl.v (OpW.loadRow 2 rfl rfl rfl rfl) rfl ?_ ?_ ?_ | refine SXl.v (OpW.loadRow 3 rfl rfl rfl rfl) rfl ?_ ?_ ?_); rfl; rfl) | (refine l_fieldAddr ?_; (first | refine SXl.v (OpW.fieldAddr rfl) rfl ?_ ?_ ?_); rfl; rfl) | (refine l_assign ?_; (first | refine SXl.v (OpW.assign rfl) rfl ?_ ?_ ?_); rfl; rfl) | (refine l_add ?_; (first | refine SXl.v (OpW.cat rfl rfl (by omega)) rfl ?_ ?_ ?_); rfl; rfl) | (refine l_eql ?_; (first | refine SXl.v (OpW.eqlT rfl rfl (by omega)) rfl ?_ ?_ ?_ | refine SXl.v (OpW.eqlF rfl rfl (by omega)) rfl ?_ ?_ ?_ | refine SXl.v (OpW.eql rfl rfl) rfl ?_ ?_ ?_); rfl; rfl) | (refine l_not ?_; (first | refine SXl.v (OpW.not rfl) rfl ?_ ?_ ?_); rfl; rfl) | (refine l_box ?_; refine SXl.box ?_ ?_ rfl rfl (fun g => ?_); rfl; rfl) | (rw [hv]) | refine SX.ret ?_ | refine SX.exit ?_ | refine SQ.thenRet ?_ | refine SQ.thenExit ?_ | refine SQ.blockNormal ?_ | refine SQ.blockRet ?_ | refine SQ.blockExit ?_ | refine SQ.blockOther rfl ?_)
    refine SQ.body1 rfl rfl (fun w' hl => ⟨rfl, hl.mod⟩)
  by_cases k1 : v.kind = 1
  · have e : valText v = Lib.itoa v.n := by simp [valText, hv, k1]
    rw [e]
    repeat (first | refine SX.seq ?_ | refine SXl.nil ?_ | refine SX.region ?_ | refine SQ.thenNormal ?_ | refine SX.block ?_ | refine SX.skip ?_ | refine SX.condT rfl ?_ | refine SX.condF rfl ?_ | (refine l_call ?_; (first | refine SXl.v (OpW.call rfl (fun w hl => valueOk_any v _)) rfl ?_ ?_ ?_ | refine SXl.v (OpW.call rfl (fun w hl => hd _ (ht.keep hl.mod))) rfl ?_ ?_ ?_ | refine SXl.v (OpW.call rfl (fun w hl => valueOk_any _ _)) rfl ?_ ?_ ?_); rfl; rfl) | (refine l_load ?_; (first | refine SXl.v (OpW.load 0 rfl rfl rfl) rfl ?_ ?_ ?_ | refine SXl.v (OpW.load 1 rfl rfl rfl) rfl ?_ ?_ ?_ | refine SXl.v (OpW.load 2 rfl rfl rfl) rfl ?_ ?_ ?_ | refine SXl.v (OpW.load 3 rfl rfl rfl) rfl ?_ ?_ ?_ | refine SXl.v (OpW.loadOld rfl (by assumption) (fun h => h)) rfl ?_ ?_ ?_ | refine SXl.v (OpW.loadAll 0 rfl rfl rfl) rfl ?_ ?_ ?_ | refine SXl.v (OpW.loadAll 1 rfl rfl rfl) rfl ?_ ?_ ?_ | refine SXl.v (OpW.loadAll 2 rfl rfl rfl) rfl ?_ ?_ ?_ | refine SXl.v (OpW.loadAll 3 rfl rfl rfl) rfl ?_ ?_ ?_ | refine SXl.v (OpW.loadRow 0 rfl rfl rfl rfl) rfl ?_ ?_ ?_ | refine SXl.v (OpW.loadRow 1 rfl rfl rfl rfl) rfl ?_ ?_ ?_ | refine SXl.v (OpW.loadRow 2 rfl rfl rfl rfl) rfl ?_ ?_ ?_ | refine SXl.v (OpW.loadRow 3 rfl rfl rfl rfl) rfl ?_ ?_ ?_); rfl; rfl) | (refine l_fieldAddr ?_; (first | refine SXl.v (OpW.fieldAddr rfl) rfl ?_ ?_ ?_); rfl; rfl) | (refine l_assign ?_; (first | refine SXl.v (OpW.assign rfl) rfl ?_ ?_ ?_); rfl; rfl) | (refine l_add ?_; (first | refine SXl.v (OpW.cat rfl rfl (by omega)) rfl ?_ ?_ ?_); rfl; rfl) | (refine l_eql ?_; (first | refine SXl.v (OpW.eqlT rfl rfl (by omega)) rfl ?_ ?_ ?_ | refine SXl.v (OpW.eqlF rfl rfl (by omega)) rfl ?_ ?_ ?_ | refine SXl.v (OpW.eql rfl rfl) rfl ?_ ?_ ?_); rfl; rfl) | (refine l_not ?_; (first | refine SXl.v (OpW.not rfl) rfl ?_ ?_ ?_); rfl; rfl) | (refine l_box ?_; refine SXl.box ?_ ?_ rfl rfl (fun g => ?_); rfl; rfl) | (rw [hv]) | refine SX.ret ?_ | refine SX.exit ?_ | refine SQ.thenRet ?_ | refine SQ.thenExit ?_ | refine SQ.blockNormal ?_ | refine SQ.blockRet ?_ | refine SQ.blockExit ?_ | refine SQ.blockOther rfl ?_)
    refine SQ.body1 rfl rfl (fun w' hl => ⟨rfl, hl.mod⟩)
  by_cases k2 : v.kind = 2
  · have e : valText v = Lib.itoa v.n ++ [37] := by simp [valText, hv, k2]
    rw [e]
    repeat (first | refine SX.seq ?_ | refine SXl.nil ?_ | refine SX.region ?_ | refine SQ.thenNormal ?_ | refine SX.block ?_ | refine SX.skip ?_ | refine SX.condT rfl ?_ | refine SX.condF rfl ?_ | (refine l_call ?_; (first | refine SXl.v (OpW.call rfl (fun w hl => valueOk_any v _)) rfl ?_ ?_ ?_ | refine SXl.v (OpW.call rfl (fun w hl => hd _ (ht.keep hl.mod))) rfl ?_ ?_ ?_ | refine SXl.v (OpW.call rfl (fun w hl => valueOk_any _ _)) rfl ?_ ?_ ?_); rfl; rfl) | (refine l_add ?_; (first | refine SXl.v ((OpW.cat (b := [37]) rfl rfl (by simp; omega))) rfl ?_ ?_ ?_ | refine SXl.v (OpW.cat rfl rfl (by omega)) rfl ?_ ?_ ?_); rfl; rfl) | (refine l_load ?_; (first | refine SXl.v (OpW.load 0 rfl rfl rfl) rfl ?_ ?_ ?_ | refine SXl.v (OpW.load 1 rfl rfl rfl) rfl ?_ ?_ ?_ | refine SXl.v (OpW.load 2 rfl rfl rfl) rfl ?_ ?_ ?_ | refine SXl.v (OpW.load 3 rfl rfl rfl) rfl ?_ ?_ ?_ | refine SXl.v (OpW.loadOld rfl (by assumption) (fun h => h)) rfl ?_ ?_ ?_ | refine SXl.v (OpW.loadAll 0 rfl rfl rfl) rfl ?_ ?_ ?_ | refine SXl.v (OpW.loadAll 1 rfl rfl rfl) rfl ?_ ?_ ?_ | refine SXl.v (OpW.loadAll 2 rfl rfl rfl) rfl ?_ ?_ ?_ | refine SXl.v (OpW.loadAll 3 rfl rfl rfl) rfl ?_ ?_ ?_ | refine SXl.v (OpW.loadRow 0 rfl rfl rfl rfl) rfl ?_ ?_ ?_ | refine SXl.v (OpW.loadRow 1 rfl rfl rfl rfl) rfl ?_ ?_ ?_ | refine SXl.v (OpW.loadRow 2 rfl rfl rfl rfl) rfl ?_ ?_ ?_ | refine SXl.v (OpW.loadRow 3 rfl rfl rfl rfl) rfl ?_ ?_ ?_); rfl; rfl) | (refine l_fieldAddr ?_; (first | refine SXl.v (OpW.fieldAddr rfl) rfl ?_ ?_ ?_); rfl; rfl) | (refine l_assign ?_; (first | refine SXl.v (OpW.assign rfl) rfl ?_ ?_ ?_); rfl; rfl) | (refine l_eql ?_; (first | refine SXl.v (OpW.eqlT rfl rfl (by omega)) rfl ?_ ?_ ?_ | refine SXl.v (OpW.eqlF rfl rfl (by omega)) rfl ?_ ?_ ?_ | refine SXl.v (OpW.eql rfl rfl) rfl ?_ ?_ ?_); rfl; rfl) | (refine l_not ?_; (first | refine SXl.v (OpW.not rfl) rfl ?_ ?_ ?_); rfl; rfl) | (refine l_box ?_; refine SXl.box ?_ ?_ rfl rfl (fun g => ?_); rfl; rfl) | (rw [hv]) | refine SX.ret ?_ | refine SX.exit ?_ | refine SQ.thenRet ?_ | refine SQ.thenExit ?_ | refine SQ.blockNormal ?_ | refine SQ.blockRet ?_ | refine SQ.blockExit ?_ | refine SQ.blockOther rfl ?_)
    refine SQ.body1 rfl rfl (fun w' hl => ⟨rfl, hl.mod⟩)
  by_cases k3 : v.kind = 3
  · have e : valText v = [97, 117, 116, 111] := by simp [valText, hv, k3]
    rw [e]
    repeat (first | refine SX.seq ?_ | refine SXl.nil ?_ | refine SX.region ?_ | refine SQ.thenNormal ?_ | refine SX.block ?_ | refine SX.skip ?_ | refine SX.condT rfl ?_ | refine SX.condF rfl ?_ | (refine l_call ?_; (first | refine SXl.v (OpW.call rfl (fun w hl => valueOk_any v _)) rfl ?_ ?_ ?_ | refine SXl.v (OpW.call rfl (fun w hl => valueOk_any _ _)) rfl ?_ ?_ ?_); rfl; rfl) | (refine l_load ?_; (first | refine SXl.v (OpW.load 0 rfl rfl rfl) rfl ?_ ?_ ?_ | refine SXl.v (OpW.load 1 rfl rfl rfl) rfl ?_ ?_ ?_ | refine SXl.v (OpW.load 2 rfl rfl rfl) rfl ?_ ?_ ?_ | refine SXl.v (OpW.load 3 rfl rfl rfl) rfl ?_ ?_ ?_ | refine SXl.v (OpW.loadOld rfl (by assumption) (fun h => h)) rfl ?_ ?_ ?_ | refine SXl.v (OpW.loadAll 0 rfl rfl rfl) rfl ?_ ?_ ?_ | refine SXl.v (OpW.loadAll 1 rfl rfl rfl) rfl ?_ ?_ ?_ | refine SXl.v (OpW.loadAll 2 rfl rfl rfl) rfl ?_ ?_ ?_ | refine SXl.v (OpW.loadAll 3 rfl rfl rfl) rfl ?_ ?_ ?_ | refine SXl.v (OpW.loadRow 0 rfl rfl rfl rfl) rfl ?_ ?_ ?_ | refine SXl.v (OpW.loadRow 1 rfl rfl rfl rfl) rfl ?_ ?_ ?_ | refine SXl.v (OpW.loadRow 2 rfl rfl rfl rfl) rfl ?_ ?_ ?_ | refine SXl.v (OpW.loadRow 3 rfl rfl rfl rfl) rfl ?_ ?_ ?_); rfl; rfl) | (refine l_fieldAddr ?_; (first | refine SXl.v (OpW.fieldAddr rfl) rfl ?_ ?_ ?_); rfl; rfl) | (refine l_assign ?_; (first | refine SXl.v (OpW.assign rfl) rfl ?_ ?_ ?_); rfl; rfl) | (refine l_add ?_; (first | refine SXl.v (OpW.cat rfl rfl (by omega)) rfl ?_ ?_ ?_); rfl; rfl) | (refine l_eql ?_; (first | refine SXl.v (OpW.eqlT rfl rfl (by omega)) rfl ?_ ?_ ?_ | refine SXl.v (OpW.eqlF rfl rfl (by omega)) rfl ?_ ?_ ?_ | refine SXl.v (OpW.eql rfl rfl) rfl ?_ ?_ ?_); rfl; rfl) | (refine l_not ?_; (first | refine SXl.v (OpW.not rfl) rfl ?_ ?_ ?_); rfl; rfl) | (refine l_box ?_; refine SXl.box ?_ ?_ rfl rfl (fun g => ?_); rfl; rfl) | (rw [hv]) | refine SX.ret ?_ | refine SX.exit ?_ | refine SQ.thenRet ?_ | refine SQ.thenExit ?_ | refine SQ.blockNormal ?_ | refine SQ.blockRet ?_ | refine SQ.blockExit ?_ | refine SQ.blockOther rfl ?_)
    refine SQ.body1 rfl rfl (fun w' hl => ⟨rfl, hl.mod⟩)
  · have e : valText v = [110, 111, 110, 101] := by simp [valText, hv, k1, k2, k3]
    rw [e]
    repeat (first | refine SX.seq ?_ | refine SXl.nil ?_ | refine SX.region ?_ | refine SQ.thenNormal ?_ | refine SX.block ?_ | refine SX.skip ?_ | refine SX.condT rfl ?_ | refine SX.condF rfl ?_ | (refine l_call ?_; (first | refine SXl.v (OpW.call rfl (fun w hl => valueOk_any v _)) rfl ?_ ?_ ?_ | refine SXl.v (OpW.call rfl (fun w hl => valueOk_any _ _)) rfl ?_ ?_ ?_); rfl; rfl) | (refine l_load ?_; (first | refine SXl.v (OpW.load 0 rfl rfl rfl) rfl ?_ ?_ ?_ | refine SXl.v (OpW.load 1 rfl rfl rfl) rfl ?_ ?_ ?_ | refine SXl.v (OpW.load 2 rfl rfl rfl) rfl ?_ ?_ ?_ | refine SXl.v (OpW.load 3 rfl rfl rfl) rfl ?_ ?_ ?_ | refine SXl.v (OpW.loadOld rfl (by assumption) (fun h => h)) rfl ?_ ?_ ?_ | refine SXl.v (OpW.loadAll 0 rfl rfl rfl) rfl ?_ ?_ ?_ | refine SXl.v (OpW.loadAll 1 rfl rfl rfl) rfl ?_ ?_ ?_ | refine SXl.v (OpW.loadAll 2 rfl rfl rfl) rfl ?_ ?_ ?_ | refine SXl.v (OpW.loadAll 3 rfl rfl rfl) rfl ?_ ?_ ?_ | refine SXl.v (OpW.loadRow 0 rfl rfl rfl rfl) rfl ?_ ?_ ?_ | refine SXl.v (OpW.loadRow 1 rfl rfl rfl rfl) rfl ?_ ?_ ?_ | refine SXl.v (OpW.loadRow 2 rfl rfl rfl rfl) rfl ?_ ?_ ?_ | refine SXl.v (OpW.loadRow 3 rfl rfl rfl rfl) rfl ?_ ?_ ?_); rfl; rfl) | (refine l_fieldAddr ?_; (first | refine SXl.v (OpW.fieldAddr rfl) rfl ?_ ?_ ?_); rfl; rfl) | (refine l_assign ?_; (first | refine SXl.v (OpW.assign rfl) rfl ?_ ?_ ?_); rfl; rfl) | (refine l_add ?_; (first | refine SXl.v (OpW.cat rfl rfl (by omega)) rfl ?_ ?_ ?_); rfl; rfl) | (refine l_eql ?_; (first | refine SXl.v (OpW.eqlT rfl rfl (by omega)) rfl ?_ ?_ ?_ | refine SXl.v (OpW.eqlF rfl rfl (by omega)) rfl ?_ ?_ ?_ | refine SXl.v (OpW.eql rfl rfl) rfl ?_ ?_ ?_); rfl; rfl) | (refine l_not ?_; (first | refine SXl.v (OpW.not rfl) rfl ?_ ?_ ?_); rfl; rfl) | (refine l_box ?_; refine SXl.box ?_ ?_ rfl rfl (fun g => ?_); rfl; rfl) | (rw [hv]) | refine SX.ret ?_ | refine SX.exit ?_ | refine SQ.thenRet ?_ | refine SQ.thenExit ?_ | refine SQ.blockNormal ?_ | refine SQ.blockRet ?_ | refine SQ.blockExit ?_ | refine SQ.blockOther rfl ?_)
    refine SQ.body1 rfl rfl (fun w' hl => ⟨rfl, hl.mod⟩)
set_option maxRecDepth 100000 in
set_option maxHeartbeats 4000000 in
theorem svalueText_any (v : Val) (hb : I64 v.n) (w : World) : Calls Tryd.prog 45 #[.agg v.cells.toArray] w fun e w' => e = .returned (.string ⟨(valText v).toArray⟩) ∧ Mod (fun _ => False) w w' := by
  refine calls_sx Tryd.func45 rfl rfl (fun a h1 h2 h3 => ((Fr.nil h1 h2).arg (h3 0 _ rfl))) ?_
  have hlen := Lib.itoa_length_le v.n hb.1 hb.2
  have hd := fun w => sdecimal_any v.n hb.1 hb.2 w
  cases hv : valOk v
  · have e : valText v = [63] := by simp [valText, hv]
    rw [e]
    repeat (first | refine SX.seq ?_ | refine SXl.nil ?_ | refine SX.region ?_ | refine SQ.thenNormal ?_ | refine SX.block ?_ | refine SX.skip ?_ | refine SX.condT rfl ?_ | refine SX.condF rfl ?_ | (refine l_call ?_; (first | refine SXl.v (OpW.call rfl (fun w hl => svalueOk_any v _)) rfl ?_ ?_ ?_ | refine SXl.v (OpW.call rfl (fun w hl => svalueOk_any _ _)) rfl ?_ ?_ ?_); rfl; rfl) | (refine l_load ?_; (first | refine SXl.v (OpW.load 0 rfl rfl rfl) rfl ?_ ?_ ?_ | refine SXl.v (OpW.load 1 rfl rfl rfl) rfl ?_ ?_ ?_ | refine SXl.v (OpW.load 2 rfl rfl rfl) rfl ?_ ?_ ?_ | refine SXl.v (OpW.load 3 rfl rfl rfl) rfl ?_ ?_ ?_ | refine SXl.v (OpW.loadOld rfl (by assumption) (fun h => h)) rfl ?_ ?_ ?_ | refine SXl.v (OpW.loadAll 0 rfl rfl rfl) rfl ?_ ?_ ?_ | refine SXl.v (OpW.loadAll 1 rfl rfl rfl) rfl ?_ ?_ ?_ | refine SXl.v (OpW.loadAll 2 rfl rfl rfl) rfl ?_ ?_ ?_ | refine SXl.v (OpW.loadAll 3 rfl rfl rfl) rfl ?_ ?_ ?_ | refine SXl.v (OpW.loadRow 0 rfl rfl rfl rfl) rfl ?_ ?_ ?_ | refine SXl.v (OpW.loadRow 1 rfl rfl rfl rfl) rfl ?_ ?_ ?_ | refine SXl.v (OpW.loadRow 2 rfl rfl rfl rfl) rfl ?_ ?_ ?_ | refine SXl.v (OpW.loadRow 3 rfl rfl rfl rfl) rfl ?_ ?_ ?_); rfl; rfl) | (refine l_fieldAddr ?_; (first | refine SXl.v (OpW.fieldAddr rfl) rfl ?_ ?_ ?_); rfl; rfl) | (refine l_assign ?_; (first | refine SXl.v (OpW.assign rfl) rfl ?_ ?_ ?_); rfl; rfl) | (refine l_add ?_; (first | refine SXl.v (OpW.cat rfl rfl (by omega)) rfl ?_ ?_ ?_); rfl; rfl) | (refine l_eql ?_; (first | refine SXl.v (OpW.eqlT rfl rfl (by omega)) rfl ?_ ?_ ?_ | refine SXl.v (OpW.eqlF rfl rfl (by omega)) rfl ?_ ?_ ?_ | refine SXl.v (OpW.eql rfl rfl) rfl ?_ ?_ ?_); rfl; rfl) | (refine l_not ?_; (first | refine SXl.v (OpW.not rfl) rfl ?_ ?_ ?_); rfl; rfl) | (refine l_box ?_; refine SXl.box ?_ ?_ rfl rfl (fun g => ?_); rfl; rfl) | (rw [hv]) | refine SX.ret ?_ | refine SX.exit ?_ | refine SQ.thenRet ?_ | refine SQ.thenExit ?_ | refine SQ.blockNormal ?_ | refine SQ.blockRet ?_ | refine SQ.blockExit ?_ | refine SQ.blockOther rfl ?_)
    refine SQ.body1 rfl rfl (fun w' hl => ⟨rfl, hl.mod⟩)
  by_cases k1 : v.kind = 1
  · have e : valText v = Lib.itoa v.n := by simp [valText, hv, k1]
    rw [e]
    repeat (first | refine SX.seq ?_ | refine SXl.nil ?_ | refine SX.region ?_ | refine SQ.thenNormal ?_ | refine SX.block ?_ | refine SX.skip ?_ | refine SX.condT rfl ?_ | refine SX.condF rfl ?_ | (refine l_call ?_; (first | refine SXl.v (OpW.call rfl (fun w hl => svalueOk_any v _)) rfl ?_ ?_ ?_ | refine SXl.v (OpW.call rfl (fun w hl => hd _)) rfl ?_ ?_ ?_ | refine SXl.v (OpW.call rfl (fun w hl => svalueOk_any _ _)) rfl ?_ ?_ ?_); rfl; rfl) | (refine l_load ?_; (first | refine SXl.v (OpW.load 0 rfl rfl rfl) rfl ?_ ?_ ?_ | refine SXl.v (OpW.load 1 rfl rfl rfl) rfl ?_ ?_ ?_ | refine SXl.v (OpW.load 2 rfl rfl rfl) rfl ?_ ?_ ?_ | refine SXl.v (OpW.load 3 rfl rfl rfl) rfl ?_ ?_ ?_ | refine SXl.v (OpW.loadOld rfl (by assumption) (fun h => h)) rfl ?_ ?_ ?_ | refine SXl.v (OpW.loadAll 0 rfl rfl rfl) rfl ?_ ?_ ?_ | refine SXl.v (OpW.loadAll 1 rfl rfl rfl) rfl ?_ ?_ ?_ | refine SXl.v (OpW.loadAll 2 rfl rfl rfl) rfl ?_ ?_ ?_ | refine SXl.v (OpW.loadAll 3 rfl rfl rfl) rfl ?_ ?_ ?_ | refine SXl.v (OpW.loadRow 0 rfl rfl rfl rfl) rfl ?_ ?_ ?_ | refine SXl.v (OpW.loadRow 1 rfl rfl rfl rfl) rfl ?_ ?_ ?_ | refine SXl.v (OpW.loadRow 2 rfl rfl rfl rfl) rfl ?_ ?_ ?_ | refine SXl.v (OpW.loadRow 3 rfl rfl rfl rfl) rfl ?_ ?_ ?_); rfl; rfl) | (refine l_fieldAddr ?_; (first | refine SXl.v (OpW.fieldAddr rfl) rfl ?_ ?_ ?_); rfl; rfl) | (refine l_assign ?_; (first | refine SXl.v (OpW.assign rfl) rfl ?_ ?_ ?_); rfl; rfl) | (refine l_add ?_; (first | refine SXl.v (OpW.cat rfl rfl (by omega)) rfl ?_ ?_ ?_); rfl; rfl) | (refine l_eql ?_; (first | refine SXl.v (OpW.eqlT rfl rfl (by omega)) rfl ?_ ?_ ?_ | refine SXl.v (OpW.eqlF rfl rfl (by omega)) rfl ?_ ?_ ?_ | refine SXl.v (OpW.eql rfl rfl) rfl ?_ ?_ ?_); rfl; rfl) | (refine l_not ?_; (first | refine SXl.v (OpW.not rfl) rfl ?_ ?_ ?_); rfl; rfl) | (refine l_box ?_; refine SXl.box ?_ ?_ rfl rfl (fun g => ?_); rfl; rfl) | (rw [hv]) | refine SX.ret ?_ | refine SX.exit ?_ | refine SQ.thenRet ?_ | refine SQ.thenExit ?_ | refine SQ.blockNormal ?_ | refine SQ.blockRet ?_ | refine SQ.blockExit ?_ | refine SQ.blockOther rfl ?_)
    refine SQ.body1 rfl rfl (fun w' hl => ⟨rfl, hl.mod⟩)
  by_cases k2 : v.kind = 2
  · have e : valText v = Lib.itoa v.n ++ [37] := by simp [valText, hv, k2]
    rw [e]
    repeat (first | refine SX.seq ?_ | refine SXl.nil ?_ | refine SX.region ?_ | refine SQ.thenNormal ?_ | refine SX.block ?_ | refine SX.skip ?_ | refine SX.condT rfl ?_ | refine SX.condF rfl ?_ | (refine l_call ?_; (first | refine SXl.v (OpW.call rfl (fun w hl => svalueOk_any v _)) rfl ?_ ?_ ?_ | refine SXl.v (OpW.call rfl (fun w hl => hd _)) rfl ?_ ?_ ?_ | refine SXl.v (OpW.call rfl (fun w hl => svalueOk_any _ _)) rfl ?_ ?_ ?_); rfl; rfl) | (refine l_add ?_; (first | refine SXl.v ((OpW.cat (b := [37]) rfl rfl (by simp; omega))) rfl ?_ ?_ ?_ | refine SXl.v (OpW.cat rfl rfl (by omega)) rfl ?_ ?_ ?_); rfl; rfl) | (refine l_load ?_; (first | refine SXl.v (OpW.load 0 rfl rfl rfl) rfl ?_ ?_ ?_ | refine SXl.v (OpW.load 1 rfl rfl rfl) rfl ?_ ?_ ?_ | refine SXl.v (OpW.load 2 rfl rfl rfl) rfl ?_ ?_ ?_ | refine SXl.v (OpW.load 3 rfl rfl rfl) rfl ?_ ?_ ?_ | refine SXl.v (OpW.loadOld rfl (by assumption) (fun h => h)) rfl ?_ ?_ ?_ | refine SXl.v (OpW.loadAll 0 rfl rfl rfl) rfl ?_ ?_ ?_ | refine SXl.v (OpW.loadAll 1 rfl rfl rfl) rfl ?_ ?_ ?_ | refine SXl.v (OpW.loadAll 2 rfl rfl rfl) rfl ?_ ?_ ?_ | refine SXl.v (OpW.loadAll 3 rfl rfl rfl) rfl ?_ ?_ ?_ | refine SXl.v (OpW.loadRow 0 rfl rfl rfl rfl) rfl ?_ ?_ ?_ | refine SXl.v (OpW.loadRow 1 rfl rfl rfl rfl) rfl ?_ ?_ ?_ | refine SXl.v (OpW.loadRow 2 rfl rfl rfl rfl) rfl ?_ ?_ ?_ | refine SXl.v (OpW.loadRow 3 rfl rfl rfl rfl) rfl ?_ ?_ ?_); rfl; rfl) | (refine l_fieldAddr ?_; (first | refine SXl.v (OpW.fieldAddr rfl) rfl ?_ ?_ ?_); rfl; rfl) | (refine l_assign ?_; (first | refine SXl.v (OpW.assign rfl) rfl ?_ ?_ ?_); rfl; rfl) | (refine l_eql ?_; (first | refine SXl.v (OpW.eqlT rfl rfl (by omega)) rfl ?_ ?_ ?_ | refine SXl.v (OpW.eqlF rfl rfl (by omega)) rfl ?_ ?_ ?_ | refine SXl.v (OpW.eql rfl rfl) rfl ?_ ?_ ?_); rfl; rfl) | (refine l_not ?_; (first | refine SXl.v (OpW.not rfl) rfl ?_ ?_ ?_); rfl; rfl) | (refine l_box ?_; refine SXl.box ?_ ?_ rfl rfl (fun g => ?_); rfl; rfl) | (rw [hv]) | refine SX.ret ?_ | refine SX.exit ?_ | refine SQ.thenRet ?_ | refine SQ.thenExit ?_ | refine SQ.blockNormal ?_ | refine SQ.blockRet ?_ | refine SQ.blockExit ?_ | refine SQ.blockOther rfl ?_)
    refine SQ.body1 rfl rfl (fun w' hl => ⟨rfl, hl.mod⟩)
  by_cases k3 : v.kind = 3
  · have e : valText v = [97, 117, 116, 111] := by simp [valText, hv, k3]
    rw [e]
    repeat (first | refine SX.seq ?_ | refine SXl.nil ?_ | refine SX.region ?_ | refine SQ.thenNormal ?_ | refine SX.block ?_ | refine SX.skip ?_ | refine SX.condT rfl ?_ | refine SX.condF rfl ?_ | (refine l_call ?_; (first | refine SXl.v (OpW.call rfl (fun w hl => svalueOk_any v _)) rfl ?_ ?_ ?_ | refine SXl.v (OpW.call rfl (fun w hl => svalueOk_any _ _)) rfl ?_ ?_ ?_); rfl; rfl) | (refine l_load ?_; (first | refine SXl.v (OpW.load 0 rfl rfl rfl) rfl ?_ ?_ ?_ | refine SXl.v (OpW.load 1 rfl rfl rfl) rfl ?_ ?_ ?_ | refine SXl.v (OpW.load 2 rfl rfl rfl) rfl ?_ ?_ ?_ | refine SXl.v (OpW.load 3 rfl rfl rfl) rfl ?_ ?_ ?_ | refine SXl.v (OpW.loadOld rfl (by assumption) (fun h => h)) rfl ?_ ?_ ?_ | refine SXl.v (OpW.loadAll 0 rfl rfl rfl) rfl ?_ ?_ ?_ | refine SXl.v (OpW.loadAll 1 rfl rfl rfl) rfl ?_ ?_ ?_ | refine SXl.v (OpW.loadAll 2 rfl rfl rfl) rfl ?_ ?_ ?_ | refine SXl.v (OpW.loadAll 3 rfl rfl rfl) rfl ?_ ?_ ?_ | refine SXl.v (OpW.loadRow 0 rfl rfl rfl rfl) rfl ?_ ?_ ?_ | refine SXl.v (OpW.loadRow 1 rfl rfl rfl rfl) rfl ?_ ?_ ?_ | refine SXl.v (OpW.loadRow 2 rfl rfl rfl rfl) rfl ?_ ?_ ?_ | refine SXl.v (OpW.loadRow 3 rfl rfl rfl rfl) rfl ?_ ?_ ?_); rfl; rfl) | (refine l_fieldAddr ?_; (first | refine SXl.v (OpW.fieldAddr rfl) rfl ?_ ?_ ?_); rfl; rfl) | (refine l_assign ?_; (first | refine SXl.v (OpW.assign rfl) rfl ?_ ?_ ?_); rfl; rfl) | (refine l_add ?_; (first | refine SXl.v (OpW.cat rfl rfl (by omega)) rfl ?_ ?_ ?_); rfl; rfl) | (refine l_eql ?_; (first | refine SXl.v (OpW.eqlT rfl rfl (by omega)) rfl ?_ ?_ ?_ | refine SXl.v (OpW.eqlF rfl rfl (by omega)) rfl ?_ ?_ ?_ | refine SXl.v (OpW.eql rfl rfl) rfl ?_ ?_ ?_); rfl; rfl) | (refine l_not ?_; (first | refine SXl.v (OpW.not rfl) rfl ?_ ?_ ?_); rfl; rfl) | (refine l_box ?_; refine SXl.box ?_ ?_ rfl rfl (fun g => ?_); rfl; rfl) | (rw [hv]) | refine SX.ret ?_ | refine SX.exit ?_ | refine SQ.thenRet ?_ | refine SQ.thenExit ?_ | refine SQ.blockNormal ?_ | refine SQ.blockRet ?_ | refine SQ.blockExit ?_ | refine SQ.blockOther rfl ?_)
    refine SQ.body1 rfl rfl (fun w' hl => ⟨rfl, hl.mod⟩)
  · have e : valText v = [110, 111, 110, 101] := by simp [valText, hv, k1, k2, k3]
    rw [e]
    repeat (first | refine SX.seq ?_ | refine SXl.nil ?_ | refine SX.region ?_ | refine SQ.thenNormal ?_ | refine SX.block ?_ | refine SX.skip ?_ | refine SX.condT rfl ?_ | refine SX.condF rfl ?_ | (refine l_call ?_; (first | refine SXl.v (OpW.call rfl (fun w hl => svalueOk_any v _)) rfl ?_ ?_ ?_ | refine SXl.v (OpW.call rfl (fun w hl => svalueOk_any _ _)) rfl ?_ ?_ ?_); rfl; rfl) | (refine l_load ?_; (first | refine SXl.v (OpW.load 0 rfl rfl rfl) rfl ?_ ?_ ?_ | refine SXl.v (OpW.load 1 rfl rfl rfl) rfl ?_ ?_ ?_ | refine SXl.v (OpW.load 2 rfl rfl rfl) rfl ?_ ?_ ?_ | refine SXl.v (OpW.load 3 rfl rfl rfl) rfl ?_ ?_ ?_ | refine SXl.v (OpW.loadOld rfl (by assumption) (fun h => h)) rfl ?_ ?_ ?_ | refine SXl.v (OpW.loadAll 0 rfl rfl rfl) rfl ?_ ?_ ?_ | refine SXl.v (OpW.loadAll 1 rfl rfl rfl) rfl ?_ ?_ ?_ | refine SXl.v (OpW.loadAll 2 rfl rfl rfl) rfl ?_ ?_ ?_ | refine SXl.v (OpW.loadAll 3 rfl rfl rfl) rfl ?_ ?_ ?_ | refine SXl.v (OpW.loadRow 0 rfl rfl rfl rfl) rfl ?_ ?_ ?_ | refine SXl.v (OpW.loadRow 1 rfl rfl rfl rfl) rfl ?_ ?_ ?_ | refine SXl.v (OpW.loadRow 2 rfl rfl rfl rfl) rfl ?_ ?_ ?_ | refine SXl.v (OpW.loadRow 3 rfl rfl rfl rfl) rfl ?_ ?_ ?_); rfl; rfl) | (refine l_fieldAddr ?_; (first | refine SXl.v (OpW.fieldAddr rfl) rfl ?_ ?_ ?_); rfl; rfl) | (refine l_assign ?_; (first | refine SXl.v (OpW.assign rfl) rfl ?_ ?_ ?_); rfl; rfl) | (refine l_add ?_; (first | refine SXl.v (OpW.cat rfl rfl (by omega)) rfl ?_ ?_ ?_); rfl; rfl) | (refine l_eql ?_; (first | refine SXl.v (OpW.eqlT rfl rfl (by omega)) rfl ?_ ?_ ?_ | refine SXl.v (OpW.eqlF rfl rfl (by omega)) rfl ?_ ?_ ?_ | refine SXl.v (OpW.eql rfl rfl) rfl ?_ ?_ ?_); rfl; rfl) | (refine l_not ?_; (first | refine SXl.v (OpW.not rfl) rfl ?_ ?_ ?_); rfl; rfl) | (refine l_box ?_; refine SXl.box ?_ ?_ rfl rfl (fun g => ?_); rfl; rfl) | (rw [hv]) | refine SX.ret ?_ | refine SX.exit ?_ | refine SQ.thenRet ?_ | refine SQ.thenExit ?_ | refine SQ.blockNormal ?_ | refine SQ.blockRet ?_ | refine SQ.blockExit ?_ | refine SQ.blockOther rfl ?_)
    refine SQ.body1 rfl rfl (fun w' hl => ⟨rfl, hl.mod⟩)

end Go.Proofs.YthffgbhphjkdeaaDoor
namespace Go.Proofs.YthffgbhphjkdeaaDoor
open Go.RowKit

/-- Where a key stands, or -1. -/
def keyI (l : List (List UInt8)) (k : List UInt8) : Int := match idxOf l k with
  | some i => (i : Nat)
  | none => -1
theorem idxOf_first {l : List (List UInt8)} {k : List UInt8} {i : Nat} (h : ∀ j x, j < i → l[j]? = some x → x ≠ k) (hi : l[i]? = some k) : idxOf l k = some i := by
  unfold idxOf
  rw [List.findIdx?_eq_some_iff_getElem]
  obtain ⟨h1, h2⟩ := List.getElem?_eq_some_iff.1 hi
  exact ⟨h1, by simpa using h2, fun j hj => by simpa using h j _ hj (List.getElem?_eq_getElem (by omega))⟩
theorem idxOf_none {l : List (List UInt8)} {k : List UInt8} (h : ∀ j x, j < l.length → l[j]? = some x → x ≠ k) : idxOf l k = none := by
  unfold idxOf
  rw [List.findIdx?_eq_none_iff]
  intro x hx
  obtain ⟨j, hj⟩ := List.mem_iff_getElem?.1 hx
  simpa using h j x (List.getElem?_eq_some_iff.1 hj).1 hj
theorem keyI_some {l : List (List UInt8)} {k : List UInt8} {i : Nat} (h : idxOf l k = some i) : keyI l k = (i : Nat) := by unfold keyI; rw [h]
theorem keyI_none {l : List (List UInt8)} {k : List UInt8} (h : idxOf l k = none) : keyI l k = -1 := by unfold keyI; rw [h]
theorem ne_succ {l : List (List UInt8)} {k x : List UInt8} {i : Nat} (h : ∀ j x, j < i → l[j]? = some x → x ≠ k) (hx : l[i]? = some x) (hn : x ≠ k) : ∀ j x, j < i + 1 → l[j]? = some x → x ≠ k := fun j y hj hy => by
  by_cases e : j = i
  · subst e; rw [hx] at hy; rw [← Option.some.inj hy]; exact hn
  · exact h j y (by omega) hy

set_option maxRecDepth 100000 in
set_option maxHeartbeats 4000000 in
theorem keyAt_any (l : List (List UInt8)) (k : List UInt8) (a : Option Addr) (c : Nat) (R : Nat → Prop) (w : World) (hlen : l.length ≤ 1048576) (h : TextSlice R w a l) :
    Calls Tryd.prog 58 #[.slice a l.length c, .string ⟨k.toArray⟩] w fun e w' => e = .returned (.int .i64 (keyI l k)) ∧ Mod (fun _ => False) w w' := by
  refine calls_sx Tryd.func58 rfl rfl (fun a h1 h2 h3 => ((Fr.nil h1 h2).arg (h3 1 _ rfl)).arg (h3 0 _ rfl)) ?_
  repeat (first | refine SX.seq ?_ | refine SXl.nil ?_ | refine SX.region ?_ | refine SQ.thenNormal ?_ | refine SX.block ?_ | refine SX.skip ?_ | refine SX.condT rfl ?_ | refine SX.condF rfl ?_ | (refine l_load ?_; (first | refine SXl.v (OpW.load 0 rfl rfl rfl) rfl ?_ ?_ ?_ | refine SXl.v (OpW.load 1 rfl rfl rfl) rfl ?_ ?_ ?_ | refine SXl.v (OpW.load 2 rfl rfl rfl) rfl ?_ ?_ ?_ | refine SXl.v (OpW.load 3 rfl rfl rfl) rfl ?_ ?_ ?_ | refine SXl.v (OpW.loadOld rfl (by assumption) (fun h => h)) rfl ?_ ?_ ?_); rfl; rfl) | (refine l_move ?_; (first | refine SXl.v (OpW.move rfl) rfl ?_ ?_ ?_); rfl; rfl) | (refine l_assign ?_; (first | refine SXl.v (OpW.assign rfl) rfl ?_ ?_ ?_); rfl; rfl) | (refine l_len ?_; (first | refine SXl.v (OpW.len rfl) rfl ?_ ?_ ?_); rfl; rfl) | (refine l_add ?_; (first | refine SXl.v (OpW.succ rfl rfl (by omega)) rfl ?_ ?_ ?_ | refine SXl.v (OpW.addi rfl rfl (by omega) (by omega)) rfl ?_ ?_ ?_ | refine SXl.v (OpW.add rfl rfl) rfl ?_ ?_ ?_); rfl; rfl) | (refine l_eql ?_; (first | refine SXl.v (OpW.eqlStrT rfl rfl (by first | assumption | with_reducible rfl | decide)) rfl ?_ ?_ ?_ | refine SXl.v (OpW.eqlStrF rfl rfl (by first | assumption | with_reducible rfl | decide)) rfl ?_ ?_ ?_); rfl; rfl) | (refine l_lss ?_; (first | refine SXl.v (OpW.lssT rfl rfl (by omega)) rfl ?_ ?_ ?_ | refine SXl.v (OpW.lssF rfl rfl (by omega)) rfl ?_ ?_ ?_ | refine SXl.v (OpW.lss rfl rfl) rfl ?_ ?_ ?_); rfl; rfl) | (refine l_indexAddr ?_; (first | refine SXl.v (OpW.indexAddr1 (by omega) rfl rfl) rfl ?_ ?_ ?_ | refine SXl.v (OpW.indexAddr (by omega) rfl rfl) rfl ?_ ?_ ?_); rfl; rfl) | refine SX.ret ?_ | refine SX.exit ?_ | refine SQ.thenRet ?_ | refine SQ.thenExit ?_ | refine SQ.blockNormal ?_ | refine SQ.blockRet ?_ | refine SQ.blockExit ?_ | refine SQ.blockOther rfl ?_)
  refine SX.loopi (fun i : Nat => i ≤ l.length ∧ ∀ j x, j < i → l[j]? = some x → x ≠ k) (fun i => l.length - i) (fun _ => []) (fun _ => []) (fun _ => []) (fun i => [(1, .string ⟨k.toArray⟩), (7, .slice a l.length c), (8, .int .i64 l.length), (9, .int .i64 i)]) 0 ⟨Nat.zero_le _, fun i x h => absurd h (Nat.not_lt_zero _)⟩ ?_ (fun _ hl => hl) ?_
  · (repeat (first | exact subF_nil _ | (refine subF_cons rfl ?_) | (refine subF_consv rfl (by rfl) ?_)))
  · rintro i ⟨hk, hs⟩
    by_cases hlt : i < l.length
    · obtain ⟨b1, o1, x, rfl, _, _, hxk, hc1⟩ := TextSlice.get h hlt
      by_cases e : x = k
      · subst e
        repeat (first | refine SX.seq ?_ | refine SXl.nil ?_ | refine SX.region ?_ | refine SQ.thenNormal ?_ | refine SX.block ?_ | refine SX.skip ?_ | refine SX.condT rfl ?_ | refine SX.condF rfl ?_ | (refine l_load ?_; (first | refine SXl.v (OpW.load 0 rfl rfl rfl) rfl ?_ ?_ ?_ | refine SXl.v (OpW.load 1 rfl rfl rfl) rfl ?_ ?_ ?_ | refine SXl.v (OpW.load 2 rfl rfl rfl) rfl ?_ ?_ ?_ | refine SXl.v (OpW.load 3 rfl rfl rfl) rfl ?_ ?_ ?_ | refine SXl.v (OpW.loadOld rfl (by assumption) (fun h => h)) rfl ?_ ?_ ?_); rfl; rfl) | (refine l_move ?_; (first | refine SXl.v (OpW.move rfl) rfl ?_ ?_ ?_); rfl; rfl) | (refine l_assign ?_; (first | refine SXl.v (OpW.assign rfl) rfl ?_ ?_ ?_); rfl; rfl) | (refine l_len ?_; (first | refine SXl.v (OpW.len rfl) rfl ?_ ?_ ?_); rfl; rfl) | (refine l_add ?_; (first | refine SXl.v (OpW.succ rfl rfl (by omega)) rfl ?_ ?_ ?_ | refine SXl.v (OpW.addi rfl rfl (by omega) (by omega)) rfl ?_ ?_ ?_ | refine SXl.v (OpW.add rfl rfl) rfl ?_ ?_ ?_); rfl; rfl) | (refine l_eql ?_; (first | refine SXl.v (OpW.eqlStrT rfl rfl (by first | assumption | with_reducible rfl | decide)) rfl ?_ ?_ ?_ | refine SXl.v (OpW.eqlStrF rfl rfl (by first | assumption | with_reducible rfl | decide)) rfl ?_ ?_ ?_); rfl; rfl) | (refine l_lss ?_; (first | refine SXl.v (OpW.lssT rfl rfl (by omega)) rfl ?_ ?_ ?_ | refine SXl.v (OpW.lssF rfl rfl (by omega)) rfl ?_ ?_ ?_ | refine SXl.v (OpW.lss rfl rfl) rfl ?_ ?_ ?_); rfl; rfl) | (refine l_indexAddr ?_; (first | refine SXl.v (OpW.indexAddr1 (by omega) rfl rfl) rfl ?_ ?_ ?_ | refine SXl.v (OpW.indexAddr (by omega) rfl rfl) rfl ?_ ?_ ?_); rfl; rfl) | refine SX.ret ?_ | refine SX.exit ?_ | refine SQ.thenRet ?_ | refine SQ.thenExit ?_ | refine SQ.blockNormal ?_ | refine SQ.blockRet ?_ | refine SQ.blockExit ?_ | refine SQ.blockOther rfl ?_)
        refine SQ.body1 rfl rfl (fun w' hl => ⟨by rw [keyI_some (idxOf_first hs hxk.out)], hl.mod⟩)
      · repeat (first | refine SX.seq ?_ | refine SXl.nil ?_ | refine SX.region ?_ | refine SQ.thenNormal ?_ | refine SX.block ?_ | refine SX.skip ?_ | refine SX.condT rfl ?_ | refine SX.condF rfl ?_ | (refine l_load ?_; (first | refine SXl.v (OpW.load 0 rfl rfl rfl) rfl ?_ ?_ ?_ | refine SXl.v (OpW.load 1 rfl rfl rfl) rfl ?_ ?_ ?_ | refine SXl.v (OpW.load 2 rfl rfl rfl) rfl ?_ ?_ ?_ | refine SXl.v (OpW.load 3 rfl rfl rfl) rfl ?_ ?_ ?_ | refine SXl.v (OpW.loadOld rfl (by assumption) (fun h => h)) rfl ?_ ?_ ?_); rfl; rfl) | (refine l_move ?_; (first | refine SXl.v (OpW.move rfl) rfl ?_ ?_ ?_); rfl; rfl) | (refine l_assign ?_; (first | refine SXl.v (OpW.assign rfl) rfl ?_ ?_ ?_); rfl; rfl) | (refine l_len ?_; (first | refine SXl.v (OpW.len rfl) rfl ?_ ?_ ?_); rfl; rfl) | (refine l_add ?_; (first | refine SXl.v (OpW.succ rfl rfl (by omega)) rfl ?_ ?_ ?_ | refine SXl.v (OpW.addi rfl rfl (by omega) (by omega)) rfl ?_ ?_ ?_ | refine SXl.v (OpW.add rfl rfl) rfl ?_ ?_ ?_); rfl; rfl) | (refine l_eql ?_; (first | refine SXl.v (OpW.eqlStrT rfl rfl (by first | assumption | with_reducible rfl | decide)) rfl ?_ ?_ ?_ | refine SXl.v (OpW.eqlStrF rfl rfl (by first | assumption | with_reducible rfl | decide)) rfl ?_ ?_ ?_); rfl; rfl) | (refine l_lss ?_; (first | refine SXl.v (OpW.lssT rfl rfl (by omega)) rfl ?_ ?_ ?_ | refine SXl.v (OpW.lssF rfl rfl (by omega)) rfl ?_ ?_ ?_ | refine SXl.v (OpW.lss rfl rfl) rfl ?_ ?_ ?_); rfl; rfl) | (refine l_indexAddr ?_; (first | refine SXl.v (OpW.indexAddr1 (by omega) rfl rfl) rfl ?_ ?_ ?_ | refine SXl.v (OpW.indexAddr (by omega) rfl rfl) rfl ?_ ?_ ?_); rfl; rfl) | refine SX.ret ?_ | refine SX.exit ?_ | refine SQ.thenRet ?_ | refine SQ.thenExit ?_ | refine SQ.blockNormal ?_ | refine SQ.blockRet ?_ | refine SQ.blockExit ?_ | refine SQ.blockOther rfl ?_)
        refine SQ.roundi (i + 1) ⟨by omega, ne_succ hs hxk.out e⟩ (by omega) ?_ (fun _ hl => hl)
        (repeat (first | exact subF_nil _ | (refine subF_cons rfl ?_) | (refine subF_consv rfl (by rfl) ?_)))
    · repeat (first | refine SX.seq ?_ | refine SXl.nil ?_ | refine SX.region ?_ | refine SQ.thenNormal ?_ | refine SX.block ?_ | refine SX.skip ?_ | refine SX.condT rfl ?_ | refine SX.condF rfl ?_ | (refine l_load ?_; (first | refine SXl.v (OpW.load 0 rfl rfl rfl) rfl ?_ ?_ ?_ | refine SXl.v (OpW.load 1 rfl rfl rfl) rfl ?_ ?_ ?_ | refine SXl.v (OpW.load 2 rfl rfl rfl) rfl ?_ ?_ ?_ | refine SXl.v (OpW.load 3 rfl rfl rfl) rfl ?_ ?_ ?_ | refine SXl.v (OpW.loadOld rfl (by assumption) (fun h => h)) rfl ?_ ?_ ?_); rfl; rfl) | (refine l_move ?_; (first | refine SXl.v (OpW.move rfl) rfl ?_ ?_ ?_); rfl; rfl) | (refine l_assign ?_; (first | refine SXl.v (OpW.assign rfl) rfl ?_ ?_ ?_); rfl; rfl) | (refine l_len ?_; (first | refine SXl.v (OpW.len rfl) rfl ?_ ?_ ?_); rfl; rfl) | (refine l_add ?_; (first | refine SXl.v (OpW.succ rfl rfl (by omega)) rfl ?_ ?_ ?_ | refine SXl.v (OpW.addi rfl rfl (by omega) (by omega)) rfl ?_ ?_ ?_ | refine SXl.v (OpW.add rfl rfl) rfl ?_ ?_ ?_); rfl; rfl) | (refine l_eql ?_; (first | refine SXl.v (OpW.eqlStrT rfl rfl (by first | assumption | with_reducible rfl | decide)) rfl ?_ ?_ ?_ | refine SXl.v (OpW.eqlStrF rfl rfl (by first | assumption | with_reducible rfl | decide)) rfl ?_ ?_ ?_); rfl; rfl) | (refine l_lss ?_; (first | refine SXl.v (OpW.lssT rfl rfl (by omega)) rfl ?_ ?_ ?_ | refine SXl.v (OpW.lssF rfl rfl (by omega)) rfl ?_ ?_ ?_ | refine SXl.v (OpW.lss rfl rfl) rfl ?_ ?_ ?_); rfl; rfl) | (refine l_indexAddr ?_; (first | refine SXl.v (OpW.indexAddr1 (by omega) rfl rfl) rfl ?_ ?_ ?_ | refine SXl.v (OpW.indexAddr (by omega) rfl rfl) rfl ?_ ?_ ?_); rfl; rfl) | refine SX.ret ?_ | refine SX.exit ?_ | refine SQ.thenRet ?_ | refine SQ.thenExit ?_ | refine SQ.blockNormal ?_ | refine SQ.blockRet ?_ | refine SQ.blockExit ?_ | refine SQ.blockOther rfl ?_)
      refine SQ.body1 rfl rfl (fun w' hl => ⟨by rw [keyI_none (idxOf_none fun j x hj hx => hs j x (by omega) hx)], hl.mod⟩)

end Go.Proofs.YthffgbhphjkdeaaDoor
namespace Go.Proofs.YthffgbhphjkdeaaDoor
open Go.RowKit

set_option maxRecDepth 100000 in
set_option maxHeartbeats 4000000 in
theorem sl26Int_any (b : Nat) (k : List UInt8) (w : World) : Calls Tryd.prog 54 #[.pointer (some ⟨b, 0, none⟩), .string ⟨k.toArray⟩] w fun e w' => e = .returned (.tuple #[.pointer (some ⟨b, (iptr k).1, none⟩), .bool (iptr k).2]) ∧ Mod (fun _ => False) w w' := by
  refine calls_sx Tryd.func54 rfl rfl (fun a h1 h2 h3 => ((Fr.nil h1 h2).arg (h3 1 _ rfl)).arg (h3 0 _ rfl)) ?_
  by_cases k0 : k = [100, 105, 114]
  · subst k0
    repeat (first | refine SX.seq ?_ | refine SXl.nil ?_ | refine SX.region ?_ | refine SQ.thenNormal ?_ | refine SX.block ?_ | refine SX.skip ?_ | refine SX.condT rfl ?_ | refine SX.condF rfl ?_ | (refine l_fieldAddr ?_; (first | refine SXl.v (OpW.fieldAddr rfl) rfl ?_ ?_ ?_); rfl; rfl) | (refine l_move ?_; (first | refine SXl.v (OpW.move rfl) rfl ?_ ?_ ?_); rfl; rfl) | (refine l_assign ?_; (first | refine SXl.v (OpW.assign rfl) rfl ?_ ?_ ?_); rfl; rfl) | (refine l_nilCheck ?_; (first | refine SXl.v (OpW.nilCheck rfl) rfl ?_ ?_ ?_); rfl; rfl) | (refine l_eql ?_; (first | refine SXl.v (OpW.eqlStrT rfl rfl (by first | assumption | with_reducible rfl | decide)) rfl ?_ ?_ ?_ | refine SXl.v (OpW.eqlStrF rfl rfl (by first | assumption | with_reducible rfl | decide)) rfl ?_ ?_ ?_); rfl; rfl) | refine SX.ret ?_ | refine SX.exit ?_ | refine SQ.thenRet ?_ | refine SQ.thenExit ?_ | refine SQ.blockNormal ?_ | refine SQ.blockRet ?_ | refine SQ.blockExit ?_ | refine SQ.blockOther rfl ?_)
    refine SQ.body2 rfl rfl rfl (fun w' hl => ⟨by kernel_rfl, hl.mod⟩)
  by_cases k1 : k = [119, 114, 97, 112]
  · subst k1
    repeat (first | refine SX.seq ?_ | refine SXl.nil ?_ | refine SX.region ?_ | refine SQ.thenNormal ?_ | refine SX.block ?_ | refine SX.skip ?_ | refine SX.condT rfl ?_ | refine SX.condF rfl ?_ | (refine l_fieldAddr ?_; (first | refine SXl.v (OpW.fieldAddr rfl) rfl ?_ ?_ ?_); rfl; rfl) | (refine l_move ?_; (first | refine SXl.v (OpW.move rfl) rfl ?_ ?_ ?_); rfl; rfl) | (refine l_assign ?_; (first | refine SXl.v (OpW.assign rfl) rfl ?_ ?_ ?_); rfl; rfl) | (refine l_nilCheck ?_; (first | refine SXl.v (OpW.nilCheck rfl) rfl ?_ ?_ ?_); rfl; rfl) | (refine l_eql ?_; (first | refine SXl.v (OpW.eqlStrT rfl rfl (by first | assumption | with_reducible rfl | decide)) rfl ?_ ?_ ?_ | refine SXl.v (OpW.eqlStrF rfl rfl (by first | assumption | with_reducible rfl | decide)) rfl ?_ ?_ ?_); rfl; rfl) | refine SX.ret ?_ | refine SX.exit ?_ | refine SQ.thenRet ?_ | refine SQ.thenExit ?_ | refine SQ.blockNormal ?_ | refine SQ.blockRet ?_ | refine SQ.blockExit ?_ | refine SQ.blockOther rfl ?_)
    refine SQ.body2 rfl rfl rfl (fun w' hl => ⟨by kernel_rfl, hl.mod⟩)
  by_cases k2 : k = [106, 117, 115, 116, 105, 102, 121]
  · subst k2
    repeat (first | refine SX.seq ?_ | refine SXl.nil ?_ | refine SX.region ?_ | refine SQ.thenNormal ?_ | refine SX.block ?_ | refine SX.skip ?_ | refine SX.condT rfl ?_ | refine SX.condF rfl ?_ | (refine l_fieldAddr ?_; (first | refine SXl.v (OpW.fieldAddr rfl) rfl ?_ ?_ ?_); rfl; rfl) | (refine l_move ?_; (first | refine SXl.v (OpW.move rfl) rfl ?_ ?_ ?_); rfl; rfl) | (refine l_assign ?_; (first | refine SXl.v (OpW.assign rfl) rfl ?_ ?_ ?_); rfl; rfl) | (refine l_nilCheck ?_; (first | refine SXl.v (OpW.nilCheck rfl) rfl ?_ ?_ ?_); rfl; rfl) | (refine l_eql ?_; (first | refine SXl.v (OpW.eqlStrT rfl rfl (by first | assumption | with_reducible rfl | decide)) rfl ?_ ?_ ?_ | refine SXl.v (OpW.eqlStrF rfl rfl (by first | assumption | with_reducible rfl | decide)) rfl ?_ ?_ ?_); rfl; rfl) | refine SX.ret ?_ | refine SX.exit ?_ | refine SQ.thenRet ?_ | refine SQ.thenExit ?_ | refine SQ.blockNormal ?_ | refine SQ.blockRet ?_ | refine SQ.blockExit ?_ | refine SQ.blockOther rfl ?_)
    refine SQ.body2 rfl rfl rfl (fun w' hl => ⟨by kernel_rfl, hl.mod⟩)
  by_cases k3 : k = [105, 116, 101, 109, 115]
  · subst k3
    repeat (first | refine SX.seq ?_ | refine SXl.nil ?_ | refine SX.region ?_ | refine SQ.thenNormal ?_ | refine SX.block ?_ | refine SX.skip ?_ | refine SX.condT rfl ?_ | refine SX.condF rfl ?_ | (refine l_fieldAddr ?_; (first | refine SXl.v (OpW.fieldAddr rfl) rfl ?_ ?_ ?_); rfl; rfl) | (refine l_move ?_; (first | refine SXl.v (OpW.move rfl) rfl ?_ ?_ ?_); rfl; rfl) | (refine l_assign ?_; (first | refine SXl.v (OpW.assign rfl) rfl ?_ ?_ ?_); rfl; rfl) | (refine l_nilCheck ?_; (first | refine SXl.v (OpW.nilCheck rfl) rfl ?_ ?_ ?_); rfl; rfl) | (refine l_eql ?_; (first | refine SXl.v (OpW.eqlStrT rfl rfl (by first | assumption | with_reducible rfl | decide)) rfl ?_ ?_ ?_ | refine SXl.v (OpW.eqlStrF rfl rfl (by first | assumption | with_reducible rfl | decide)) rfl ?_ ?_ ?_); rfl; rfl) | refine SX.ret ?_ | refine SX.exit ?_ | refine SQ.thenRet ?_ | refine SQ.thenExit ?_ | refine SQ.blockNormal ?_ | refine SQ.blockRet ?_ | refine SQ.blockExit ?_ | refine SQ.blockOther rfl ?_)
    refine SQ.body2 rfl rfl rfl (fun w' hl => ⟨by kernel_rfl, hl.mod⟩)
  by_cases k4 : k = [115, 101, 108, 102]
  · subst k4
    repeat (first | refine SX.seq ?_ | refine SXl.nil ?_ | refine SX.region ?_ | refine SQ.thenNormal ?_ | refine SX.block ?_ | refine SX.skip ?_ | refine SX.condT rfl ?_ | refine SX.condF rfl ?_ | (refine l_fieldAddr ?_; (first | refine SXl.v (OpW.fieldAddr rfl) rfl ?_ ?_ ?_); rfl; rfl) | (refine l_move ?_; (first | refine SXl.v (OpW.move rfl) rfl ?_ ?_ ?_); rfl; rfl) | (refine l_assign ?_; (first | refine SXl.v (OpW.assign rfl) rfl ?_ ?_ ?_); rfl; rfl) | (refine l_nilCheck ?_; (first | refine SXl.v (OpW.nilCheck rfl) rfl ?_ ?_ ?_); rfl; rfl) | (refine l_eql ?_; (first | refine SXl.v (OpW.eqlStrT rfl rfl (by first | assumption | with_reducible rfl | decide)) rfl ?_ ?_ ?_ | refine SXl.v (OpW.eqlStrF rfl rfl (by first | assumption | with_reducible rfl | decide)) rfl ?_ ?_ ?_); rfl; rfl) | refine SX.ret ?_ | refine SX.exit ?_ | refine SQ.thenRet ?_ | refine SQ.thenExit ?_ | refine SQ.blockNormal ?_ | refine SQ.blockRet ?_ | refine SQ.blockExit ?_ | refine SQ.blockOther rfl ?_)
    refine SQ.body2 rfl rfl rfl (fun w' hl => ⟨by kernel_rfl, hl.mod⟩)
  by_cases k5 : k = [99, 111, 110, 116, 101, 110, 116]
  · subst k5
    repeat (first | refine SX.seq ?_ | refine SXl.nil ?_ | refine SX.region ?_ | refine SQ.thenNormal ?_ | refine SX.block ?_ | refine SX.skip ?_ | refine SX.condT rfl ?_ | refine SX.condF rfl ?_ | (refine l_fieldAddr ?_; (first | refine SXl.v (OpW.fieldAddr rfl) rfl ?_ ?_ ?_); rfl; rfl) | (refine l_move ?_; (first | refine SXl.v (OpW.move rfl) rfl ?_ ?_ ?_); rfl; rfl) | (refine l_assign ?_; (first | refine SXl.v (OpW.assign rfl) rfl ?_ ?_ ?_); rfl; rfl) | (refine l_nilCheck ?_; (first | refine SXl.v (OpW.nilCheck rfl) rfl ?_ ?_ ?_); rfl; rfl) | (refine l_eql ?_; (first | refine SXl.v (OpW.eqlStrT rfl rfl (by first | assumption | with_reducible rfl | decide)) rfl ?_ ?_ ?_ | refine SXl.v (OpW.eqlStrF rfl rfl (by first | assumption | with_reducible rfl | decide)) rfl ?_ ?_ ?_); rfl; rfl) | refine SX.ret ?_ | refine SX.exit ?_ | refine SQ.thenRet ?_ | refine SQ.thenExit ?_ | refine SQ.blockNormal ?_ | refine SQ.blockRet ?_ | refine SQ.blockExit ?_ | refine SQ.blockOther rfl ?_)
    refine SQ.body2 rfl rfl rfl (fun w' hl => ⟨by kernel_rfl, hl.mod⟩)
  by_cases k6 : k = [111, 114, 100, 101, 114]
  · subst k6
    repeat (first | refine SX.seq ?_ | refine SXl.nil ?_ | refine SX.region ?_ | refine SQ.thenNormal ?_ | refine SX.block ?_ | refine SX.skip ?_ | refine SX.condT rfl ?_ | refine SX.condF rfl ?_ | (refine l_fieldAddr ?_; (first | refine SXl.v (OpW.fieldAddr rfl) rfl ?_ ?_ ?_); rfl; rfl) | (refine l_move ?_; (first | refine SXl.v (OpW.move rfl) rfl ?_ ?_ ?_); rfl; rfl) | (refine l_assign ?_; (first | refine SXl.v (OpW.assign rfl) rfl ?_ ?_ ?_); rfl; rfl) | (refine l_nilCheck ?_; (first | refine SXl.v (OpW.nilCheck rfl) rfl ?_ ?_ ?_); rfl; rfl) | (refine l_eql ?_; (first | refine SXl.v (OpW.eqlStrT rfl rfl (by first | assumption | with_reducible rfl | decide)) rfl ?_ ?_ ?_ | refine SXl.v (OpW.eqlStrF rfl rfl (by first | assumption | with_reducible rfl | decide)) rfl ?_ ?_ ?_); rfl; rfl) | refine SX.ret ?_ | refine SX.exit ?_ | refine SQ.thenRet ?_ | refine SQ.thenExit ?_ | refine SQ.blockNormal ?_ | refine SQ.blockRet ?_ | refine SQ.blockExit ?_ | refine SQ.blockOther rfl ?_)
    refine SQ.body2 rfl rfl rfl (fun w' hl => ⟨by kernel_rfl, hl.mod⟩)
  by_cases k7 : k = [103, 114, 111, 119]
  · subst k7
    repeat (first | refine SX.seq ?_ | refine SXl.nil ?_ | refine SX.region ?_ | refine SQ.thenNormal ?_ | refine SX.block ?_ | refine SX.skip ?_ | refine SX.condT rfl ?_ | refine SX.condF rfl ?_ | (refine l_fieldAddr ?_; (first | refine SXl.v (OpW.fieldAddr rfl) rfl ?_ ?_ ?_); rfl; rfl) | (refine l_move ?_; (first | refine SXl.v (OpW.move rfl) rfl ?_ ?_ ?_); rfl; rfl) | (refine l_assign ?_; (first | refine SXl.v (OpW.assign rfl) rfl ?_ ?_ ?_); rfl; rfl) | (refine l_nilCheck ?_; (first | refine SXl.v (OpW.nilCheck rfl) rfl ?_ ?_ ?_); rfl; rfl) | (refine l_eql ?_; (first | refine SXl.v (OpW.eqlStrT rfl rfl (by first | assumption | with_reducible rfl | decide)) rfl ?_ ?_ ?_ | refine SXl.v (OpW.eqlStrF rfl rfl (by first | assumption | with_reducible rfl | decide)) rfl ?_ ?_ ?_); rfl; rfl) | refine SX.ret ?_ | refine SX.exit ?_ | refine SQ.thenRet ?_ | refine SQ.thenExit ?_ | refine SQ.blockNormal ?_ | refine SQ.blockRet ?_ | refine SQ.blockExit ?_ | refine SQ.blockOther rfl ?_)
    refine SQ.body2 rfl rfl rfl (fun w' hl => ⟨by kernel_rfl, hl.mod⟩)
  by_cases k8 : k = [115, 104, 114, 105, 110, 107]
  · subst k8
    repeat (first | refine SX.seq ?_ | refine SXl.nil ?_ | refine SX.region ?_ | refine SQ.thenNormal ?_ | refine SX.block ?_ | refine SX.skip ?_ | refine SX.condT rfl ?_ | refine SX.condF rfl ?_ | (refine l_fieldAddr ?_; (first | refine SXl.v (OpW.fieldAddr rfl) rfl ?_ ?_ ?_); rfl; rfl) | (refine l_move ?_; (first | refine SXl.v (OpW.move rfl) rfl ?_ ?_ ?_); rfl; rfl) | (refine l_assign ?_; (first | refine SXl.v (OpW.assign rfl) rfl ?_ ?_ ?_); rfl; rfl) | (refine l_nilCheck ?_; (first | refine SXl.v (OpW.nilCheck rfl) rfl ?_ ?_ ?_); rfl; rfl) | (refine l_eql ?_; (first | refine SXl.v (OpW.eqlStrT rfl rfl (by first | assumption | with_reducible rfl | decide)) rfl ?_ ?_ ?_ | refine SXl.v (OpW.eqlStrF rfl rfl (by first | assumption | with_reducible rfl | decide)) rfl ?_ ?_ ?_); rfl; rfl) | refine SX.ret ?_ | refine SX.exit ?_ | refine SQ.thenRet ?_ | refine SQ.thenExit ?_ | refine SQ.blockNormal ?_ | refine SQ.blockRet ?_ | refine SQ.blockExit ?_ | refine SQ.blockOther rfl ?_)
    refine SQ.body2 rfl rfl rfl (fun w' hl => ⟨by kernel_rfl, hl.mod⟩)
  by_cases k9 : k = [114, 97, 116, 105, 111]
  · subst k9
    repeat (first | refine SX.seq ?_ | refine SXl.nil ?_ | refine SX.region ?_ | refine SQ.thenNormal ?_ | refine SX.block ?_ | refine SX.skip ?_ | refine SX.condT rfl ?_ | refine SX.condF rfl ?_ | (refine l_fieldAddr ?_; (first | refine SXl.v (OpW.fieldAddr rfl) rfl ?_ ?_ ?_); rfl; rfl) | (refine l_move ?_; (first | refine SXl.v (OpW.move rfl) rfl ?_ ?_ ?_); rfl; rfl) | (refine l_assign ?_; (first | refine SXl.v (OpW.assign rfl) rfl ?_ ?_ ?_); rfl; rfl) | (refine l_nilCheck ?_; (first | refine SXl.v (OpW.nilCheck rfl) rfl ?_ ?_ ?_); rfl; rfl) | (refine l_eql ?_; (first | refine SXl.v (OpW.eqlStrT rfl rfl (by first | assumption | with_reducible rfl | decide)) rfl ?_ ?_ ?_ | refine SXl.v (OpW.eqlStrF rfl rfl (by first | assumption | with_reducible rfl | decide)) rfl ?_ ?_ ?_); rfl; rfl) | refine SX.ret ?_ | refine SX.exit ?_ | refine SQ.thenRet ?_ | refine SQ.thenExit ?_ | refine SQ.blockNormal ?_ | refine SQ.blockRet ?_ | refine SQ.blockExit ?_ | refine SQ.blockOther rfl ?_)
    refine SQ.body2 rfl rfl rfl (fun w' hl => ⟨by kernel_rfl, hl.mod⟩)
  by_cases k10 : k = [114, 111, 119, 45, 103, 97, 112]
  · subst k10
    repeat (first | refine SX.seq ?_ | refine SXl.nil ?_ | refine SX.region ?_ | refine SQ.thenNormal ?_ | refine SX.block ?_ | refine SX.skip ?_ | refine SX.condT rfl ?_ | refine SX.condF rfl ?_ | (refine l_fieldAddr ?_; (first | refine SXl.v (OpW.fieldAddr rfl) rfl ?_ ?_ ?_); rfl; rfl) | (refine l_move ?_; (first | refine SXl.v (OpW.move rfl) rfl ?_ ?_ ?_); rfl; rfl) | (refine l_assign ?_; (first | refine SXl.v (OpW.assign rfl) rfl ?_ ?_ ?_); rfl; rfl) | (refine l_nilCheck ?_; (first | refine SXl.v (OpW.nilCheck rfl) rfl ?_ ?_ ?_); rfl; rfl) | (refine l_eql ?_; (first | refine SXl.v (OpW.eqlStrT rfl rfl (by first | assumption | with_reducible rfl | decide)) rfl ?_ ?_ ?_ | refine SXl.v (OpW.eqlStrF rfl rfl (by first | assumption | with_reducible rfl | decide)) rfl ?_ ?_ ?_); rfl; rfl) | refine SX.ret ?_ | refine SX.exit ?_ | refine SQ.thenRet ?_ | refine SQ.thenExit ?_ | refine SQ.blockNormal ?_ | refine SQ.blockRet ?_ | refine SQ.blockExit ?_ | refine SQ.blockOther rfl ?_)
    refine SQ.body2 rfl rfl rfl (fun w' hl => ⟨by kernel_rfl, hl.mod⟩)
  by_cases k11 : k = [99, 111, 108, 45, 103, 97, 112]
  · subst k11
    repeat (first | refine SX.seq ?_ | refine SXl.nil ?_ | refine SX.region ?_ | refine SQ.thenNormal ?_ | refine SX.block ?_ | refine SX.skip ?_ | refine SX.condT rfl ?_ | refine SX.condF rfl ?_ | (refine l_fieldAddr ?_; (first | refine SXl.v (OpW.fieldAddr rfl) rfl ?_ ?_ ?_); rfl; rfl) | (refine l_move ?_; (first | refine SXl.v (OpW.move rfl) rfl ?_ ?_ ?_); rfl; rfl) | (refine l_assign ?_; (first | refine SXl.v (OpW.assign rfl) rfl ?_ ?_ ?_); rfl; rfl) | (refine l_nilCheck ?_; (first | refine SXl.v (OpW.nilCheck rfl) rfl ?_ ?_ ?_); rfl; rfl) | (refine l_eql ?_; (first | refine SXl.v (OpW.eqlStrT rfl rfl (by first | assumption | with_reducible rfl | decide)) rfl ?_ ?_ ?_ | refine SXl.v (OpW.eqlStrF rfl rfl (by first | assumption | with_reducible rfl | decide)) rfl ?_ ?_ ?_); rfl; rfl) | refine SX.ret ?_ | refine SX.exit ?_ | refine SQ.thenRet ?_ | refine SQ.thenExit ?_ | refine SQ.blockNormal ?_ | refine SQ.blockRet ?_ | refine SQ.blockExit ?_ | refine SQ.blockOther rfl ?_)
    refine SQ.body2 rfl rfl rfl (fun w' hl => ⟨by kernel_rfl, hl.mod⟩)
  by_cases k12 : k = [112, 97, 100, 45, 108, 101, 102, 116]
  · subst k12
    repeat (first | refine SX.seq ?_ | refine SXl.nil ?_ | refine SX.region ?_ | refine SQ.thenNormal ?_ | refine SX.block ?_ | refine SX.skip ?_ | refine SX.condT rfl ?_ | refine SX.condF rfl ?_ | (refine l_fieldAddr ?_; (first | refine SXl.v (OpW.fieldAddr rfl) rfl ?_ ?_ ?_); rfl; rfl) | (refine l_move ?_; (first | refine SXl.v (OpW.move rfl) rfl ?_ ?_ ?_); rfl; rfl) | (refine l_assign ?_; (first | refine SXl.v (OpW.assign rfl) rfl ?_ ?_ ?_); rfl; rfl) | (refine l_nilCheck ?_; (first | refine SXl.v (OpW.nilCheck rfl) rfl ?_ ?_ ?_); rfl; rfl) | (refine l_eql ?_; (first | refine SXl.v (OpW.eqlStrT rfl rfl (by first | assumption | with_reducible rfl | decide)) rfl ?_ ?_ ?_ | refine SXl.v (OpW.eqlStrF rfl rfl (by first | assumption | with_reducible rfl | decide)) rfl ?_ ?_ ?_); rfl; rfl) | refine SX.ret ?_ | refine SX.exit ?_ | refine SQ.thenRet ?_ | refine SQ.thenExit ?_ | refine SQ.blockNormal ?_ | refine SQ.blockRet ?_ | refine SQ.blockExit ?_ | refine SQ.blockOther rfl ?_)
    refine SQ.body2 rfl rfl rfl (fun w' hl => ⟨by kernel_rfl, hl.mod⟩)
  by_cases k13 : k = [112, 97, 100, 45, 116, 111, 112]
  · subst k13
    repeat (first | refine SX.seq ?_ | refine SXl.nil ?_ | refine SX.region ?_ | refine SQ.thenNormal ?_ | refine SX.block ?_ | refine SX.skip ?_ | refine SX.condT rfl ?_ | refine SX.condF rfl ?_ | (refine l_fieldAddr ?_; (first | refine SXl.v (OpW.fieldAddr rfl) rfl ?_ ?_ ?_); rfl; rfl) | (refine l_move ?_; (first | refine SXl.v (OpW.move rfl) rfl ?_ ?_ ?_); rfl; rfl) | (refine l_assign ?_; (first | refine SXl.v (OpW.assign rfl) rfl ?_ ?_ ?_); rfl; rfl) | (refine l_nilCheck ?_; (first | refine SXl.v (OpW.nilCheck rfl) rfl ?_ ?_ ?_); rfl; rfl) | (refine l_eql ?_; (first | refine SXl.v (OpW.eqlStrT rfl rfl (by first | assumption | with_reducible rfl | decide)) rfl ?_ ?_ ?_ | refine SXl.v (OpW.eqlStrF rfl rfl (by first | assumption | with_reducible rfl | decide)) rfl ?_ ?_ ?_); rfl; rfl) | refine SX.ret ?_ | refine SX.exit ?_ | refine SQ.thenRet ?_ | refine SQ.thenExit ?_ | refine SQ.blockNormal ?_ | refine SQ.blockRet ?_ | refine SQ.blockExit ?_ | refine SQ.blockOther rfl ?_)
    refine SQ.body2 rfl rfl rfl (fun w' hl => ⟨by kernel_rfl, hl.mod⟩)
  by_cases k14 : k = [112, 97, 100, 45, 114, 105, 103, 104, 116]
  · subst k14
    repeat (first | refine SX.seq ?_ | refine SXl.nil ?_ | refine SX.region ?_ | refine SQ.thenNormal ?_ | refine SX.block ?_ | refine SX.skip ?_ | refine SX.condT rfl ?_ | refine SX.condF rfl ?_ | (refine l_fieldAddr ?_; (first | refine SXl.v (OpW.fieldAddr rfl) rfl ?_ ?_ ?_); rfl; rfl) | (refine l_move ?_; (first | refine SXl.v (OpW.move rfl) rfl ?_ ?_ ?_); rfl; rfl) | (refine l_assign ?_; (first | refine SXl.v (OpW.assign rfl) rfl ?_ ?_ ?_); rfl; rfl) | (refine l_nilCheck ?_; (first | refine SXl.v (OpW.nilCheck rfl) rfl ?_ ?_ ?_); rfl; rfl) | (refine l_eql ?_; (first | refine SXl.v (OpW.eqlStrT rfl rfl (by first | assumption | with_reducible rfl | decide)) rfl ?_ ?_ ?_ | refine SXl.v (OpW.eqlStrF rfl rfl (by first | assumption | with_reducible rfl | decide)) rfl ?_ ?_ ?_); rfl; rfl) | refine SX.ret ?_ | refine SX.exit ?_ | refine SQ.thenRet ?_ | refine SQ.thenExit ?_ | refine SQ.blockNormal ?_ | refine SQ.blockRet ?_ | refine SQ.blockExit ?_ | refine SQ.blockOther rfl ?_)
    refine SQ.body2 rfl rfl rfl (fun w' hl => ⟨by kernel_rfl, hl.mod⟩)
  by_cases k15 : k = [112, 97, 100, 45, 98, 111, 116, 116, 111, 109]
  · subst k15
    repeat (first | refine SX.seq ?_ | refine SXl.nil ?_ | refine SX.region ?_ | refine SQ.thenNormal ?_ | refine SX.block ?_ | refine SX.skip ?_ | refine SX.condT rfl ?_ | refine SX.condF rfl ?_ | (refine l_fieldAddr ?_; (first | refine SXl.v (OpW.fieldAddr rfl) rfl ?_ ?_ ?_); rfl; rfl) | (refine l_move ?_; (first | refine SXl.v (OpW.move rfl) rfl ?_ ?_ ?_); rfl; rfl) | (refine l_assign ?_; (first | refine SXl.v (OpW.assign rfl) rfl ?_ ?_ ?_); rfl; rfl) | (refine l_nilCheck ?_; (first | refine SXl.v (OpW.nilCheck rfl) rfl ?_ ?_ ?_); rfl; rfl) | (refine l_eql ?_; (first | refine SXl.v (OpW.eqlStrT rfl rfl (by first | assumption | with_reducible rfl | decide)) rfl ?_ ?_ ?_ | refine SXl.v (OpW.eqlStrF rfl rfl (by first | assumption | with_reducible rfl | decide)) rfl ?_ ?_ ?_); rfl; rfl) | refine SX.ret ?_ | refine SX.exit ?_ | refine SQ.thenRet ?_ | refine SQ.thenExit ?_ | refine SQ.blockNormal ?_ | refine SQ.blockRet ?_ | refine SQ.blockExit ?_ | refine SQ.blockOther rfl ?_)
    refine SQ.body2 rfl rfl rfl (fun w' hl => ⟨by kernel_rfl, hl.mod⟩)
  by_cases k16 : k = [98, 111, 114, 100, 101, 114, 45, 108, 101, 102, 116]
  · subst k16
    repeat (first | refine SX.seq ?_ | refine SXl.nil ?_ | refine SX.region ?_ | refine SQ.thenNormal ?_ | refine SX.block ?_ | refine SX.skip ?_ | refine SX.condT rfl ?_ | refine SX.condF rfl ?_ | (refine l_fieldAddr ?_; (first | refine SXl.v (OpW.fieldAddr rfl) rfl ?_ ?_ ?_); rfl; rfl) | (refine l_move ?_; (first | refine SXl.v (OpW.move rfl) rfl ?_ ?_ ?_); rfl; rfl) | (refine l_assign ?_; (first | refine SXl.v (OpW.assign rfl) rfl ?_ ?_ ?_); rfl; rfl) | (refine l_nilCheck ?_; (first | refine SXl.v (OpW.nilCheck rfl) rfl ?_ ?_ ?_); rfl; rfl) | (refine l_eql ?_; (first | refine SXl.v (OpW.eqlStrT rfl rfl (by first | assumption | with_reducible rfl | decide)) rfl ?_ ?_ ?_ | refine SXl.v (OpW.eqlStrF rfl rfl (by first | assumption | with_reducible rfl | decide)) rfl ?_ ?_ ?_); rfl; rfl) | refine SX.ret ?_ | refine SX.exit ?_ | refine SQ.thenRet ?_ | refine SQ.thenExit ?_ | refine SQ.blockNormal ?_ | refine SQ.blockRet ?_ | refine SQ.blockExit ?_ | refine SQ.blockOther rfl ?_)
    refine SQ.body2 rfl rfl rfl (fun w' hl => ⟨by kernel_rfl, hl.mod⟩)
  by_cases k17 : k = [98, 111, 114, 100, 101, 114, 45, 116, 111, 112]
  · subst k17
    repeat (first | refine SX.seq ?_ | refine SXl.nil ?_ | refine SX.region ?_ | refine SQ.thenNormal ?_ | refine SX.block ?_ | refine SX.skip ?_ | refine SX.condT rfl ?_ | refine SX.condF rfl ?_ | (refine l_fieldAddr ?_; (first | refine SXl.v (OpW.fieldAddr rfl) rfl ?_ ?_ ?_); rfl; rfl) | (refine l_move ?_; (first | refine SXl.v (OpW.move rfl) rfl ?_ ?_ ?_); rfl; rfl) | (refine l_assign ?_; (first | refine SXl.v (OpW.assign rfl) rfl ?_ ?_ ?_); rfl; rfl) | (refine l_nilCheck ?_; (first | refine SXl.v (OpW.nilCheck rfl) rfl ?_ ?_ ?_); rfl; rfl) | (refine l_eql ?_; (first | refine SXl.v (OpW.eqlStrT rfl rfl (by first | assumption | with_reducible rfl | decide)) rfl ?_ ?_ ?_ | refine SXl.v (OpW.eqlStrF rfl rfl (by first | assumption | with_reducible rfl | decide)) rfl ?_ ?_ ?_); rfl; rfl) | refine SX.ret ?_ | refine SX.exit ?_ | refine SQ.thenRet ?_ | refine SQ.thenExit ?_ | refine SQ.blockNormal ?_ | refine SQ.blockRet ?_ | refine SQ.blockExit ?_ | refine SQ.blockOther rfl ?_)
    refine SQ.body2 rfl rfl rfl (fun w' hl => ⟨by kernel_rfl, hl.mod⟩)
  by_cases k18 : k = [98, 111, 114, 100, 101, 114, 45, 114, 105, 103, 104, 116]
  · subst k18
    repeat (first | refine SX.seq ?_ | refine SXl.nil ?_ | refine SX.region ?_ | refine SQ.thenNormal ?_ | refine SX.block ?_ | refine SX.skip ?_ | refine SX.condT rfl ?_ | refine SX.condF rfl ?_ | (refine l_fieldAddr ?_; (first | refine SXl.v (OpW.fieldAddr rfl) rfl ?_ ?_ ?_); rfl; rfl) | (refine l_move ?_; (first | refine SXl.v (OpW.move rfl) rfl ?_ ?_ ?_); rfl; rfl) | (refine l_assign ?_; (first | refine SXl.v (OpW.assign rfl) rfl ?_ ?_ ?_); rfl; rfl) | (refine l_nilCheck ?_; (first | refine SXl.v (OpW.nilCheck rfl) rfl ?_ ?_ ?_); rfl; rfl) | (refine l_eql ?_; (first | refine SXl.v (OpW.eqlStrT rfl rfl (by first | assumption | with_reducible rfl | decide)) rfl ?_ ?_ ?_ | refine SXl.v (OpW.eqlStrF rfl rfl (by first | assumption | with_reducible rfl | decide)) rfl ?_ ?_ ?_); rfl; rfl) | refine SX.ret ?_ | refine SX.exit ?_ | refine SQ.thenRet ?_ | refine SQ.thenExit ?_ | refine SQ.blockNormal ?_ | refine SQ.blockRet ?_ | refine SQ.blockExit ?_ | refine SQ.blockOther rfl ?_)
    refine SQ.body2 rfl rfl rfl (fun w' hl => ⟨by kernel_rfl, hl.mod⟩)
  by_cases k19 : k = [98, 111, 114, 100, 101, 114, 45, 98, 111, 116, 116, 111, 109]
  · subst k19
    repeat (first | refine SX.seq ?_ | refine SXl.nil ?_ | refine SX.region ?_ | refine SQ.thenNormal ?_ | refine SX.block ?_ | refine SX.skip ?_ | refine SX.condT rfl ?_ | refine SX.condF rfl ?_ | (refine l_fieldAddr ?_; (first | refine SXl.v (OpW.fieldAddr rfl) rfl ?_ ?_ ?_); rfl; rfl) | (refine l_move ?_; (first | refine SXl.v (OpW.move rfl) rfl ?_ ?_ ?_); rfl; rfl) | (refine l_assign ?_; (first | refine SXl.v (OpW.assign rfl) rfl ?_ ?_ ?_); rfl; rfl) | (refine l_nilCheck ?_; (first | refine SXl.v (OpW.nilCheck rfl) rfl ?_ ?_ ?_); rfl; rfl) | (refine l_eql ?_; (first | refine SXl.v (OpW.eqlStrT rfl rfl (by first | assumption | with_reducible rfl | decide)) rfl ?_ ?_ ?_ | refine SXl.v (OpW.eqlStrF rfl rfl (by first | assumption | with_reducible rfl | decide)) rfl ?_ ?_ ?_); rfl; rfl) | refine SX.ret ?_ | refine SX.exit ?_ | refine SQ.thenRet ?_ | refine SQ.thenExit ?_ | refine SQ.blockNormal ?_ | refine SQ.blockRet ?_ | refine SQ.blockExit ?_ | refine SQ.blockOther rfl ?_)
    refine SQ.body2 rfl rfl rfl (fun w' hl => ⟨by kernel_rfl, hl.mod⟩)
  · have e : iptr k = (8, false) := by
      unfold iptr
      by_cases h6 : k = [97, 112, 97, 114, 116]
      · subst h6; kernel_rfl
      by_cases h7 : k = [104, 105, 100, 100, 101, 110]
      · subst h7; kernel_rfl
      have : idxOf intTexts k = none := by
        unfold idxOf
        rw [List.findIdx?_eq_none_iff]
        intro x hx
        rw [decide_eq_false_iff_not]
        rintro rfl
        simp only [intTexts, List.mem_cons, List.not_mem_nil, or_false] at hx
        simp_all
      rw [this]
    repeat (first | refine SX.seq ?_ | refine SXl.nil ?_ | refine SX.region ?_ | refine SQ.thenNormal ?_ | refine SX.block ?_ | refine SX.skip ?_ | refine SX.condT rfl ?_ | refine SX.condF rfl ?_ | (refine l_fieldAddr ?_; (first | refine SXl.v (OpW.fieldAddr rfl) rfl ?_ ?_ ?_); rfl; rfl) | (refine l_move ?_; (first | refine SXl.v (OpW.move rfl) rfl ?_ ?_ ?_); rfl; rfl) | (refine l_assign ?_; (first | refine SXl.v (OpW.assign rfl) rfl ?_ ?_ ?_); rfl; rfl) | (refine l_nilCheck ?_; (first | refine SXl.v (OpW.nilCheck rfl) rfl ?_ ?_ ?_); rfl; rfl) | (refine l_eql ?_; (first | refine SXl.v (OpW.eqlStrT rfl rfl (by first | assumption | with_reducible rfl | decide)) rfl ?_ ?_ ?_ | refine SXl.v (OpW.eqlStrF rfl rfl (by first | assumption | with_reducible rfl | decide)) rfl ?_ ?_ ?_); rfl; rfl) | refine SX.ret ?_ | refine SX.exit ?_ | refine SQ.thenRet ?_ | refine SQ.thenExit ?_ | refine SQ.blockNormal ?_ | refine SQ.blockRet ?_ | refine SQ.blockExit ?_ | refine SQ.blockOther rfl ?_)
    exact SQ.body2 rfl rfl rfl (fun w' hl => ⟨by rw [e], hl.mod⟩)

set_option maxRecDepth 100000 in
set_option maxHeartbeats 4000000 in
theorem sl26Value_any (b : Nat) (k : List UInt8) (w : World) : Calls Tryd.prog 53 #[.pointer (some ⟨b, 0, none⟩), .string ⟨k.toArray⟩] w fun e w' => e = .returned (.tuple #[.pointer (some ⟨b, (vptr k).1, none⟩), .bool (vptr k).2]) ∧ Mod (fun _ => False) w w' := by
  refine calls_sx Tryd.func53 rfl rfl (fun a h1 h2 h3 => ((Fr.nil h1 h2).arg (h3 1 _ rfl)).arg (h3 0 _ rfl)) ?_
  by_cases k0 : k = [98, 97, 115, 105, 115]
  · subst k0
    repeat (first | refine SX.seq ?_ | refine SXl.nil ?_ | refine SX.region ?_ | refine SQ.thenNormal ?_ | refine SX.block ?_ | refine SX.skip ?_ | refine SX.condT rfl ?_ | refine SX.condF rfl ?_ | (refine l_fieldAddr ?_; (first | refine SXl.v (OpW.fieldAddr rfl) rfl ?_ ?_ ?_); rfl; rfl) | (refine l_move ?_; (first | refine SXl.v (OpW.move rfl) rfl ?_ ?_ ?_); rfl; rfl) | (refine l_assign ?_; (first | refine SXl.v (OpW.assign rfl) rfl ?_ ?_ ?_); rfl; rfl) | (refine l_nilCheck ?_; (first | refine SXl.v (OpW.nilCheck rfl) rfl ?_ ?_ ?_); rfl; rfl) | (refine l_eql ?_; (first | refine SXl.v (OpW.eqlStrT rfl rfl (by first | assumption | with_reducible rfl | decide)) rfl ?_ ?_ ?_ | refine SXl.v (OpW.eqlStrF rfl rfl (by first | assumption | with_reducible rfl | decide)) rfl ?_ ?_ ?_); rfl; rfl) | refine SX.ret ?_ | refine SX.exit ?_ | refine SQ.thenRet ?_ | refine SQ.thenExit ?_ | refine SQ.blockNormal ?_ | refine SQ.blockRet ?_ | refine SQ.blockExit ?_ | refine SQ.blockOther rfl ?_)
    refine SQ.body2 rfl rfl rfl (fun w' hl => ⟨by kernel_rfl, hl.mod⟩)
  by_cases k1 : k = [119, 105, 100, 116, 104]
  · subst k1
    repeat (first | refine SX.seq ?_ | refine SXl.nil ?_ | refine SX.region ?_ | refine SQ.thenNormal ?_ | refine SX.block ?_ | refine SX.skip ?_ | refine SX.condT rfl ?_ | refine SX.condF rfl ?_ | (refine l_fieldAddr ?_; (first | refine SXl.v (OpW.fieldAddr rfl) rfl ?_ ?_ ?_); rfl; rfl) | (refine l_move ?_; (first | refine SXl.v (OpW.move rfl) rfl ?_ ?_ ?_); rfl; rfl) | (refine l_assign ?_; (first | refine SXl.v (OpW.assign rfl) rfl ?_ ?_ ?_); rfl; rfl) | (refine l_nilCheck ?_; (first | refine SXl.v (OpW.nilCheck rfl) rfl ?_ ?_ ?_); rfl; rfl) | (refine l_eql ?_; (first | refine SXl.v (OpW.eqlStrT rfl rfl (by first | assumption | with_reducible rfl | decide)) rfl ?_ ?_ ?_ | refine SXl.v (OpW.eqlStrF rfl rfl (by first | assumption | with_reducible rfl | decide)) rfl ?_ ?_ ?_); rfl; rfl) | refine SX.ret ?_ | refine SX.exit ?_ | refine SQ.thenRet ?_ | refine SQ.thenExit ?_ | refine SQ.blockNormal ?_ | refine SQ.blockRet ?_ | refine SQ.blockExit ?_ | refine SQ.blockOther rfl ?_)
    refine SQ.body2 rfl rfl rfl (fun w' hl => ⟨by kernel_rfl, hl.mod⟩)
  by_cases k2 : k = [104, 101, 105, 103, 104, 116]
  · subst k2
    repeat (first | refine SX.seq ?_ | refine SXl.nil ?_ | refine SX.region ?_ | refine SQ.thenNormal ?_ | refine SX.block ?_ | refine SX.skip ?_ | refine SX.condT rfl ?_ | refine SX.condF rfl ?_ | (refine l_fieldAddr ?_; (first | refine SXl.v (OpW.fieldAddr rfl) rfl ?_ ?_ ?_); rfl; rfl) | (refine l_move ?_; (first | refine SXl.v (OpW.move rfl) rfl ?_ ?_ ?_); rfl; rfl) | (refine l_assign ?_; (first | refine SXl.v (OpW.assign rfl) rfl ?_ ?_ ?_); rfl; rfl) | (refine l_nilCheck ?_; (first | refine SXl.v (OpW.nilCheck rfl) rfl ?_ ?_ ?_); rfl; rfl) | (refine l_eql ?_; (first | refine SXl.v (OpW.eqlStrT rfl rfl (by first | assumption | with_reducible rfl | decide)) rfl ?_ ?_ ?_ | refine SXl.v (OpW.eqlStrF rfl rfl (by first | assumption | with_reducible rfl | decide)) rfl ?_ ?_ ?_); rfl; rfl) | refine SX.ret ?_ | refine SX.exit ?_ | refine SQ.thenRet ?_ | refine SQ.thenExit ?_ | refine SQ.blockNormal ?_ | refine SQ.blockRet ?_ | refine SQ.blockExit ?_ | refine SQ.blockOther rfl ?_)
    refine SQ.body2 rfl rfl rfl (fun w' hl => ⟨by kernel_rfl, hl.mod⟩)
  by_cases k3 : k = [109, 105, 110, 45, 119, 105, 100, 116, 104]
  · subst k3
    repeat (first | refine SX.seq ?_ | refine SXl.nil ?_ | refine SX.region ?_ | refine SQ.thenNormal ?_ | refine SX.block ?_ | refine SX.skip ?_ | refine SX.condT rfl ?_ | refine SX.condF rfl ?_ | (refine l_fieldAddr ?_; (first | refine SXl.v (OpW.fieldAddr rfl) rfl ?_ ?_ ?_); rfl; rfl) | (refine l_move ?_; (first | refine SXl.v (OpW.move rfl) rfl ?_ ?_ ?_); rfl; rfl) | (refine l_assign ?_; (first | refine SXl.v (OpW.assign rfl) rfl ?_ ?_ ?_); rfl; rfl) | (refine l_nilCheck ?_; (first | refine SXl.v (OpW.nilCheck rfl) rfl ?_ ?_ ?_); rfl; rfl) | (refine l_eql ?_; (first | refine SXl.v (OpW.eqlStrT rfl rfl (by first | assumption | with_reducible rfl | decide)) rfl ?_ ?_ ?_ | refine SXl.v (OpW.eqlStrF rfl rfl (by first | assumption | with_reducible rfl | decide)) rfl ?_ ?_ ?_); rfl; rfl) | refine SX.ret ?_ | refine SX.exit ?_ | refine SQ.thenRet ?_ | refine SQ.thenExit ?_ | refine SQ.blockNormal ?_ | refine SQ.blockRet ?_ | refine SQ.blockExit ?_ | refine SQ.blockOther rfl ?_)
    refine SQ.body2 rfl rfl rfl (fun w' hl => ⟨by kernel_rfl, hl.mod⟩)
  by_cases k4 : k = [109, 105, 110, 45, 104, 101, 105, 103, 104, 116]
  · subst k4
    repeat (first | refine SX.seq ?_ | refine SXl.nil ?_ | refine SX.region ?_ | refine SQ.thenNormal ?_ | refine SX.block ?_ | refine SX.skip ?_ | refine SX.condT rfl ?_ | refine SX.condF rfl ?_ | (refine l_fieldAddr ?_; (first | refine SXl.v (OpW.fieldAddr rfl) rfl ?_ ?_ ?_); rfl; rfl) | (refine l_move ?_; (first | refine SXl.v (OpW.move rfl) rfl ?_ ?_ ?_); rfl; rfl) | (refine l_assign ?_; (first | refine SXl.v (OpW.assign rfl) rfl ?_ ?_ ?_); rfl; rfl) | (refine l_nilCheck ?_; (first | refine SXl.v (OpW.nilCheck rfl) rfl ?_ ?_ ?_); rfl; rfl) | (refine l_eql ?_; (first | refine SXl.v (OpW.eqlStrT rfl rfl (by first | assumption | with_reducible rfl | decide)) rfl ?_ ?_ ?_ | refine SXl.v (OpW.eqlStrF rfl rfl (by first | assumption | with_reducible rfl | decide)) rfl ?_ ?_ ?_); rfl; rfl) | refine SX.ret ?_ | refine SX.exit ?_ | refine SQ.thenRet ?_ | refine SQ.thenExit ?_ | refine SQ.blockNormal ?_ | refine SQ.blockRet ?_ | refine SQ.blockExit ?_ | refine SQ.blockOther rfl ?_)
    refine SQ.body2 rfl rfl rfl (fun w' hl => ⟨by kernel_rfl, hl.mod⟩)
  by_cases k5 : k = [109, 97, 120, 45, 119, 105, 100, 116, 104]
  · subst k5
    repeat (first | refine SX.seq ?_ | refine SXl.nil ?_ | refine SX.region ?_ | refine SQ.thenNormal ?_ | refine SX.block ?_ | refine SX.skip ?_ | refine SX.condT rfl ?_ | refine SX.condF rfl ?_ | (refine l_fieldAddr ?_; (first | refine SXl.v (OpW.fieldAddr rfl) rfl ?_ ?_ ?_); rfl; rfl) | (refine l_move ?_; (first | refine SXl.v (OpW.move rfl) rfl ?_ ?_ ?_); rfl; rfl) | (refine l_assign ?_; (first | refine SXl.v (OpW.assign rfl) rfl ?_ ?_ ?_); rfl; rfl) | (refine l_nilCheck ?_; (first | refine SXl.v (OpW.nilCheck rfl) rfl ?_ ?_ ?_); rfl; rfl) | (refine l_eql ?_; (first | refine SXl.v (OpW.eqlStrT rfl rfl (by first | assumption | with_reducible rfl | decide)) rfl ?_ ?_ ?_ | refine SXl.v (OpW.eqlStrF rfl rfl (by first | assumption | with_reducible rfl | decide)) rfl ?_ ?_ ?_); rfl; rfl) | refine SX.ret ?_ | refine SX.exit ?_ | refine SQ.thenRet ?_ | refine SQ.thenExit ?_ | refine SQ.blockNormal ?_ | refine SQ.blockRet ?_ | refine SQ.blockExit ?_ | refine SQ.blockOther rfl ?_)
    refine SQ.body2 rfl rfl rfl (fun w' hl => ⟨by kernel_rfl, hl.mod⟩)
  by_cases k6 : k = [109, 97, 120, 45, 104, 101, 105, 103, 104, 116]
  · subst k6
    repeat (first | refine SX.seq ?_ | refine SXl.nil ?_ | refine SX.region ?_ | refine SQ.thenNormal ?_ | refine SX.block ?_ | refine SX.skip ?_ | refine SX.condT rfl ?_ | refine SX.condF rfl ?_ | (refine l_fieldAddr ?_; (first | refine SXl.v (OpW.fieldAddr rfl) rfl ?_ ?_ ?_); rfl; rfl) | (refine l_move ?_; (first | refine SXl.v (OpW.move rfl) rfl ?_ ?_ ?_); rfl; rfl) | (refine l_assign ?_; (first | refine SXl.v (OpW.assign rfl) rfl ?_ ?_ ?_); rfl; rfl) | (refine l_nilCheck ?_; (first | refine SXl.v (OpW.nilCheck rfl) rfl ?_ ?_ ?_); rfl; rfl) | (refine l_eql ?_; (first | refine SXl.v (OpW.eqlStrT rfl rfl (by first | assumption | with_reducible rfl | decide)) rfl ?_ ?_ ?_ | refine SXl.v (OpW.eqlStrF rfl rfl (by first | assumption | with_reducible rfl | decide)) rfl ?_ ?_ ?_); rfl; rfl) | refine SX.ret ?_ | refine SX.exit ?_ | refine SQ.thenRet ?_ | refine SQ.thenExit ?_ | refine SQ.blockNormal ?_ | refine SQ.blockRet ?_ | refine SQ.blockExit ?_ | refine SQ.blockOther rfl ?_)
    refine SQ.body2 rfl rfl rfl (fun w' hl => ⟨by kernel_rfl, hl.mod⟩)
  by_cases k7 : k = [109, 97, 114, 103, 105, 110, 45, 108, 101, 102, 116]
  · subst k7
    repeat (first | refine SX.seq ?_ | refine SXl.nil ?_ | refine SX.region ?_ | refine SQ.thenNormal ?_ | refine SX.block ?_ | refine SX.skip ?_ | refine SX.condT rfl ?_ | refine SX.condF rfl ?_ | (refine l_fieldAddr ?_; (first | refine SXl.v (OpW.fieldAddr rfl) rfl ?_ ?_ ?_); rfl; rfl) | (refine l_move ?_; (first | refine SXl.v (OpW.move rfl) rfl ?_ ?_ ?_); rfl; rfl) | (refine l_assign ?_; (first | refine SXl.v (OpW.assign rfl) rfl ?_ ?_ ?_); rfl; rfl) | (refine l_nilCheck ?_; (first | refine SXl.v (OpW.nilCheck rfl) rfl ?_ ?_ ?_); rfl; rfl) | (refine l_eql ?_; (first | refine SXl.v (OpW.eqlStrT rfl rfl (by first | assumption | with_reducible rfl | decide)) rfl ?_ ?_ ?_ | refine SXl.v (OpW.eqlStrF rfl rfl (by first | assumption | with_reducible rfl | decide)) rfl ?_ ?_ ?_); rfl; rfl) | refine SX.ret ?_ | refine SX.exit ?_ | refine SQ.thenRet ?_ | refine SQ.thenExit ?_ | refine SQ.blockNormal ?_ | refine SQ.blockRet ?_ | refine SQ.blockExit ?_ | refine SQ.blockOther rfl ?_)
    refine SQ.body2 rfl rfl rfl (fun w' hl => ⟨by kernel_rfl, hl.mod⟩)
  by_cases k8 : k = [109, 97, 114, 103, 105, 110, 45, 116, 111, 112]
  · subst k8
    repeat (first | refine SX.seq ?_ | refine SXl.nil ?_ | refine SX.region ?_ | refine SQ.thenNormal ?_ | refine SX.block ?_ | refine SX.skip ?_ | refine SX.condT rfl ?_ | refine SX.condF rfl ?_ | (refine l_fieldAddr ?_; (first | refine SXl.v (OpW.fieldAddr rfl) rfl ?_ ?_ ?_); rfl; rfl) | (refine l_move ?_; (first | refine SXl.v (OpW.move rfl) rfl ?_ ?_ ?_); rfl; rfl) | (refine l_assign ?_; (first | refine SXl.v (OpW.assign rfl) rfl ?_ ?_ ?_); rfl; rfl) | (refine l_nilCheck ?_; (first | refine SXl.v (OpW.nilCheck rfl) rfl ?_ ?_ ?_); rfl; rfl) | (refine l_eql ?_; (first | refine SXl.v (OpW.eqlStrT rfl rfl (by first | assumption | with_reducible rfl | decide)) rfl ?_ ?_ ?_ | refine SXl.v (OpW.eqlStrF rfl rfl (by first | assumption | with_reducible rfl | decide)) rfl ?_ ?_ ?_); rfl; rfl) | refine SX.ret ?_ | refine SX.exit ?_ | refine SQ.thenRet ?_ | refine SQ.thenExit ?_ | refine SQ.blockNormal ?_ | refine SQ.blockRet ?_ | refine SQ.blockExit ?_ | refine SQ.blockOther rfl ?_)
    refine SQ.body2 rfl rfl rfl (fun w' hl => ⟨by kernel_rfl, hl.mod⟩)
  by_cases k9 : k = [109, 97, 114, 103, 105, 110, 45, 114, 105, 103, 104, 116]
  · subst k9
    repeat (first | refine SX.seq ?_ | refine SXl.nil ?_ | refine SX.region ?_ | refine SQ.thenNormal ?_ | refine SX.block ?_ | refine SX.skip ?_ | refine SX.condT rfl ?_ | refine SX.condF rfl ?_ | (refine l_fieldAddr ?_; (first | refine SXl.v (OpW.fieldAddr rfl) rfl ?_ ?_ ?_); rfl; rfl) | (refine l_move ?_; (first | refine SXl.v (OpW.move rfl) rfl ?_ ?_ ?_); rfl; rfl) | (refine l_assign ?_; (first | refine SXl.v (OpW.assign rfl) rfl ?_ ?_ ?_); rfl; rfl) | (refine l_nilCheck ?_; (first | refine SXl.v (OpW.nilCheck rfl) rfl ?_ ?_ ?_); rfl; rfl) | (refine l_eql ?_; (first | refine SXl.v (OpW.eqlStrT rfl rfl (by first | assumption | with_reducible rfl | decide)) rfl ?_ ?_ ?_ | refine SXl.v (OpW.eqlStrF rfl rfl (by first | assumption | with_reducible rfl | decide)) rfl ?_ ?_ ?_); rfl; rfl) | refine SX.ret ?_ | refine SX.exit ?_ | refine SQ.thenRet ?_ | refine SQ.thenExit ?_ | refine SQ.blockNormal ?_ | refine SQ.blockRet ?_ | refine SQ.blockExit ?_ | refine SQ.blockOther rfl ?_)
    refine SQ.body2 rfl rfl rfl (fun w' hl => ⟨by kernel_rfl, hl.mod⟩)
  by_cases k10 : k = [109, 97, 114, 103, 105, 110, 45, 98, 111, 116, 116, 111, 109]
  · subst k10
    repeat (first | refine SX.seq ?_ | refine SXl.nil ?_ | refine SX.region ?_ | refine SQ.thenNormal ?_ | refine SX.block ?_ | refine SX.skip ?_ | refine SX.condT rfl ?_ | refine SX.condF rfl ?_ | (refine l_fieldAddr ?_; (first | refine SXl.v (OpW.fieldAddr rfl) rfl ?_ ?_ ?_); rfl; rfl) | (refine l_move ?_; (first | refine SXl.v (OpW.move rfl) rfl ?_ ?_ ?_); rfl; rfl) | (refine l_assign ?_; (first | refine SXl.v (OpW.assign rfl) rfl ?_ ?_ ?_); rfl; rfl) | (refine l_nilCheck ?_; (first | refine SXl.v (OpW.nilCheck rfl) rfl ?_ ?_ ?_); rfl; rfl) | (refine l_eql ?_; (first | refine SXl.v (OpW.eqlStrT rfl rfl (by first | assumption | with_reducible rfl | decide)) rfl ?_ ?_ ?_ | refine SXl.v (OpW.eqlStrF rfl rfl (by first | assumption | with_reducible rfl | decide)) rfl ?_ ?_ ?_); rfl; rfl) | refine SX.ret ?_ | refine SX.exit ?_ | refine SQ.thenRet ?_ | refine SQ.thenExit ?_ | refine SQ.blockNormal ?_ | refine SQ.blockRet ?_ | refine SQ.blockExit ?_ | refine SQ.blockOther rfl ?_)
    refine SQ.body2 rfl rfl rfl (fun w' hl => ⟨by kernel_rfl, hl.mod⟩)
  by_cases k11 : k = [109, 97, 114, 103, 105, 110, 45, 115, 116, 97, 114, 116]
  · subst k11
    repeat (first | refine SX.seq ?_ | refine SXl.nil ?_ | refine SX.region ?_ | refine SQ.thenNormal ?_ | refine SX.block ?_ | refine SX.skip ?_ | refine SX.condT rfl ?_ | refine SX.condF rfl ?_ | (refine l_fieldAddr ?_; (first | refine SXl.v (OpW.fieldAddr rfl) rfl ?_ ?_ ?_); rfl; rfl) | (refine l_move ?_; (first | refine SXl.v (OpW.move rfl) rfl ?_ ?_ ?_); rfl; rfl) | (refine l_assign ?_; (first | refine SXl.v (OpW.assign rfl) rfl ?_ ?_ ?_); rfl; rfl) | (refine l_nilCheck ?_; (first | refine SXl.v (OpW.nilCheck rfl) rfl ?_ ?_ ?_); rfl; rfl) | (refine l_eql ?_; (first | refine SXl.v (OpW.eqlStrT rfl rfl (by first | assumption | with_reducible rfl | decide)) rfl ?_ ?_ ?_ | refine SXl.v (OpW.eqlStrF rfl rfl (by first | assumption | with_reducible rfl | decide)) rfl ?_ ?_ ?_); rfl; rfl) | refine SX.ret ?_ | refine SX.exit ?_ | refine SQ.thenRet ?_ | refine SQ.thenExit ?_ | refine SQ.blockNormal ?_ | refine SQ.blockRet ?_ | refine SQ.blockExit ?_ | refine SQ.blockOther rfl ?_)
    refine SQ.body2 rfl rfl rfl (fun w' hl => ⟨by kernel_rfl, hl.mod⟩)
  by_cases k12 : k = [109, 97, 114, 103, 105, 110, 45, 101, 110, 100]
  · subst k12
    repeat (first | refine SX.seq ?_ | refine SXl.nil ?_ | refine SX.region ?_ | refine SQ.thenNormal ?_ | refine SX.block ?_ | refine SX.skip ?_ | refine SX.condT rfl ?_ | refine SX.condF rfl ?_ | (refine l_fieldAddr ?_; (first | refine SXl.v (OpW.fieldAddr rfl) rfl ?_ ?_ ?_); rfl; rfl) | (refine l_move ?_; (first | refine SXl.v (OpW.move rfl) rfl ?_ ?_ ?_); rfl; rfl) | (refine l_assign ?_; (first | refine SXl.v (OpW.assign rfl) rfl ?_ ?_ ?_); rfl; rfl) | (refine l_nilCheck ?_; (first | refine SXl.v (OpW.nilCheck rfl) rfl ?_ ?_ ?_); rfl; rfl) | (refine l_eql ?_; (first | refine SXl.v (OpW.eqlStrT rfl rfl (by first | assumption | with_reducible rfl | decide)) rfl ?_ ?_ ?_ | refine SXl.v (OpW.eqlStrF rfl rfl (by first | assumption | with_reducible rfl | decide)) rfl ?_ ?_ ?_); rfl; rfl) | refine SX.ret ?_ | refine SX.exit ?_ | refine SQ.thenRet ?_ | refine SQ.thenExit ?_ | refine SQ.blockNormal ?_ | refine SQ.blockRet ?_ | refine SQ.blockExit ?_ | refine SQ.blockOther rfl ?_)
    refine SQ.body2 rfl rfl rfl (fun w' hl => ⟨by kernel_rfl, hl.mod⟩)
  by_cases k13 : k = [105, 110, 115, 101, 116, 45, 108, 101, 102, 116]
  · subst k13
    repeat (first | refine SX.seq ?_ | refine SXl.nil ?_ | refine SX.region ?_ | refine SQ.thenNormal ?_ | refine SX.block ?_ | refine SX.skip ?_ | refine SX.condT rfl ?_ | refine SX.condF rfl ?_ | (refine l_fieldAddr ?_; (first | refine SXl.v (OpW.fieldAddr rfl) rfl ?_ ?_ ?_); rfl; rfl) | (refine l_move ?_; (first | refine SXl.v (OpW.move rfl) rfl ?_ ?_ ?_); rfl; rfl) | (refine l_assign ?_; (first | refine SXl.v (OpW.assign rfl) rfl ?_ ?_ ?_); rfl; rfl) | (refine l_nilCheck ?_; (first | refine SXl.v (OpW.nilCheck rfl) rfl ?_ ?_ ?_); rfl; rfl) | (refine l_eql ?_; (first | refine SXl.v (OpW.eqlStrT rfl rfl (by first | assumption | with_reducible rfl | decide)) rfl ?_ ?_ ?_ | refine SXl.v (OpW.eqlStrF rfl rfl (by first | assumption | with_reducible rfl | decide)) rfl ?_ ?_ ?_); rfl; rfl) | refine SX.ret ?_ | refine SX.exit ?_ | refine SQ.thenRet ?_ | refine SQ.thenExit ?_ | refine SQ.blockNormal ?_ | refine SQ.blockRet ?_ | refine SQ.blockExit ?_ | refine SQ.blockOther rfl ?_)
    refine SQ.body2 rfl rfl rfl (fun w' hl => ⟨by kernel_rfl, hl.mod⟩)
  by_cases k14 : k = [105, 110, 115, 101, 116, 45, 116, 111, 112]
  · subst k14
    repeat (first | refine SX.seq ?_ | refine SXl.nil ?_ | refine SX.region ?_ | refine SQ.thenNormal ?_ | refine SX.block ?_ | refine SX.skip ?_ | refine SX.condT rfl ?_ | refine SX.condF rfl ?_ | (refine l_fieldAddr ?_; (first | refine SXl.v (OpW.fieldAddr rfl) rfl ?_ ?_ ?_); rfl; rfl) | (refine l_move ?_; (first | refine SXl.v (OpW.move rfl) rfl ?_ ?_ ?_); rfl; rfl) | (refine l_assign ?_; (first | refine SXl.v (OpW.assign rfl) rfl ?_ ?_ ?_); rfl; rfl) | (refine l_nilCheck ?_; (first | refine SXl.v (OpW.nilCheck rfl) rfl ?_ ?_ ?_); rfl; rfl) | (refine l_eql ?_; (first | refine SXl.v (OpW.eqlStrT rfl rfl (by first | assumption | with_reducible rfl | decide)) rfl ?_ ?_ ?_ | refine SXl.v (OpW.eqlStrF rfl rfl (by first | assumption | with_reducible rfl | decide)) rfl ?_ ?_ ?_); rfl; rfl) | refine SX.ret ?_ | refine SX.exit ?_ | refine SQ.thenRet ?_ | refine SQ.thenExit ?_ | refine SQ.blockNormal ?_ | refine SQ.blockRet ?_ | refine SQ.blockExit ?_ | refine SQ.blockOther rfl ?_)
    refine SQ.body2 rfl rfl rfl (fun w' hl => ⟨by kernel_rfl, hl.mod⟩)
  by_cases k15 : k = [105, 110, 115, 101, 116, 45, 114, 105, 103, 104, 116]
  · subst k15
    repeat (first | refine SX.seq ?_ | refine SXl.nil ?_ | refine SX.region ?_ | refine SQ.thenNormal ?_ | refine SX.block ?_ | refine SX.skip ?_ | refine SX.condT rfl ?_ | refine SX.condF rfl ?_ | (refine l_fieldAddr ?_; (first | refine SXl.v (OpW.fieldAddr rfl) rfl ?_ ?_ ?_); rfl; rfl) | (refine l_move ?_; (first | refine SXl.v (OpW.move rfl) rfl ?_ ?_ ?_); rfl; rfl) | (refine l_assign ?_; (first | refine SXl.v (OpW.assign rfl) rfl ?_ ?_ ?_); rfl; rfl) | (refine l_nilCheck ?_; (first | refine SXl.v (OpW.nilCheck rfl) rfl ?_ ?_ ?_); rfl; rfl) | (refine l_eql ?_; (first | refine SXl.v (OpW.eqlStrT rfl rfl (by first | assumption | with_reducible rfl | decide)) rfl ?_ ?_ ?_ | refine SXl.v (OpW.eqlStrF rfl rfl (by first | assumption | with_reducible rfl | decide)) rfl ?_ ?_ ?_); rfl; rfl) | refine SX.ret ?_ | refine SX.exit ?_ | refine SQ.thenRet ?_ | refine SQ.thenExit ?_ | refine SQ.blockNormal ?_ | refine SQ.blockRet ?_ | refine SQ.blockExit ?_ | refine SQ.blockOther rfl ?_)
    refine SQ.body2 rfl rfl rfl (fun w' hl => ⟨by kernel_rfl, hl.mod⟩)
  by_cases k16 : k = [105, 110, 115, 101, 116, 45, 98, 111, 116, 116, 111, 109]
  · subst k16
    repeat (first | refine SX.seq ?_ | refine SXl.nil ?_ | refine SX.region ?_ | refine SQ.thenNormal ?_ | refine SX.block ?_ | refine SX.skip ?_ | refine SX.condT rfl ?_ | refine SX.condF rfl ?_ | (refine l_fieldAddr ?_; (first | refine SXl.v (OpW.fieldAddr rfl) rfl ?_ ?_ ?_); rfl; rfl) | (refine l_move ?_; (first | refine SXl.v (OpW.move rfl) rfl ?_ ?_ ?_); rfl; rfl) | (refine l_assign ?_; (first | refine SXl.v (OpW.assign rfl) rfl ?_ ?_ ?_); rfl; rfl) | (refine l_nilCheck ?_; (first | refine SXl.v (OpW.nilCheck rfl) rfl ?_ ?_ ?_); rfl; rfl) | (refine l_eql ?_; (first | refine SXl.v (OpW.eqlStrT rfl rfl (by first | assumption | with_reducible rfl | decide)) rfl ?_ ?_ ?_ | refine SXl.v (OpW.eqlStrF rfl rfl (by first | assumption | with_reducible rfl | decide)) rfl ?_ ?_ ?_); rfl; rfl) | refine SX.ret ?_ | refine SX.exit ?_ | refine SQ.thenRet ?_ | refine SQ.thenExit ?_ | refine SQ.blockNormal ?_ | refine SQ.blockRet ?_ | refine SQ.blockExit ?_ | refine SQ.blockOther rfl ?_)
    refine SQ.body2 rfl rfl rfl (fun w' hl => ⟨by kernel_rfl, hl.mod⟩)
  by_cases k17 : k = [105, 110, 115, 101, 116, 45, 115, 116, 97, 114, 116]
  · subst k17
    repeat (first | refine SX.seq ?_ | refine SXl.nil ?_ | refine SX.region ?_ | refine SQ.thenNormal ?_ | refine SX.block ?_ | refine SX.skip ?_ | refine SX.condT rfl ?_ | refine SX.condF rfl ?_ | (refine l_fieldAddr ?_; (first | refine SXl.v (OpW.fieldAddr rfl) rfl ?_ ?_ ?_); rfl; rfl) | (refine l_move ?_; (first | refine SXl.v (OpW.move rfl) rfl ?_ ?_ ?_); rfl; rfl) | (refine l_assign ?_; (first | refine SXl.v (OpW.assign rfl) rfl ?_ ?_ ?_); rfl; rfl) | (refine l_nilCheck ?_; (first | refine SXl.v (OpW.nilCheck rfl) rfl ?_ ?_ ?_); rfl; rfl) | (refine l_eql ?_; (first | refine SXl.v (OpW.eqlStrT rfl rfl (by first | assumption | with_reducible rfl | decide)) rfl ?_ ?_ ?_ | refine SXl.v (OpW.eqlStrF rfl rfl (by first | assumption | with_reducible rfl | decide)) rfl ?_ ?_ ?_); rfl; rfl) | refine SX.ret ?_ | refine SX.exit ?_ | refine SQ.thenRet ?_ | refine SQ.thenExit ?_ | refine SQ.blockNormal ?_ | refine SQ.blockRet ?_ | refine SQ.blockExit ?_ | refine SQ.blockOther rfl ?_)
    refine SQ.body2 rfl rfl rfl (fun w' hl => ⟨by kernel_rfl, hl.mod⟩)
  by_cases k18 : k = [105, 110, 115, 101, 116, 45, 101, 110, 100]
  · subst k18
    repeat (first | refine SX.seq ?_ | refine SXl.nil ?_ | refine SX.region ?_ | refine SQ.thenNormal ?_ | refine SX.block ?_ | refine SX.skip ?_ | refine SX.condT rfl ?_ | refine SX.condF rfl ?_ | (refine l_fieldAddr ?_; (first | refine SXl.v (OpW.fieldAddr rfl) rfl ?_ ?_ ?_); rfl; rfl) | (refine l_move ?_; (first | refine SXl.v (OpW.move rfl) rfl ?_ ?_ ?_); rfl; rfl) | (refine l_assign ?_; (first | refine SXl.v (OpW.assign rfl) rfl ?_ ?_ ?_); rfl; rfl) | (refine l_nilCheck ?_; (first | refine SXl.v (OpW.nilCheck rfl) rfl ?_ ?_ ?_); rfl; rfl) | (refine l_eql ?_; (first | refine SXl.v (OpW.eqlStrT rfl rfl (by first | assumption | with_reducible rfl | decide)) rfl ?_ ?_ ?_ | refine SXl.v (OpW.eqlStrF rfl rfl (by first | assumption | with_reducible rfl | decide)) rfl ?_ ?_ ?_); rfl; rfl) | refine SX.ret ?_ | refine SX.exit ?_ | refine SQ.thenRet ?_ | refine SQ.thenExit ?_ | refine SQ.blockNormal ?_ | refine SQ.blockRet ?_ | refine SQ.blockExit ?_ | refine SQ.blockOther rfl ?_)
    refine SQ.body2 rfl rfl rfl (fun w' hl => ⟨by kernel_rfl, hl.mod⟩)
  · have e : vptr k = (11, false) := by
      unfold vptr
      have : idxOf valueTexts k = none := by
        unfold idxOf
        rw [List.findIdx?_eq_none_iff]
        intro x hx
        rw [decide_eq_false_iff_not]
        rintro rfl
        simp only [valueTexts, List.mem_cons, List.not_mem_nil, or_false] at hx
        simp_all
      rw [this]
    repeat (first | refine SX.seq ?_ | refine SXl.nil ?_ | refine SX.region ?_ | refine SQ.thenNormal ?_ | refine SX.block ?_ | refine SX.skip ?_ | refine SX.condT rfl ?_ | refine SX.condF rfl ?_ | (refine l_fieldAddr ?_; (first | refine SXl.v (OpW.fieldAddr rfl) rfl ?_ ?_ ?_); rfl; rfl) | (refine l_move ?_; (first | refine SXl.v (OpW.move rfl) rfl ?_ ?_ ?_); rfl; rfl) | (refine l_assign ?_; (first | refine SXl.v (OpW.assign rfl) rfl ?_ ?_ ?_); rfl; rfl) | (refine l_nilCheck ?_; (first | refine SXl.v (OpW.nilCheck rfl) rfl ?_ ?_ ?_); rfl; rfl) | (refine l_eql ?_; (first | refine SXl.v (OpW.eqlStrT rfl rfl (by first | assumption | with_reducible rfl | decide)) rfl ?_ ?_ ?_ | refine SXl.v (OpW.eqlStrF rfl rfl (by first | assumption | with_reducible rfl | decide)) rfl ?_ ?_ ?_); rfl; rfl) | refine SX.ret ?_ | refine SX.exit ?_ | refine SQ.thenRet ?_ | refine SQ.thenExit ?_ | refine SQ.blockNormal ?_ | refine SQ.blockRet ?_ | refine SQ.blockExit ?_ | refine SQ.blockOther rfl ?_)
    exact SQ.body2 rfl rfl rfl (fun w' hl => ⟨by rw [e], hl.mod⟩)
end Go.Proofs.YthffgbhphjkdeaaDoor
namespace Go.Proofs.YthffgbhphjkdeaaDoor
open Go.RowKit

theorem bitOf_any (b : Bool) (w : World) : Calls Tryd.prog 119 #[.bool b] w fun e w' => e = .returned (.int .i64 (bitOf b)) ∧ Mod (fun _ => False) w w' := by
  refine calls_sx Tryd.func119 rfl rfl (fun a h1 h2 h3 => ((Fr.nil h1 h2).arg (h3 0 _ rfl))) ?_
  cases b
  · repeat (first | refine SX.seq ?_ | refine SXl.nil ?_ | refine SX.region ?_ | refine SQ.thenNormal ?_ | refine SX.block ?_ | refine SX.skip ?_ | refine SX.condT rfl ?_ | refine SX.condF rfl ?_ | (refine l_move ?_; (first | refine SXl.v (OpW.move rfl) rfl ?_ ?_ ?_); rfl; rfl) | (refine l_assign ?_; (first | refine SXl.v (OpW.assign rfl) rfl ?_ ?_ ?_); rfl; rfl) | refine SX.ret ?_ | refine SX.exit ?_ | refine SQ.thenRet ?_ | refine SQ.thenExit ?_ | refine SQ.blockNormal ?_ | refine SQ.blockRet ?_ | refine SQ.blockExit ?_ | refine SQ.blockOther rfl ?_)
    refine SQ.body1 rfl rfl (fun w' hl => ⟨rfl, hl.mod⟩)
  · repeat (first | refine SX.seq ?_ | refine SXl.nil ?_ | refine SX.region ?_ | refine SQ.thenNormal ?_ | refine SX.block ?_ | refine SX.skip ?_ | refine SX.condT rfl ?_ | refine SX.condF rfl ?_ | (refine l_move ?_; (first | refine SXl.v (OpW.move rfl) rfl ?_ ?_ ?_); rfl; rfl) | (refine l_assign ?_; (first | refine SXl.v (OpW.assign rfl) rfl ?_ ?_ ?_); rfl; rfl) | refine SX.ret ?_ | refine SX.exit ?_ | refine SQ.thenRet ?_ | refine SQ.thenExit ?_ | refine SQ.blockNormal ?_ | refine SQ.blockRet ?_ | refine SQ.blockExit ?_ | refine SQ.blockOther rfl ?_)
    refine SQ.body1 rfl rfl (fun w' hl => ⟨rfl, hl.mod⟩)
def numOf (s : Style) (k : List UInt8) : Int × Bool :=
  match idxOf intTexts k with
  | some i => ((styleInts s).getD i 0, true)
  | none => (0, false)
/-- A style's cells lie in block b. -/
def StyleAt (w : World) (b : Nat) (s : Style) : Prop := ∀ j v, s.cells[j]? = some v → w.cell? ⟨b, j, none⟩ = some v
set_option maxRecDepth 100000 in
set_option maxHeartbeats 4000000 in
theorem sl26Num_any (s : Style) (b : Nat) (k : List UInt8) (w : World) (hc : StyleAt w b s) : Calls Tryd.prog 52 #[.pointer (some ⟨b, 0, none⟩), .string ⟨k.toArray⟩] w fun e w' => e = .returned (.tuple #[.int .i64 (numOf s k).1, .bool (numOf s k).2]) ∧ Mod (fun _ => False) w w' := by
  refine calls_sx Tryd.func52 rfl rfl (fun a h1 h2 h3 => ((Fr.nil h1 h2).arg (h3 1 _ rfl)).arg (h3 0 _ rfl)) ?_
  by_cases k1 : k = [97, 112, 97, 114, 116]
  · subst k1
    have c6 := hc 6 _ rfl
    repeat (first | refine SX.seq ?_ | refine SXl.nil ?_ | refine SX.region ?_ | refine SQ.thenNormal ?_ | refine SX.block ?_ | refine SX.skip ?_ | refine SX.condT rfl ?_ | refine SX.condF rfl ?_ | (refine l_call ?_; (first | refine SXl.v (OpW.call rfl (fun w hl => bitOf_any _ _)) rfl ?_ ?_ ?_ | refine SXl.v (OpW.call rfl (fun w hl => sl26Int_any _ _ _)) rfl ?_ ?_ ?_); rfl; rfl) | (refine l_load ?_; (first | refine SXl.v (OpW.load 0 rfl rfl rfl) rfl ?_ ?_ ?_ | refine SXl.v (OpW.load 1 rfl rfl rfl) rfl ?_ ?_ ?_ | refine SXl.v (OpW.load 2 rfl rfl rfl) rfl ?_ ?_ ?_ | refine SXl.v (OpW.load 3 rfl rfl rfl) rfl ?_ ?_ ?_ | refine SXl.v (OpW.loadOld rfl (by assumption) (fun h => h)) rfl ?_ ?_ ?_); rfl; rfl) | (refine l_fieldAddr ?_; (first | refine SXl.v (OpW.fieldAddr rfl) rfl ?_ ?_ ?_); rfl; rfl) | (refine l_move ?_; (first | refine SXl.v (OpW.move rfl) rfl ?_ ?_ ?_); rfl; rfl) | (refine l_assign ?_; (first | refine SXl.v (OpW.assign rfl) rfl ?_ ?_ ?_); rfl; rfl) | (refine l_nilCheck ?_; (first | refine SXl.v (OpW.nilCheck rfl) rfl ?_ ?_ ?_); rfl; rfl) | (refine l_eql ?_; (first | refine SXl.v (OpW.eqlStrT rfl rfl (by first | assumption | with_reducible rfl | decide)) rfl ?_ ?_ ?_ | refine SXl.v (OpW.eqlStrF rfl rfl (by first | assumption | with_reducible rfl | decide)) rfl ?_ ?_ ?_); rfl; rfl) | (refine l_not ?_; (first | refine SXl.v (OpW.not rfl) rfl ?_ ?_ ?_); rfl; rfl) | (refine l_extract ?_; (first | refine SXl.v (OpW.extract rfl rfl) rfl ?_ ?_ ?_); rfl; rfl) | refine SX.ret ?_ | refine SX.exit ?_ | refine SQ.thenRet ?_ | refine SQ.thenExit ?_ | refine SQ.blockNormal ?_ | refine SQ.blockRet ?_ | refine SQ.blockExit ?_ | refine SQ.blockOther rfl ?_)
    refine SQ.body2 rfl rfl rfl (fun w' hl => ⟨rfl, hl.mod⟩)
  by_cases k2 : k = [104, 105, 100, 100, 101, 110]
  · subst k2
    have c7 := hc 7 _ rfl
    repeat (first | refine SX.seq ?_ | refine SXl.nil ?_ | refine SX.region ?_ | refine SQ.thenNormal ?_ | refine SX.block ?_ | refine SX.skip ?_ | refine SX.condT rfl ?_ | refine SX.condF rfl ?_ | (refine l_call ?_; (first | refine SXl.v (OpW.call rfl (fun w hl => bitOf_any _ _)) rfl ?_ ?_ ?_ | refine SXl.v (OpW.call rfl (fun w hl => sl26Int_any _ _ _)) rfl ?_ ?_ ?_); rfl; rfl) | (refine l_load ?_; (first | refine SXl.v (OpW.load 0 rfl rfl rfl) rfl ?_ ?_ ?_ | refine SXl.v (OpW.load 1 rfl rfl rfl) rfl ?_ ?_ ?_ | refine SXl.v (OpW.load 2 rfl rfl rfl) rfl ?_ ?_ ?_ | refine SXl.v (OpW.load 3 rfl rfl rfl) rfl ?_ ?_ ?_ | refine SXl.v (OpW.loadOld rfl (by assumption) (fun h => h)) rfl ?_ ?_ ?_); rfl; rfl) | (refine l_fieldAddr ?_; (first | refine SXl.v (OpW.fieldAddr rfl) rfl ?_ ?_ ?_); rfl; rfl) | (refine l_move ?_; (first | refine SXl.v (OpW.move rfl) rfl ?_ ?_ ?_); rfl; rfl) | (refine l_assign ?_; (first | refine SXl.v (OpW.assign rfl) rfl ?_ ?_ ?_); rfl; rfl) | (refine l_nilCheck ?_; (first | refine SXl.v (OpW.nilCheck rfl) rfl ?_ ?_ ?_); rfl; rfl) | (refine l_eql ?_; (first | refine SXl.v (OpW.eqlStrT rfl rfl (by first | assumption | with_reducible rfl | decide)) rfl ?_ ?_ ?_ | refine SXl.v (OpW.eqlStrF rfl rfl (by first | assumption | with_reducible rfl | decide)) rfl ?_ ?_ ?_); rfl; rfl) | (refine l_not ?_; (first | refine SXl.v (OpW.not rfl) rfl ?_ ?_ ?_); rfl; rfl) | (refine l_extract ?_; (first | refine SXl.v (OpW.extract rfl rfl) rfl ?_ ?_ ?_); rfl; rfl) | refine SX.ret ?_ | refine SX.exit ?_ | refine SQ.thenRet ?_ | refine SQ.thenExit ?_ | refine SQ.blockNormal ?_ | refine SQ.blockRet ?_ | refine SQ.blockExit ?_ | refine SQ.blockOther rfl ?_)
    refine SQ.body2 rfl rfl rfl (fun w' hl => ⟨rfl, hl.mod⟩)
  have hcall := sl26Int_any b k
  cases hi : idxOf intTexts k with
  | none =>
    have e1 : iptr k = (8, false) := by unfold iptr; rw [hi]
    have e2 : numOf s k = (0, false) := by unfold numOf; rw [hi]
    rw [e1] at hcall
    rw [e2]
    repeat (first | refine SX.seq ?_ | refine SXl.nil ?_ | refine SX.region ?_ | refine SQ.thenNormal ?_ | refine SX.block ?_ | refine SX.skip ?_ | refine SX.condT rfl ?_ | refine SX.condF rfl ?_ | (refine l_call ?_; (first | refine SXl.v (OpW.call rfl (fun w hl => hcall _)) rfl ?_ ?_ ?_ | refine SXl.v (OpW.call rfl (fun w hl => bitOf_any _ _)) rfl ?_ ?_ ?_ | refine SXl.v (OpW.call rfl (fun w hl => sl26Int_any _ _ _)) rfl ?_ ?_ ?_); rfl; rfl) | (refine l_load ?_; (first | refine SXl.v (OpW.load 0 rfl rfl rfl) rfl ?_ ?_ ?_ | refine SXl.v (OpW.load 1 rfl rfl rfl) rfl ?_ ?_ ?_ | refine SXl.v (OpW.load 2 rfl rfl rfl) rfl ?_ ?_ ?_ | refine SXl.v (OpW.load 3 rfl rfl rfl) rfl ?_ ?_ ?_ | refine SXl.v (OpW.loadOld rfl (by assumption) (fun h => h)) rfl ?_ ?_ ?_); rfl; rfl) | (refine l_fieldAddr ?_; (first | refine SXl.v (OpW.fieldAddr rfl) rfl ?_ ?_ ?_); rfl; rfl) | (refine l_move ?_; (first | refine SXl.v (OpW.move rfl) rfl ?_ ?_ ?_); rfl; rfl) | (refine l_assign ?_; (first | refine SXl.v (OpW.assign rfl) rfl ?_ ?_ ?_); rfl; rfl) | (refine l_nilCheck ?_; (first | refine SXl.v (OpW.nilCheck rfl) rfl ?_ ?_ ?_); rfl; rfl) | (refine l_eql ?_; (first | refine SXl.v (OpW.eqlStrT rfl rfl (by first | assumption | with_reducible rfl | decide)) rfl ?_ ?_ ?_ | refine SXl.v (OpW.eqlStrF rfl rfl (by first | assumption | with_reducible rfl | decide)) rfl ?_ ?_ ?_); rfl; rfl) | (refine l_not ?_; (first | refine SXl.v (OpW.not rfl) rfl ?_ ?_ ?_); rfl; rfl) | (refine l_extract ?_; (first | refine SXl.v (OpW.extract rfl rfl) rfl ?_ ?_ ?_); rfl; rfl) | refine SX.ret ?_ | refine SX.exit ?_ | refine SQ.thenRet ?_ | refine SQ.thenExit ?_ | refine SQ.blockNormal ?_ | refine SQ.blockRet ?_ | refine SQ.blockExit ?_ | refine SQ.blockOther rfl ?_)
    refine SQ.body2 rfl rfl rfl (fun w' hl => ⟨rfl, hl.mod⟩)
  | some i =>
    have hlt : i < 22 := idxOf_lt hi
    have hat := idxOf_at hi
    have h6 : i ≠ 6 := fun e => by subst e; exact k1 (Option.some.inj hat).symm
    have h7 : i ≠ 7 := fun e => by subst e; exact k2 (Option.some.inj hat).symm
    have e1 : iptr k = (ioffs.getD i 0, true) := by unfold iptr; rw [hi]; simp [h6, h7]
    have e2 : numOf s k = ((styleInts s).getD i 0, true) := by unfold numOf; rw [hi]
    have hv := hc _ _ (int_at s hlt h6 h7)
    rw [e1] at hcall
    rw [e2]
    repeat (first | refine SX.seq ?_ | refine SXl.nil ?_ | refine SX.region ?_ | refine SQ.thenNormal ?_ | refine SX.block ?_ | refine SX.skip ?_ | refine SX.condT rfl ?_ | refine SX.condF rfl ?_ | (refine l_call ?_; (first | refine SXl.v (OpW.call rfl (fun w hl => hcall _)) rfl ?_ ?_ ?_ | refine SXl.v (OpW.call rfl (fun w hl => bitOf_any _ _)) rfl ?_ ?_ ?_ | refine SXl.v (OpW.call rfl (fun w hl => sl26Int_any _ _ _)) rfl ?_ ?_ ?_); rfl; rfl) | (refine l_load ?_; (first | refine SXl.v (OpW.load 0 rfl rfl rfl) rfl ?_ ?_ ?_ | refine SXl.v (OpW.load 1 rfl rfl rfl) rfl ?_ ?_ ?_ | refine SXl.v (OpW.load 2 rfl rfl rfl) rfl ?_ ?_ ?_ | refine SXl.v (OpW.load 3 rfl rfl rfl) rfl ?_ ?_ ?_ | refine SXl.v (OpW.loadOld rfl (by assumption) (fun h => h)) rfl ?_ ?_ ?_); rfl; rfl) | (refine l_fieldAddr ?_; (first | refine SXl.v (OpW.fieldAddr rfl) rfl ?_ ?_ ?_); rfl; rfl) | (refine l_move ?_; (first | refine SXl.v (OpW.move rfl) rfl ?_ ?_ ?_); rfl; rfl) | (refine l_assign ?_; (first | refine SXl.v (OpW.assign rfl) rfl ?_ ?_ ?_); rfl; rfl) | (refine l_nilCheck ?_; (first | refine SXl.v (OpW.nilCheck rfl) rfl ?_ ?_ ?_); rfl; rfl) | (refine l_eql ?_; (first | refine SXl.v (OpW.eqlStrT rfl rfl (by first | assumption | with_reducible rfl | decide)) rfl ?_ ?_ ?_ | refine SXl.v (OpW.eqlStrF rfl rfl (by first | assumption | with_reducible rfl | decide)) rfl ?_ ?_ ?_); rfl; rfl) | (refine l_not ?_; (first | refine SXl.v (OpW.not rfl) rfl ?_ ?_ ?_); rfl; rfl) | (refine l_extract ?_; (first | refine SXl.v (OpW.extract rfl rfl) rfl ?_ ?_ ?_); rfl; rfl) | refine SX.ret ?_ | refine SX.exit ?_ | refine SQ.thenRet ?_ | refine SQ.thenExit ?_ | refine SQ.blockNormal ?_ | refine SQ.blockRet ?_ | refine SQ.blockExit ?_ | refine SQ.blockOther rfl ?_)
    refine SQ.body2 rfl rfl rfl (fun w' hl => ⟨rfl, hl.mod⟩)

set_option maxRecDepth 100000 in
set_option maxHeartbeats 4000000 in
theorem skeyOf_any (s : Style) (k : List UInt8) (w : World) : Calls Tryd.prog 23 #[.agg s.cells.toArray, .string ⟨k.toArray⟩] w fun e w' => e = .returned (.tuple #[.agg (keyOf s k).1.cells.toArray, .bool (keyOf s k).2]) ∧ Mod (fun _ => False) w w' := by
  refine calls_sx Tryd.func23 rfl rfl (fun a h1 h2 h3 => ((Fr.nil h1 h2).arg (h3 1 _ rfl)).arg (h3 0 _ rfl)) ?_
  have hnum := sl26Num_any s
  have hval := sl26Value_any
  cases hi : idxOf intTexts k with
  | some i =>
    have e2 : numOf s k = ((styleInts s).getD i 0, true) := by unfold numOf; rw [hi]
    have e3 : keyOf s k = (⟨1, (styleInts s).getD i 0⟩, true) := by unfold keyOf; rw [hi]
    rw [e3]
    replace hnum := fun b => hnum b k
    rw [e2] at hnum
    repeat (first | refine SX.seq ?_ | refine SXl.nil ?_ | refine SX.region ?_ | refine SQ.thenNormal ?_ | refine SX.block ?_ | refine SX.skip ?_ | refine SX.condT rfl ?_ | refine SX.condF rfl ?_ | (refine l_call ?_; (first | refine SXl.v (OpW.call rfl (fun w hl => hnum _ _ (fun j v hj => hl.cell (i := 1) rfl hj))) rfl ?_ ?_ ?_ | refine SXl.v (OpW.call rfl (fun w hl => sl26Value_any _ _ _)) rfl ?_ ?_ ?_); rfl; rfl) | (refine l_load ?_; (first | refine SXl.v (OpW.loadAll 0 rfl rfl rfl) rfl ?_ ?_ ?_ | refine SXl.v (OpW.loadAll 1 rfl rfl rfl) rfl ?_ ?_ ?_ | refine SXl.v (OpW.loadAll 2 rfl rfl rfl) rfl ?_ ?_ ?_ | refine SXl.v (OpW.loadAll 3 rfl rfl rfl) rfl ?_ ?_ ?_ | refine SXl.v (OpW.loadRow 0 rfl rfl rfl rfl) rfl ?_ ?_ ?_ | refine SXl.v (OpW.loadRow 1 rfl rfl rfl rfl) rfl ?_ ?_ ?_ | refine SXl.v (OpW.loadRow 2 rfl rfl rfl rfl) rfl ?_ ?_ ?_ | refine SXl.v (OpW.loadRow 3 rfl rfl rfl rfl) rfl ?_ ?_ ?_); rfl; rfl) | (refine l_move ?_; (first | refine SXl.v (OpW.move rfl) rfl ?_ ?_ ?_); rfl; rfl) | (refine l_assign ?_; (first | refine SXl.v (OpW.assign rfl) rfl ?_ ?_ ?_); rfl; rfl) | (refine l_nilCheck ?_; (first | refine SXl.v (OpW.nilCheck rfl) rfl ?_ ?_ ?_); rfl; rfl) | (refine l_build ?_; (first | refine SXl.v (OpW.build rfl rfl) rfl ?_ ?_ ?_); rfl; rfl) | (refine l_not ?_; (first | refine SXl.v (OpW.not rfl) rfl ?_ ?_ ?_); rfl; rfl) | (refine l_extract ?_; (first | refine SXl.v (OpW.extract rfl rfl) rfl ?_ ?_ ?_); rfl; rfl) | (refine l_alloc ?_; refine SXl.alloc ?_ ?_ (fun g => ?_); rfl; rfl) | (refine l_box ?_; refine SXl.box ?_ ?_ rfl rfl (fun g => ?_); rfl; rfl) | (refine l_store ?_; first | (refine SXl.storeAll 0 ?_ rfl rfl rfl rfl rfl rfl rfl ?_; rfl; simp only [List.set_cons_zero, List.set_cons_succ]) | (refine SXl.storeAll 1 ?_ rfl rfl rfl rfl rfl rfl rfl ?_; rfl; simp only [List.set_cons_zero, List.set_cons_succ]) | (refine SXl.storeAll 2 ?_ rfl rfl rfl rfl rfl rfl rfl ?_; rfl; simp only [List.set_cons_zero, List.set_cons_succ]) | (refine SXl.storeRow 0 ?_ rfl rfl rfl rfl rfl rfl rfl ?_; rfl; simp only [over, List.set_cons_zero, List.set_cons_succ]) | (refine SXl.storeRow 1 ?_ rfl rfl rfl rfl rfl rfl rfl ?_; rfl; simp only [over, List.set_cons_zero, List.set_cons_succ]) | (refine SXl.storeRow 2 ?_ rfl rfl rfl rfl rfl rfl rfl ?_; rfl; simp only [over, List.set_cons_zero, List.set_cons_succ])) | refine SX.ret ?_ | refine SX.exit ?_ | refine SQ.thenRet ?_ | refine SQ.thenExit ?_ | refine SQ.blockNormal ?_ | refine SQ.blockRet ?_ | refine SQ.blockExit ?_ | refine SQ.blockOther rfl ?_)
    refine SQ.bodyCell2 0 rfl rfl rfl rfl rfl (fun w' hl => ⟨rfl, hl.mod⟩)
  | none =>
    have e2 : numOf s k = (0, false) := by unfold numOf; rw [hi]
    replace hnum := fun b => hnum b k
    rw [e2] at hnum
    cases hv : idxOf valueTexts k with
    | none =>
      have e1 : vptr k = (11, false) := by unfold vptr; rw [hv]
      have e3 : keyOf s k = (⟨0, 0⟩, false) := by unfold keyOf; rw [hi]; simp only; rw [hv]
      rw [e3]
      replace hval := fun b => hval b k
      rw [e1] at hval
      repeat (first | refine SX.seq ?_ | refine SXl.nil ?_ | refine SX.region ?_ | refine SQ.thenNormal ?_ | refine SX.block ?_ | refine SX.skip ?_ | refine SX.condT rfl ?_ | refine SX.condF rfl ?_ | (refine l_call ?_; (first | refine SXl.v (OpW.call rfl (fun w hl => hnum _ _ (fun j v hj => hl.cell (i := 1) rfl hj))) rfl ?_ ?_ ?_ | refine SXl.v (OpW.call rfl (fun w hl => hval _ _)) rfl ?_ ?_ ?_ | refine SXl.v (OpW.call rfl (fun w hl => sl26Value_any _ _ _)) rfl ?_ ?_ ?_); rfl; rfl) | (refine l_load ?_; (first | refine SXl.v (OpW.loadAll 0 rfl rfl rfl) rfl ?_ ?_ ?_ | refine SXl.v (OpW.loadAll 1 rfl rfl rfl) rfl ?_ ?_ ?_ | refine SXl.v (OpW.loadAll 2 rfl rfl rfl) rfl ?_ ?_ ?_ | refine SXl.v (OpW.loadAll 3 rfl rfl rfl) rfl ?_ ?_ ?_ | refine SXl.v (OpW.loadRow 0 rfl rfl rfl rfl) rfl ?_ ?_ ?_ | refine SXl.v (OpW.loadRow 1 rfl rfl rfl rfl) rfl ?_ ?_ ?_ | refine SXl.v (OpW.loadRow 2 rfl rfl rfl rfl) rfl ?_ ?_ ?_ | refine SXl.v (OpW.loadRow 3 rfl rfl rfl rfl) rfl ?_ ?_ ?_); rfl; rfl) | (refine l_move ?_; (first | refine SXl.v (OpW.move rfl) rfl ?_ ?_ ?_); rfl; rfl) | (refine l_assign ?_; (first | refine SXl.v (OpW.assign rfl) rfl ?_ ?_ ?_); rfl; rfl) | (refine l_nilCheck ?_; (first | refine SXl.v (OpW.nilCheck rfl) rfl ?_ ?_ ?_); rfl; rfl) | (refine l_build ?_; (first | refine SXl.v (OpW.build rfl rfl) rfl ?_ ?_ ?_); rfl; rfl) | (refine l_not ?_; (first | refine SXl.v (OpW.not rfl) rfl ?_ ?_ ?_); rfl; rfl) | (refine l_extract ?_; (first | refine SXl.v (OpW.extract rfl rfl) rfl ?_ ?_ ?_); rfl; rfl) | (refine l_alloc ?_; refine SXl.alloc ?_ ?_ (fun g => ?_); rfl; rfl) | (refine l_box ?_; refine SXl.box ?_ ?_ rfl rfl (fun g => ?_); rfl; rfl) | (refine l_store ?_; first | (refine SXl.storeAll 0 ?_ rfl rfl rfl rfl rfl rfl rfl ?_; rfl; simp only [List.set_cons_zero, List.set_cons_succ]) | (refine SXl.storeAll 1 ?_ rfl rfl rfl rfl rfl rfl rfl ?_; rfl; simp only [List.set_cons_zero, List.set_cons_succ]) | (refine SXl.storeAll 2 ?_ rfl rfl rfl rfl rfl rfl rfl ?_; rfl; simp only [List.set_cons_zero, List.set_cons_succ]) | (refine SXl.storeRow 0 ?_ rfl rfl rfl rfl rfl rfl rfl ?_; rfl; simp only [over, List.set_cons_zero, List.set_cons_succ]) | (refine SXl.storeRow 1 ?_ rfl rfl rfl rfl rfl rfl rfl ?_; rfl; simp only [over, List.set_cons_zero, List.set_cons_succ]) | (refine SXl.storeRow 2 ?_ rfl rfl rfl rfl rfl rfl rfl ?_; rfl; simp only [over, List.set_cons_zero, List.set_cons_succ])) | refine SX.ret ?_ | refine SX.exit ?_ | refine SQ.thenRet ?_ | refine SQ.thenExit ?_ | refine SQ.blockNormal ?_ | refine SQ.blockRet ?_ | refine SQ.blockExit ?_ | refine SQ.blockOther rfl ?_)
      refine SQ.bodyCell2 0 rfl rfl rfl rfl rfl (fun w' hl => ⟨rfl, hl.mod⟩)
    | some i =>
      have hlt : i < 19 := idxOf_lt hv
      obtain ⟨hr, hle⟩ := val_at s hlt
      have e1 : vptr k = (voffs.getD i 0, true) := by unfold vptr; rw [hv]
      have e3 : keyOf s k = ((styleVals s).getD i ⟨0, 0⟩, true) := by unfold keyOf; rw [hi]; simp only; rw [hv]
      rw [e3]
      replace hval := fun b => hval b k
      rw [e1] at hval
      repeat (first | refine SX.seq ?_ | refine SXl.nil ?_ | refine SX.region ?_ | refine SQ.thenNormal ?_ | refine SX.block ?_ | refine SX.skip ?_ | refine SX.condT rfl ?_ | refine SX.condF rfl ?_ | (refine l_call ?_; (first | refine SXl.v (OpW.call rfl (fun w hl => hnum _ _ (fun j v hj => hl.cell (i := 1) rfl hj))) rfl ?_ ?_ ?_ | refine SXl.v (OpW.call rfl (fun w hl => hval _ _)) rfl ?_ ?_ ?_ | refine SXl.v (OpW.call rfl (fun w hl => sl26Value_any _ _ _)) rfl ?_ ?_ ?_); rfl; rfl) | (refine l_load ?_; (first | refine SXl.v (OpW.loadRow (cells := s.cells) 1 rfl rfl (Nat.ble_eq_true_of_le hle) hr) rfl ?_ ?_ ?_ | refine SXl.v (OpW.loadAll 0 rfl rfl rfl) rfl ?_ ?_ ?_ | refine SXl.v (OpW.loadAll 1 rfl rfl rfl) rfl ?_ ?_ ?_ | refine SXl.v (OpW.loadAll 2 rfl rfl rfl) rfl ?_ ?_ ?_ | refine SXl.v (OpW.loadAll 3 rfl rfl rfl) rfl ?_ ?_ ?_ | refine SXl.v (OpW.loadRow 0 rfl rfl rfl rfl) rfl ?_ ?_ ?_ | refine SXl.v (OpW.loadRow 1 rfl rfl rfl rfl) rfl ?_ ?_ ?_ | refine SXl.v (OpW.loadRow 2 rfl rfl rfl rfl) rfl ?_ ?_ ?_ | refine SXl.v (OpW.loadRow 3 rfl rfl rfl rfl) rfl ?_ ?_ ?_); rfl; rfl) | (refine l_move ?_; (first | refine SXl.v (OpW.move rfl) rfl ?_ ?_ ?_); rfl; rfl) | (refine l_assign ?_; (first | refine SXl.v (OpW.assign rfl) rfl ?_ ?_ ?_); rfl; rfl) | (refine l_nilCheck ?_; (first | refine SXl.v (OpW.nilCheck rfl) rfl ?_ ?_ ?_); rfl; rfl) | (refine l_build ?_; (first | refine SXl.v (OpW.build rfl rfl) rfl ?_ ?_ ?_); rfl; rfl) | (refine l_not ?_; (first | refine SXl.v (OpW.not rfl) rfl ?_ ?_ ?_); rfl; rfl) | (refine l_extract ?_; (first | refine SXl.v (OpW.extract rfl rfl) rfl ?_ ?_ ?_); rfl; rfl) | (refine l_alloc ?_; refine SXl.alloc ?_ ?_ (fun g => ?_); rfl; rfl) | (refine l_box ?_; refine SXl.box ?_ ?_ rfl rfl (fun g => ?_); rfl; rfl) | (refine l_store ?_; first | (refine SXl.storeAll 0 ?_ rfl rfl rfl rfl rfl rfl rfl ?_; rfl; simp only [List.set_cons_zero, List.set_cons_succ]) | (refine SXl.storeAll 1 ?_ rfl rfl rfl rfl rfl rfl rfl ?_; rfl; simp only [List.set_cons_zero, List.set_cons_succ]) | (refine SXl.storeAll 2 ?_ rfl rfl rfl rfl rfl rfl rfl ?_; rfl; simp only [List.set_cons_zero, List.set_cons_succ]) | (refine SXl.storeRow 0 ?_ rfl rfl rfl rfl rfl rfl rfl ?_; rfl; simp only [over, List.set_cons_zero, List.set_cons_succ]) | (refine SXl.storeRow 1 ?_ rfl rfl rfl rfl rfl rfl rfl ?_; rfl; simp only [over, List.set_cons_zero, List.set_cons_succ]) | (refine SXl.storeRow 2 ?_ rfl rfl rfl rfl rfl rfl rfl ?_; rfl; simp only [over, List.set_cons_zero, List.set_cons_succ])) | refine SX.ret ?_ | refine SX.exit ?_ | refine SQ.thenRet ?_ | refine SQ.thenExit ?_ | refine SQ.blockNormal ?_ | refine SQ.blockRet ?_ | refine SQ.blockExit ?_ | refine SQ.blockOther rfl ?_)
      refine SQ.bodyCell2 0 rfl rfl rfl rfl rfl (fun w' hl => ⟨rfl, hl.mod⟩)

end Go.Proofs.YthffgbhphjkdeaaDoor
namespace Go.Proofs.YthffgbhphjkdeaaDoor
open Go.RowKit

/-- The library's MaxLen holds a number. -/
def Num0 (w : World) : Prop := ∃ m, w.cell? ⟨0, 0, none⟩ = some (.int .i64 m)
theorem Num0.keep {w w' : World} (h : Num0 w) (hm : Mod (fun _ => False) w w') : Num0 w' := by
  obtain ⟨m, h⟩ := h
  exact ⟨m, hm.keep _ _ h⟩

theorem num0 {w : World} (h : w.ShapedOpen Tryd.prog) : Num0 w := Tryd.laysM146.s1_3 w h
/-- What a call gives that makes texts. -/
def NewTexts (w : World) (l : List (List UInt8)) (e : Ending) (w' : World) : Prop :=
  ∃ (a : Option Addr) (c : Nat), e = .returned (.slice a l.length c) ∧ w'.ownsRow w.heap.size 9 1 (.slice a l.length c) l.length (l.map tcell).flatten ∧ Mod (fun _ => False) w w'
theorem new_texts {w : World} {cs : List Value} {l : List (List UInt8)} {n : Nat} (h : cs = (l.map tcell).flatten) (hn : n = l.length) (hb : l.length ≤ 1000) : NewTexts w l (.returned (.slice (some ⟨w.heap.size, 0, none⟩) n n)) (w.alloc (.cells cs.toArray 9)) := by
  subst h hn
  have hfl := flat_length (cells := tcell) (sz := 1) (fun _ => rfl) l
  refine ⟨_, _, rfl, ⟨by rw [hfl], .inr ⟨w.heap.size, l.length, _, rfl, Nat.le_refl _, heap_alloc_new w _, Nat.le_refl _, by unfold maxLen; omega, by rw [List.size_toArray, hfl], ?_⟩⟩, (Mod.refl _ w).alloc _⟩
  exact List.take_of_length_le (by show (l.map tcell).flatten.length ≤ _; omega)
theorem NewTexts.text {w w' : World} {l : List (List UInt8)} {e : Ending} (h : NewTexts w l e w') : NewSlice 9 1 w l.length (l.map tcell).flatten e w' := by
  obtain ⟨a, c, h1, h2, h3⟩ := h
  exact ⟨a, c, h1, h2, h3⟩

set_option maxRecDepth 100000 in
theorem intKeys_any (w : World) (hz : Num0 w) : Calls Tryd.prog 59 #[] w (NewTexts w intTexts) := by
  obtain ⟨m, hm⟩ := hz
  go_enter Tryd.func59, Tryd.ntmps59
  go_wp2_with fail
  refine (Tryd.strings_Split _ _ m _ (by decide +kernel) hm (by decide +kernel)).mono ?_
  rintro e w' ⟨he, hw⟩
  have e1 : e = .returned (.slice (some ⟨w.heap.size, 0, none⟩) 22 22) := he.trans (by kernel_rfl)
  have e2 : w' = w.alloc (.cells (intTexts.map tcell).flatten.toArray 9) := hw.trans (congrArg (fun l : List Value => w.alloc (.cells l.toArray 9)) (by kernel_rfl))
  clear he hw
  subst e1 e2
  go_wp2
  go_ret
  exact new_texts rfl rfl (by decide)

set_option maxRecDepth 100000 in
theorem valueKeys_any (w : World) (hz : Num0 w) : Calls Tryd.prog 60 #[] w (NewTexts w valueTexts) := by
  obtain ⟨m, hm⟩ := hz
  go_enter Tryd.func60, Tryd.ntmps60
  go_wp2_with fail
  refine (Tryd.strings_Split _ _ m _ (by decide +kernel) hm (by decide +kernel)).mono ?_
  rintro e w' ⟨he, hw⟩
  have e1 : e = .returned (.slice (some ⟨w.heap.size, 0, none⟩) 19 19) := he.trans (by kernel_rfl)
  have e2 : w' = w.alloc (.cells (valueTexts.map tcell).flatten.toArray 9) := hw.trans (congrArg (fun l : List Value => w.alloc (.cells l.toArray 9)) (by kernel_rfl))
  clear he hw
  subst e1 e2
  go_wp2
  go_ret
  exact new_texts rfl rfl (by decide)

set_option maxRecDepth 100000 in
theorem keyNames_any (w : World) (hz : Num0 w) : Calls Tryd.prog 25 #[] w (NewTexts w keyTexts) := by
  obtain ⟨i0, hi, hz0, hz1, hz2⟩ := info_parts info_string
  have Hi := hid hi
  have Hz0 := hid hz0
  have Hz1 := hid hz1
  have Hz2 := hid hz2
  clear hi hz0 hz1 hz2
  go_enter Tryd.func25, Tryd.ntmps25
  go_wp2_with fail
  refine (intKeys_any _ hz).mono ?_
  rintro e w1 ⟨a1, c1, rfl, hO1, hm1⟩
  go_wp2_with fail
  refine (valueKeys_any _ (hz.keep hm1)).mono ?_
  rintro e w2 ⟨a2, c2, rfl, hO2, hm2⟩
  have hO3 := own_mod hO1 hm2 (fun _ _ f => f)
  have hS := own_slice (cells := tcell) hO2 (fun _ => rfl) (by decide)
  have hM := hm1.thenNone hm2
  have hroom : w.heap.size ≤ w2.heap.size := hM.size
  have hl : intTexts.length + valueTexts.length ≤ 1000 := by decide
  have HS := hid hS
  clear hS hO2
  go_wp2_with (first | (at_builtin; refine wpList_append_slice (cells := tcell) (B := w.heap.size) rfl _ _ ⟨Tryd.underlying30, Hi.out, Hz0.out, Hz1.out, Hz2.out, by decide⟩ rfl (fun _ => rfl) (fun x u hu => by simp [tcell] at hu; subst hu; rfl) rfl rfl hO3 hroom rfl rfl HS.out (by unfold maxLen; omega) (by omega) ?_))
  intro a3 c3 w3 hO hg
  have hM3 := hM.appendedAt hO3 (Nat.le_refl _) hg
  have e : keyTexts.length = intTexts.length + valueTexts.length := rfl
  go_wp2
  go_ret
  refine ⟨a3, c3, rfl, ?_, hM3⟩
  rw [e]
  unfold keyTexts
  rw [List.map_append, List.flatten_append]
  exact hO

end Go.Proofs.YthffgbhphjkdeaaDoor
namespace Go.Proofs.YthffgbhphjkdeaaDoor
open Go.RowKit

/-- Where a slice lies. -/
structure SlP where
  a : Option Addr
  c : Nat
  lo : Nat
def ownRes {α : Type} (cells : α → List Value) (e sz : Nat) (l : List α) (q : SlP) : Res where
  foot := fun k => (Value.slice q.a l.length q.c).ownBlock = some k
  says := fun w => w.ownsRow q.lo e sz (.slice q.a l.length q.c) l.length (l.map cells).flatten
  stable := fun _ _ _ h hm hs => ownsRow_keep h hm hs
end Go.Proofs.YthffgbhphjkdeaaDoor
namespace Go.Proofs.YthffgbhphjkdeaaDoor
open Go.RowKit

/-- The keys' texts, where a call has laid them. -/
structure IntKept (q : SlP) (w : World) : Prop where
  h : (ownRes tcell 9 1 intTexts q).says w
structure ValKept (q : SlP) (w : World) : Prop where
  h : (ownRes tcell 9 1 valueTexts q).says w
end Go.Proofs.YthffgbhphjkdeaaDoor
