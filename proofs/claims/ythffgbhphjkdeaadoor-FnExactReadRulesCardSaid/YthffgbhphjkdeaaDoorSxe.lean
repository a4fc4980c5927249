/-
  PROVED: the comparison of two flat structs (integers, bools, strings, and structs of such): cell by cell. No program in sight.
-/
import Derived.Test.YthffgbhphjkdeaaDoorSxa
import Derived.Laws.StructEq
namespace Go.Proofs.YthffgbhphjkdeaaDoor
open Go.RowKit

def sameV : Value → Value → Bool
  | .int _ a, .int _ b => decide (a = b)
  | .bool a, .bool b => a == b
  | .string a, .string b => a == b
  | _, _ => false
def sameVs : List Value → List Value → Bool
  | [], [] => true
  | x :: xs, y :: ys => sameV x y && sameVs xs ys
  | _, _ => false
def kindV : Value → Nat
  | .int .i64 _ => 0
  | .bool _ => 1
  | .string _ => 2
  | _ => 3
theorem sameVs_append : ∀ {a b c d : List Value}, a.length = b.length → sameVs (a ++ c) (b ++ d) = (sameVs a b && sameVs c d)
  | [], [], _, _, _ => by simp [sameVs]
  | x :: a, y :: b, c, d, h => by
    have h' : a.length = b.length := by simpa using h
    simp [sameVs, sameVs_append h', Bool.and_assoc]
  | [], _ :: _, _, _, h => by simp at h
  | _ :: _, [], _, _, h => by simp at h
def flatFs (P : Program) (rec : TypeId → Option (List Nat)) : List Field → Nat → Option (List Nat)
  | [], _ => some []
  | f :: fs, off => if f.name = "_" ∨ f.offset ≠ off then none else match rec f.type with
    | some ks => if P.cellsOf f.type = ks.length then (flatFs P rec fs (off + ks.length)).map (ks ++ ·) else none
    | none => none
def flatT (P : Program) : Nat → TypeId → Option (List Nat)
  | 0, _ => none
  | d + 1, T => match P.underlying T with
    | some (.int .i64) => some [0]
    | some .bool => some [1]
    | some .string => some [2]
    | some (.struct fs) => if P.stoodInHeld T then none else flatFs P (flatT P d) fs.toList 0
    | _ => none
/-- A value of a type with these cells. -/
def asV (P : Program) (T : TypeId) (xs : List Value) : Value := match P.underlying T with
  | some (.struct _) => .agg xs.toArray
  | _ => xs.headD undef
theorem kinds_take {ks : List Nat} {xs : List Value} {off : Nat} {k2 : List Nat} (h : (xs.drop off).map kindV = ks ++ k2) : ((xs.drop off).take ks.length).map kindV = ks ∧ (xs.drop (off + ks.length)).map kindV = k2 := by
  constructor
  · rw [List.map_take, h, List.take_left]
  · rw [← List.drop_drop, List.map_drop, h, List.drop_left]
section
variable {P : Program}
theorem run_part_flat {d : Nat} {T : TypeId} {ks : List Nat} (h : flatT P d T = some ks) (hc : P.cellsOf T = ks.length) {xs : List Value} {off : Nat} (hk : ((xs.drop off).take ks.length).map kindV = ks) (w : World) :
    (part T xs.toArray off).run P w = .ok (asV P T ((xs.drop off).take ks.length)) w := by
  cases d with
  | zero => simp [flatT] at h
  | succ d =>
    unfold flatT at h
    cases hu : P.underlying T with
    | none => simp [hu] at h
    | some t =>
      have one : ∀ k, ks = [k] → (t matches .struct _) = false → (isAgg T).run P w = .ok false w → (part T xs.toArray off).run P w = .ok (asV P T ((xs.drop off).take ks.length)) w := by
        intro k e hm ha
        subst e
        cases hx : xs[off]? with
        | none =>
          have : xs.drop off = [] := List.drop_eq_nil_of_le (by simpa using hx)
          rw [this] at hk
          simp at hk
        | some v =>
          have e1 : (xs.drop off).take [k].length = [v] := by
            have := List.getElem?_eq_some_iff.1 hx
            obtain ⟨hl, rfl⟩ := this
            rw [List.drop_eq_getElem_cons hl]
            rfl
          rw [e1]
          cases t <;> simp_all [part, asV]
      cases t
      case int k =>
        cases k <;> simp [hu] at h
        exact one 0 h.symm rfl (by simp [isAgg, run_underlying hu])
      case bool =>
        simp [hu] at h
        exact one 1 h.symm rfl (by simp [isAgg, run_underlying hu])
      case string =>
        simp [hu] at h
        exact one 2 h.symm rfl (by simp [isAgg, run_underlying hu])
      case struct fs =>
        obtain ⟨i, hi⟩ := info_of_underlying hu
        simp only [part, isAgg, Sem.run_bind, run_underlying hu, Result.andThen_ok, Sem.run_pure, run_sizeOf w hi, if_true, hc, asV, hu]
        congr 2
        simp [List.extract_toArray, List.extract_eq_take_drop]
      all_goals (simp [hu] at h; done)
theorem eq_flat : ∀ (d : Nat),
    (∀ (T : TypeId) (ks : List Nat), flatT P d T = some ks → ∀ (xs ys : List Value), xs.map kindV = ks → ys.map kindV = ks → ∀ w : World, (Op.equalIn d T (asV P T xs) (asV P T ys)).run P w = .ok (sameVs xs ys) w) := by
  intro d
  induction d with
  | zero => intro T ks h; simp [flatT] at h
  | succ d ih =>
    have fields : ∀ (fs : List Field) (off : Nat) (ks : List Nat), flatFs P (flatT P d) fs off = some ks → ∀ (xs ys : List Value), (xs.drop off).map kindV = ks → (ys.drop off).map kindV = ks → ∀ w : World, (Op.eqFields d xs.toArray ys.toArray fs).run P w = .ok (sameVs (xs.drop off) (ys.drop off)) w := by
      intro fs
      induction fs with
      | nil =>
        intro off ks h xs ys hx hy w
        simp only [flatFs, Option.some.injEq] at h
        subst h
        rw [List.map_eq_nil_iff.1 hx, List.map_eq_nil_iff.1 hy]
        simp [Op.eqFields, sameVs]
      | cons f fs ihf =>
        intro off ks h xs ys hx hy w
        unfold flatFs at h
        by_cases hn : f.name = "_" ∨ f.offset ≠ off
        · rw [if_pos hn] at h; cases h
        · rw [if_neg hn] at h
          have hn1 : f.name ≠ "_" := fun e => hn (.inl e)
          have hn2 : f.offset = off := Decidable.not_not.1 fun e => hn (.inr e)
          cases hf : flatT P d f.type with
          | none => simp [hf] at h
          | some k1 =>
            simp only [hf] at h
            by_cases hc : P.cellsOf f.type = k1.length
            · rw [if_pos hc] at h
              cases hr : flatFs P (flatT P d) fs (off + k1.length) with
              | none => simp [hr] at h
              | some k2 =>
                simp only [hr, Option.map_some, Option.some.injEq] at h
                subst h
                obtain ⟨x1, x2⟩ := kinds_take hx
                obtain ⟨y1, y2⟩ := kinds_take hy
                have ex : xs.drop off = (xs.drop off).take k1.length ++ xs.drop (off + k1.length) := by rw [← List.drop_drop, List.take_append_drop]
                have ey : ys.drop off = (ys.drop off).take k1.length ++ ys.drop (off + k1.length) := by rw [← List.drop_drop, List.take_append_drop]
                have hl : ((xs.drop off).take k1.length).length = ((ys.drop off).take k1.length).length := by
                  rw [← List.length_map (f := kindV), x1, ← List.length_map (f := kindV) (as := (ys.drop off).take k1.length), y1]
                rw [ex, ey, sameVs_append hl]
                simp only [Op.eqFields, hn1, ne_eq, not_false_eq_true, if_true, Sem.run_bind, hn2, run_part_flat hf hc x1 w, run_part_flat hf hc y1 w, Result.andThen_ok, ih f.type k1 hf _ _ x1 y1 w]
                cases sameVs ((xs.drop off).take k1.length) ((ys.drop off).take k1.length)
                · simp
                · simpa using ihf (off + k1.length) k2 hr xs ys x2 y2 w
            · rw [if_neg hc] at h; cases h
    intro T ks h xs ys hx hy w
    unfold flatT at h
    cases hu : P.underlying T with
    | none => simp [hu] at h
    | some t =>
      cases t
      case int k =>
        cases k <;> simp [hu] at h
        subst h
        match xs, ys, hx, hy with
        | [.int .i64 a], [.int .i64 b], _, _ => simp [asV, hu, Op.equalIn, run_underlying hu, sameVs, sameV]; rfl
      case bool =>
        simp [hu] at h
        subst h
        match xs, ys, hx, hy with
        | [.bool a], [.bool b], _, _ => simp [asV, hu, Op.equalIn, run_underlying hu, sameVs, sameV]
      case string =>
        simp [hu] at h
        subst h
        match xs, ys, hx, hy with
        | [.string a], [.string b], _, _ => simp [asV, hu, Op.equalIn, run_underlying hu, sameVs, sameV]
      case struct fs =>
        simp only [hu] at h
        by_cases hs : P.stoodInHeld T = true
        · rw [if_pos hs] at h; cases h
        · rw [if_neg hs] at h
          have hfs : P.fieldsOf T = fs := by simp [Program.fieldsOf, hu]
          simp only [asV, hu]
          rw [run_equalIn_struct w d T _ _ (by rw [hfs]; exact hu) (by simpa using hs), hfs]
          exact fields fs.toList 0 ks h xs ys (by simpa using hx) (by simpa using hy) w
      all_goals (simp [hu] at h; done)
end
/-- A flat struct's type, with its cells' kinds. -/
class TEq (P : Program) (T : TypeId) (ks : outParam (List Nat)) : Prop where
  h : flatT P 10000 T = some ks
  g : P.eqGuardType P.depth T = false
  s : ∃ fs, P.underlying T = some (.struct fs)
section
variable {P : Program} {n : Nat} {W : World} {R : Rg W} {L : List Blk} {O : List Own} {E : List Res} {f : List (Nat × Value)}
variable {d : Option Nat} {x y : Operand} {ty T T' : TypeId} {pos : String} {af : Array Edge} {gd : Option (Nat × Bool)}
theorem run_binS {ks : List Nat} [t : TEq P T ks] {xs ys : List Value} (hx : xs.map kindV = ks) (hy : ys.map kindV = ks) (w : World) : (Op.equalIn 10000 T (.agg xs.toArray) (.agg ys.toArray)).run P w = .ok (sameVs xs ys) w := by
  obtain ⟨fs, hs⟩ := t.s
  have e : ∀ l : List Value, asV P T l = .agg l.toArray := fun l => by unfold asV; rw [hs]
  have := eq_flat (P := P) 10000 T ks t.h xs ys hx hy w
  rw [e, e] at this
  exact this
theorem run_binop {op : BinOp} {u v : Value} {a : Act} (hf : Fr n f a) (hx : evO f x = some u) (hy : evO f y = some v) (w : World) : (execOp a.eval ⟨d, .binOp op T x y T', ty, pos, af, gd⟩).run P w = (((eqGuard op T x y u v).run P w).andThen fun _ w' => (binOp op T u v).run P w').andThen fun z w' => .ok (.value z) w' := by
  simp only [execOp, hf.eval hx, hf.eval hy, Sem.run_bind, Sem.run_pure]
theorem OpW.eqlS {ks : List Nat} [t : TEq P T ks] {xs ys : List Value} (hx : evO f x = some (.agg xs.toArray)) (hy : evO f y = some (.agg ys.toArray)) (kx : xs.map kindV = ks) (ky : ys.map kindV = ks) : OpW P n W R L O E f ⟨d, .binOp .eql T x y T', ty, pos, af, gd⟩ (.bool (sameVs xs ys)) :=
  OpW.of (fun a w hf _ => by rw [run_binop hf hx hy w, run_eqGuard_agg w _ T x y _ _ t.g, Result.andThen_ok, run_eql_struct, run_binS kx ky]; rfl)
theorem OpW.neqS {ks : List Nat} [t : TEq P T ks] {xs ys : List Value} (hx : evO f x = some (.agg xs.toArray)) (hy : evO f y = some (.agg ys.toArray)) (kx : xs.map kindV = ks) (ky : ys.map kindV = ks) : OpW P n W R L O E f ⟨d, .binOp .neq T x y T', ty, pos, af, gd⟩ (.bool (!sameVs xs ys)) :=
  OpW.of (fun a w hf _ => by rw [run_binop hf hx hy w, run_eqGuard_agg w _ T x y _ _ t.g, Result.andThen_ok, run_neq_struct, run_binS kx ky]; rfl)
end
theorem kind_cases {v : Value} (h : kindV v < 3) : (∃ n, v = .int .i64 n ∧ kindV v = 0) ∨ (∃ b, v = .bool b ∧ kindV v = 1) ∨ ∃ s, v = .string s ∧ kindV v = 2 := by
  unfold kindV at h
  split at h
  · exact .inl ⟨_, rfl, rfl⟩
  · exact .inr (.inl ⟨_, rfl, rfl⟩)
  · exact .inr (.inr ⟨_, rfl, rfl⟩)
  · omega
theorem sameV_iff {x y : Value} (h : kindV x = kindV y) (hk : kindV x < 3) : sameV x y = true ↔ x = y := by
  rcases kind_cases hk with ⟨a, rfl, ha⟩ | ⟨a, rfl, ha⟩ | ⟨a, rfl, ha⟩ <;> rcases kind_cases (h ▸ hk) with ⟨b, rfl, hb⟩ | ⟨b, rfl, hb⟩ | ⟨b, rfl, hb⟩ <;> first | (exfalso; omega) | (simp [sameV]; done) | (
    simp only [sameV, Value.string.injEq]
    rw [beq_toListBytes, ByteArray.toList_eq, ByteArray.toList_eq, beq_iff_eq]
    obtain ⟨⟨a⟩⟩ := a
    obtain ⟨⟨b⟩⟩ := b
    simp)
theorem sameVs_iff {xs ys : List Value} (h : xs.map kindV = ys.map kindV) (hk : ∀ v ∈ xs, kindV v < 3) : sameVs xs ys = true ↔ xs = ys := by
  induction xs generalizing ys with
  | nil =>
    cases ys with
    | nil => exact ⟨fun _ => rfl, fun _ => rfl⟩
    | cons y ys => cases h
  | cons x xs ih =>
    cases ys with
    | nil => cases h
    | cons y ys =>
      simp only [List.map_cons, List.cons.injEq] at h
      have h1 := ih h.2 (fun v hv => hk v (List.mem_cons_of_mem _ hv))
      have h2 := hk x List.mem_cons_self
      rw [sameVs, Bool.and_eq_true, h1, sameV_iff h.1 h2, List.cons.injEq]
section
variable {P : Program} {n : Nat} {W : World} {R : Rg W} {L : List Blk} {O : List Own} {E : List Res} {f : List (Nat × Value)} {Q : Exit → Act → World → Prop} {ops : Array Oper} {rest : List Oper} {k : Nat}
variable {d : Option Nat} {c x y : Operand} {ty T T' : TypeId} {j fn : Nat} {as : Array Operand} {aT : Array TypeId} {parts : Array (Nat × Operand)} {pos : String} {af : Array Edge} {gd : Option (Nat × Bool)}
/-! Which operation stands next. -/
theorem l_load (h : SXl P n W R ops L O E f (⟨d, .load T x, ty, pos, af, gd⟩ :: rest) Q) : SXl P n W R ops L O E f (⟨d, .load T x, ty, pos, af, gd⟩ :: rest) Q := h
theorem r_load (h : SXr P n W R ops L O E k f (⟨d, .load T x, ty, pos, af, gd⟩ :: rest) Q) : SXr P n W R ops L O E k f (⟨d, .load T x, ty, pos, af, gd⟩ :: rest) Q := h
theorem l_store (h : SXl P n W R ops L O E f (⟨d, .store T x y, ty, pos, af, gd⟩ :: rest) Q) : SXl P n W R ops L O E f (⟨d, .store T x y, ty, pos, af, gd⟩ :: rest) Q := h
theorem l_fieldAddr (h : SXl P n W R ops L O E f (⟨d, .fieldAddr T x j, ty, pos, af, gd⟩ :: rest) Q) : SXl P n W R ops L O E f (⟨d, .fieldAddr T x j, ty, pos, af, gd⟩ :: rest) Q := h
theorem r_fieldAddr (h : SXr P n W R ops L O E k f (⟨d, .fieldAddr T x j, ty, pos, af, gd⟩ :: rest) Q) : SXr P n W R ops L O E k f (⟨d, .fieldAddr T x j, ty, pos, af, gd⟩ :: rest) Q := h
theorem l_move (h : SXl P n W R ops L O E f (⟨d, .move x, ty, pos, af, gd⟩ :: rest) Q) : SXl P n W R ops L O E f (⟨d, .move x, ty, pos, af, gd⟩ :: rest) Q := h
theorem r_move (h : SXr P n W R ops L O E k f (⟨d, .move x, ty, pos, af, gd⟩ :: rest) Q) : SXr P n W R ops L O E k f (⟨d, .move x, ty, pos, af, gd⟩ :: rest) Q := h
theorem l_assign (h : SXl P n W R ops L O E f (⟨d, .assign x, ty, pos, af, gd⟩ :: rest) Q) : SXl P n W R ops L O E f (⟨d, .assign x, ty, pos, af, gd⟩ :: rest) Q := h
theorem r_assign (h : SXr P n W R ops L O E k f (⟨d, .assign x, ty, pos, af, gd⟩ :: rest) Q) : SXr P n W R ops L O E k f (⟨d, .assign x, ty, pos, af, gd⟩ :: rest) Q := h
theorem l_pick (h : SXl P n W R ops L O E f (⟨d, .pick c x y, ty, pos, af, gd⟩ :: rest) Q) : SXl P n W R ops L O E f (⟨d, .pick c x y, ty, pos, af, gd⟩ :: rest) Q := h
theorem r_pick (h : SXr P n W R ops L O E k f (⟨d, .pick c x y, ty, pos, af, gd⟩ :: rest) Q) : SXr P n W R ops L O E k f (⟨d, .pick c x y, ty, pos, af, gd⟩ :: rest) Q := h
theorem l_extract (h : SXl P n W R ops L O E f (⟨d, .extract x j, ty, pos, af, gd⟩ :: rest) Q) : SXl P n W R ops L O E f (⟨d, .extract x j, ty, pos, af, gd⟩ :: rest) Q := h
theorem r_extract (h : SXr P n W R ops L O E k f (⟨d, .extract x j, ty, pos, af, gd⟩ :: rest) Q) : SXr P n W R ops L O E k f (⟨d, .extract x j, ty, pos, af, gd⟩ :: rest) Q := h
theorem l_indexAddr (h : SXl P n W R ops L O E f (⟨d, .indexAddr T x y, ty, pos, af, gd⟩ :: rest) Q) : SXl P n W R ops L O E f (⟨d, .indexAddr T x y, ty, pos, af, gd⟩ :: rest) Q := h
theorem r_indexAddr (h : SXr P n W R ops L O E k f (⟨d, .indexAddr T x y, ty, pos, af, gd⟩ :: rest) Q) : SXr P n W R ops L O E k f (⟨d, .indexAddr T x y, ty, pos, af, gd⟩ :: rest) Q := h
theorem l_alloc (h : SXl P n W R ops L O E f (⟨d, .alloc T, ty, pos, af, gd⟩ :: rest) Q) : SXl P n W R ops L O E f (⟨d, .alloc T, ty, pos, af, gd⟩ :: rest) Q := h
theorem l_box (h : SXl P n W R ops L O E f (⟨d, .box T x, ty, pos, af, gd⟩ :: rest) Q) : SXl P n W R ops L O E f (⟨d, .box T x, ty, pos, af, gd⟩ :: rest) Q := h
theorem l_buildSlice (h : SXl P n W R ops L O E f (⟨d, .buildSlice T j parts, ty, pos, af, gd⟩ :: rest) Q) : SXl P n W R ops L O E f (⟨d, .buildSlice T j parts, ty, pos, af, gd⟩ :: rest) Q := h
theorem l_call (h : SXl P n W R ops L O E f (⟨d, .call ⟨.value (.func fn), as, aT⟩, ty, pos, af, gd⟩ :: rest) Q) : SXl P n W R ops L O E f (⟨d, .call ⟨.value (.func fn), as, aT⟩, ty, pos, af, gd⟩ :: rest) Q := h
theorem r_call (h : SXr P n W R ops L O E k f (⟨d, .call ⟨.value (.func fn), as, aT⟩, ty, pos, af, gd⟩ :: rest) Q) : SXr P n W R ops L O E k f (⟨d, .call ⟨.value (.func fn), as, aT⟩, ty, pos, af, gd⟩ :: rest) Q := h
theorem l_len (h : SXl P n W R ops L O E f (⟨d, .call ⟨.builtin .len, as, aT⟩, ty, pos, af, gd⟩ :: rest) Q) : SXl P n W R ops L O E f (⟨d, .call ⟨.builtin .len, as, aT⟩, ty, pos, af, gd⟩ :: rest) Q := h
theorem r_len (h : SXr P n W R ops L O E k f (⟨d, .call ⟨.builtin .len, as, aT⟩, ty, pos, af, gd⟩ :: rest) Q) : SXr P n W R ops L O E k f (⟨d, .call ⟨.builtin .len, as, aT⟩, ty, pos, af, gd⟩ :: rest) Q := h
theorem l_append (h : SXl P n W R ops L O E f (⟨d, .call ⟨.builtin .append, as, aT⟩, ty, pos, af, gd⟩ :: rest) Q) : SXl P n W R ops L O E f (⟨d, .call ⟨.builtin .append, as, aT⟩, ty, pos, af, gd⟩ :: rest) Q := h
theorem l_not (h : SXl P n W R ops L O E f (⟨d, .unOp .not T x, ty, pos, af, gd⟩ :: rest) Q) : SXl P n W R ops L O E f (⟨d, .unOp .not T x, ty, pos, af, gd⟩ :: rest) Q := h
theorem r_not (h : SXr P n W R ops L O E k f (⟨d, .unOp .not T x, ty, pos, af, gd⟩ :: rest) Q) : SXr P n W R ops L O E k f (⟨d, .unOp .not T x, ty, pos, af, gd⟩ :: rest) Q := h
theorem l_neg (h : SXl P n W R ops L O E f (⟨d, .unOp .neg T x, ty, pos, af, gd⟩ :: rest) Q) : SXl P n W R ops L O E f (⟨d, .unOp .neg T x, ty, pos, af, gd⟩ :: rest) Q := h
theorem r_neg (h : SXr P n W R ops L O E k f (⟨d, .unOp .neg T x, ty, pos, af, gd⟩ :: rest) Q) : SXr P n W R ops L O E k f (⟨d, .unOp .neg T x, ty, pos, af, gd⟩ :: rest) Q := h
theorem l_add (h : SXl P n W R ops L O E f (⟨d, .binOp .add T x y T', ty, pos, af, gd⟩ :: rest) Q) : SXl P n W R ops L O E f (⟨d, .binOp .add T x y T', ty, pos, af, gd⟩ :: rest) Q := h
theorem r_add (h : SXr P n W R ops L O E k f (⟨d, .binOp .add T x y T', ty, pos, af, gd⟩ :: rest) Q) : SXr P n W R ops L O E k f (⟨d, .binOp .add T x y T', ty, pos, af, gd⟩ :: rest) Q := h
theorem l_sub (h : SXl P n W R ops L O E f (⟨d, .binOp .sub T x y T', ty, pos, af, gd⟩ :: rest) Q) : SXl P n W R ops L O E f (⟨d, .binOp .sub T x y T', ty, pos, af, gd⟩ :: rest) Q := h
theorem r_sub (h : SXr P n W R ops L O E k f (⟨d, .binOp .sub T x y T', ty, pos, af, gd⟩ :: rest) Q) : SXr P n W R ops L O E k f (⟨d, .binOp .sub T x y T', ty, pos, af, gd⟩ :: rest) Q := h
theorem l_mul (h : SXl P n W R ops L O E f (⟨d, .binOp .mul T x y T', ty, pos, af, gd⟩ :: rest) Q) : SXl P n W R ops L O E f (⟨d, .binOp .mul T x y T', ty, pos, af, gd⟩ :: rest) Q := h
theorem r_mul (h : SXr P n W R ops L O E k f (⟨d, .binOp .mul T x y T', ty, pos, af, gd⟩ :: rest) Q) : SXr P n W R ops L O E k f (⟨d, .binOp .mul T x y T', ty, pos, af, gd⟩ :: rest) Q := h
theorem l_quo (h : SXl P n W R ops L O E f (⟨d, .binOp .quo T x y T', ty, pos, af, gd⟩ :: rest) Q) : SXl P n W R ops L O E f (⟨d, .binOp .quo T x y T', ty, pos, af, gd⟩ :: rest) Q := h
theorem r_quo (h : SXr P n W R ops L O E k f (⟨d, .binOp .quo T x y T', ty, pos, af, gd⟩ :: rest) Q) : SXr P n W R ops L O E k f (⟨d, .binOp .quo T x y T', ty, pos, af, gd⟩ :: rest) Q := h
theorem l_rem (h : SXl P n W R ops L O E f (⟨d, .binOp .rem T x y T', ty, pos, af, gd⟩ :: rest) Q) : SXl P n W R ops L O E f (⟨d, .binOp .rem T x y T', ty, pos, af, gd⟩ :: rest) Q := h
theorem r_rem (h : SXr P n W R ops L O E k f (⟨d, .binOp .rem T x y T', ty, pos, af, gd⟩ :: rest) Q) : SXr P n W R ops L O E k f (⟨d, .binOp .rem T x y T', ty, pos, af, gd⟩ :: rest) Q := h
theorem l_lss (h : SXl P n W R ops L O E f (⟨d, .binOp .lss T x y T', ty, pos, af, gd⟩ :: rest) Q) : SXl P n W R ops L O E f (⟨d, .binOp .lss T x y T', ty, pos, af, gd⟩ :: rest) Q := h
theorem r_lss (h : SXr P n W R ops L O E k f (⟨d, .binOp .lss T x y T', ty, pos, af, gd⟩ :: rest) Q) : SXr P n W R ops L O E k f (⟨d, .binOp .lss T x y T', ty, pos, af, gd⟩ :: rest) Q := h
theorem l_leq (h : SXl P n W R ops L O E f (⟨d, .binOp .leq T x y T', ty, pos, af, gd⟩ :: rest) Q) : SXl P n W R ops L O E f (⟨d, .binOp .leq T x y T', ty, pos, af, gd⟩ :: rest) Q := h
theorem r_leq (h : SXr P n W R ops L O E k f (⟨d, .binOp .leq T x y T', ty, pos, af, gd⟩ :: rest) Q) : SXr P n W R ops L O E k f (⟨d, .binOp .leq T x y T', ty, pos, af, gd⟩ :: rest) Q := h
theorem l_gtr (h : SXl P n W R ops L O E f (⟨d, .binOp .gtr T x y T', ty, pos, af, gd⟩ :: rest) Q) : SXl P n W R ops L O E f (⟨d, .binOp .gtr T x y T', ty, pos, af, gd⟩ :: rest) Q := h
theorem r_gtr (h : SXr P n W R ops L O E k f (⟨d, .binOp .gtr T x y T', ty, pos, af, gd⟩ :: rest) Q) : SXr P n W R ops L O E k f (⟨d, .binOp .gtr T x y T', ty, pos, af, gd⟩ :: rest) Q := h
theorem l_geq (h : SXl P n W R ops L O E f (⟨d, .binOp .geq T x y T', ty, pos, af, gd⟩ :: rest) Q) : SXl P n W R ops L O E f (⟨d, .binOp .geq T x y T', ty, pos, af, gd⟩ :: rest) Q := h
theorem r_geq (h : SXr P n W R ops L O E k f (⟨d, .binOp .geq T x y T', ty, pos, af, gd⟩ :: rest) Q) : SXr P n W R ops L O E k f (⟨d, .binOp .geq T x y T', ty, pos, af, gd⟩ :: rest) Q := h
theorem l_eql (h : SXl P n W R ops L O E f (⟨d, .binOp .eql T x y T', ty, pos, af, gd⟩ :: rest) Q) : SXl P n W R ops L O E f (⟨d, .binOp .eql T x y T', ty, pos, af, gd⟩ :: rest) Q := h
theorem r_eql (h : SXr P n W R ops L O E k f (⟨d, .binOp .eql T x y T', ty, pos, af, gd⟩ :: rest) Q) : SXr P n W R ops L O E k f (⟨d, .binOp .eql T x y T', ty, pos, af, gd⟩ :: rest) Q := h
theorem l_neq (h : SXl P n W R ops L O E f (⟨d, .binOp .neq T x y T', ty, pos, af, gd⟩ :: rest) Q) : SXl P n W R ops L O E f (⟨d, .binOp .neq T x y T', ty, pos, af, gd⟩ :: rest) Q := h
theorem r_neq (h : SXr P n W R ops L O E k f (⟨d, .binOp .neq T x y T', ty, pos, af, gd⟩ :: rest) Q) : SXr P n W R ops L O E k f (⟨d, .binOp .neq T x y T', ty, pos, af, gd⟩ :: rest) Q := h
end

/-! ### Drawn regions with calls that make memory -/
/-- As SXr; x: what such calls gave, by their number; U: what is told of it. -/
structure SXu (P : Program) (n : Nat) (W : World) (R : Rg W) (ops : Array Oper) (L : List Blk) (O : List Own) (E : List Res) (k : Nat) (U : List (Nat × ((Nat → Value) → World → Value → Prop))) (f : (Nat → Value) → List (Nat × Value)) (l : List Oper) (Q : Exit → Act → World → Prop) : Prop where
  run : ∀ F : (Nat → Value) → Act, (∀ x, Fr n (f x) (F x)) → RS P ops (Mod fun _ => False) (Loc W R L O E) Q k l F U
section
variable {P : Program} {n : Nat} {W : World} {R : Rg W} {L : List Blk} {O : List Own} {E : List Res} {U : List (Nat × ((Nat → Value) → World → Value → Prop))} {f : (Nat → Value) → List (Nat × Value)} {f0 : List (Nat × Value)} {Q : Exit → Act → World → Prop} {ops : Array Oper} {rest : List Oper} {k : Nat}
theorem SX.drawnU {id : Nat} {l : List Oper} (hm : P.follows .mixedOrders = true) (hc : regOk l.toArray = true) (h : SXu P n W R l.toArray L O E 0 [] (fun _ => f0) l Q) : SX P n W R L O E f0 (.region id l.toArray true) Q := ⟨fun a w hf hl =>
  wp_region_rs (Loc W R L O E) (Mod fun _ => False) hm hc (hl.keep ((Mod.refl _ w).drew)) (h.run _ fun _ => hf)⟩
theorem SXu.nil (h : ∀ x, SQ n W R L O E (f x) .normal Q) : SXu P n W R ops L O E k U f [] Q := ⟨fun F hF => RS.done fun x w hS _ => (h x).run (F x) w (hF x) hS⟩
theorem SXu.v {o : Oper} {v : Value} {d : Nat} (hr : ∀ x, OpW P n W R L O E (f x) o v) (hdst : o.dst = some d) (hw : ∀ x, wantO ops (f x) o = some true) (hd : Nat.blt d n = true) (h : SXu P n W R ops L O E (k + 1) U (fun x => (d, v) :: f x) rest Q) : SXu P n W R ops L O E k U f (o :: rest) Q := ⟨fun F hF =>
  RS.val [] (fun _ => v) rfl (fun _ _ _ => rfl) (fun x => wanted_of (hF x) (hw x)) (fun x w hS _ => wp_never ((hr x).run _ w (hF x) hS) fun _ _ ⟨h1, h2⟩ => ⟨h1, hS.keep h2, h2⟩) (by rw [hdst]; exact h.run _ fun x => (hF x).put hd v)⟩
theorem SXu.no {o : Oper} {d : Nat} (hw : ∀ x, wantO ops (f x) o = some false) (hdst : o.dst = some d) (hd : Nat.blt d n = true) (h : SXu P n W R ops L O E (k + 1) U (fun x => (d, undef) :: f x) rest Q) : SXu P n W R ops L O E k U f (o :: rest) Q := ⟨fun F hF =>
  RS.skip (fun x => wanted_of (hF x) (hw x)) (by rw [hdst]; exact h.run _ fun x => (hF x).put hd undef)⟩
variable {d : Nat} {fn : FuncId} {as : List Operand} {aT : Array TypeId} {ty : TypeId} {pos : String} {af : Array Edge} {gd : Option (Nat × Bool)}
/-- A call that makes memory. -/
theorem SXu.new {args : List Value} [TFun P fn] (V : World → Value → Prop) (hV : ∀ w w' v, V w v → Mod (fun _ => False) w w' → V w' v) (hw : ∀ x, wantO ops (f x) ⟨some d, .call ⟨.value (.func fn), as.toArray, aT⟩, ty, pos, af, gd⟩ = some true) (hd : Nat.blt d n = true) (ha : ∀ x, evL (f x) as = some args)
    (hc : ∀ w, Loc W R L O E w → Calls P fn args.toArray w fun e w' => ∃ v, e = .returned v ∧ V w' v ∧ Mod (fun _ => False) w w')
    (h : SXu P n W R ops L O E (k + 1) ((k, fun _ => V) :: U) (fun x => (d, x k) :: f x) rest Q) : SXu P n W R ops L O E k U f (⟨some d, .call ⟨.value (.func fn), as.toArray, aT⟩, ty, pos, af, gd⟩ :: rest) Q := ⟨fun F hF =>
  RS.new [] V id (fun _ _ _ => rfl) rfl hV (fun x => wanted_of (hF x) (hw x)) (fun x w hS _ => by
    unfold Oper.wp
    rw [run_callop (hF x) (ha x) w _ _, Oper.upon_enter]
    refine (hc w hS).mono ?_
    rintro e w' ⟨v, rfl, h1, h2⟩
    exact ⟨v, rfl, h1, hS.keep h2, h2⟩) (h.run _ fun x => (hF x).put hd _)⟩
/-- A call that is handed such memory. -/
theorem SXu.use {v : Value} {args : (Nat → Value) → List Value} [TFun P fn] (us : List Nat) (hus : (us.all fun i => (reach ops ops.size k).contains i) = true) (hw : ∀ x, wantO ops (f x) ⟨some d, .call ⟨.value (.func fn), as.toArray, aT⟩, ty, pos, af, gd⟩ = some true) (hd : Nat.blt d n = true) (ha : ∀ x, evL (f x) as = some (args x))
    (hc : ∀ x w, Loc W R L O E w → (∀ u ∈ U, u.1 ∈ us → u.2 x w (x u.1)) → Calls P fn (args x).toArray w fun e w' => e = .returned v ∧ Mod (fun _ => False) w w')
    (h : SXu P n W R ops L O E (k + 1) U (fun x => (d, v) :: f x) rest Q) : SXu P n W R ops L O E k U f (⟨some d, .call ⟨.value (.func fn), as.toArray, aT⟩, ty, pos, af, gd⟩ :: rest) Q := ⟨fun F hF =>
  RS.val us (fun _ => v) hus (fun _ _ _ => rfl) (fun x => wanted_of (hF x) (hw x)) (fun x w hS hK => by
    unfold Oper.wp
    rw [run_callop (hF x) (ha x) w _ _, Oper.upon_enter]
    refine (hc x w hS hK).mono ?_
    rintro e w' ⟨rfl, h2⟩
    exact ⟨rfl, hS.keep h2, h2⟩) (h.run _ fun x => (hF x).put hd _)⟩
end
end Go.Proofs.YthffgbhphjkdeaaDoor
