/-
  PROVED: the rules of the walk by resources for texts: comparison, length, a byte, a part, two in a row; pointers against nil. No program in sight.
-/
import Derived.Test.YthffgbhphjkdeaaDoorSxc
import Derived.Laws.Strings3
import Derived.Laws.Slices
import Derived.Laws.Tables
namespace Go.Proofs.YthffgbhphjkdeaaDoor
open Go.RowKit

class TStr (P : Program) (T : TypeId) : Prop where
  h : P.underlying T = some .string
class TPtr (P : Program) (T : TypeId) : Prop where
  h : ∃ e, P.underlying T = some (.pointer e)
theorem beq_dec {α : Type} [DecidableEq α] (a b : α) : (a == b) = decide (a = b) := by
  by_cases h : a = b <;> simp [h]
theorem bytes_dec (a b : List UInt8) : (a == b) = decide (a = b) := by
  by_cases h : a = b
  · simp [h]
  · simp [h]
section
variable {P : Program} {n : Nat} {W : World} {R : Rg W} {L : List Blk} {O : List Own} {E : List Res} {f : List (Nat × Value)} {Q : Exit → Act → World → Prop} {ops : Array Oper} {rest : List Oper} {k : Nat}
variable {d : Option Nat} {c x y z : Operand} {ty T T' : TypeId} {j fn : Nat} {as : Array Operand} {aT : Array TypeId} {pos : String} {af : Array Edge} {gd : Option (Nat × Bool)}
variable {a b : List UInt8}

theorem OpW.eqlStr (hx : evO f x = some (.string ⟨a.toArray⟩)) (hy : evO f y = some (.string ⟨b.toArray⟩)) : OpW P n W R L O E f ⟨d, .binOp .eql T x y T', ty, pos, af, gd⟩ (.bool (decide (a = b))) :=
  OpW.bin hx hy (eqGuard_at_string ..) (fun w => by rw [binOp_string_eql, ByteArray.toList_mk, ByteArray.toList_mk, bytes_dec]; rfl)
theorem OpW.neqStr (hx : evO f x = some (.string ⟨a.toArray⟩)) (hy : evO f y = some (.string ⟨b.toArray⟩)) : OpW P n W R L O E f ⟨d, .binOp .neq T x y T', ty, pos, af, gd⟩ (.bool (!decide (a = b))) :=
  OpW.bin hx hy (eqGuard_at_string ..) (fun w => by rw [binOp_string_neq, ByteArray.toList_mk, ByteArray.toList_mk, bytes_dec]; rfl)
theorem OpW.eqlStrT (hx : evO f x = some (.string ⟨a.toArray⟩)) (hy : evO f y = some (.string ⟨b.toArray⟩)) (h : a = b) : OpW P n W R L O E f ⟨d, .binOp .eql T x y T', ty, pos, af, gd⟩ (.bool true) := by
  have := OpW.eqlStr (P := P) (n := n) (W := W) (R := R) (L := L) (O := O) (E := E) (d := d) (T := T) (T' := T') (ty := ty) (pos := pos) (af := af) (gd := gd) hx hy
  rwa [decide_eq_true h] at this
theorem OpW.eqlStrF (hx : evO f x = some (.string ⟨a.toArray⟩)) (hy : evO f y = some (.string ⟨b.toArray⟩)) (h : ¬ a = b) : OpW P n W R L O E f ⟨d, .binOp .eql T x y T', ty, pos, af, gd⟩ (.bool false) := by
  have := OpW.eqlStr (P := P) (n := n) (W := W) (R := R) (L := L) (O := O) (E := E) (d := d) (T := T) (T' := T') (ty := ty) (pos := pos) (af := af) (gd := gd) hx hy
  rwa [decide_eq_false h] at this
theorem OpW.neqStrT (hx : evO f x = some (.string ⟨a.toArray⟩)) (hy : evO f y = some (.string ⟨b.toArray⟩)) (h : ¬ a = b) : OpW P n W R L O E f ⟨d, .binOp .neq T x y T', ty, pos, af, gd⟩ (.bool true) := by
  have := OpW.neqStr (P := P) (n := n) (W := W) (R := R) (L := L) (O := O) (E := E) (d := d) (T := T) (T' := T') (ty := ty) (pos := pos) (af := af) (gd := gd) hx hy
  rwa [decide_eq_false h] at this
theorem OpW.neqStrF (hx : evO f x = some (.string ⟨a.toArray⟩)) (hy : evO f y = some (.string ⟨b.toArray⟩)) (h : a = b) : OpW P n W R L O E f ⟨d, .binOp .neq T x y T', ty, pos, af, gd⟩ (.bool false) := by
  have := OpW.neqStr (P := P) (n := n) (W := W) (R := R) (L := L) (O := O) (E := E) (d := d) (T := T) (T' := T') (ty := ty) (pos := pos) (af := af) (gd := gd) hx hy
  rwa [decide_eq_true h] at this
theorem OpW.cat (hx : evO f x = some (.string ⟨a.toArray⟩)) (hy : evO f y = some (.string ⟨b.toArray⟩)) (hn : a.length + b.length ≤ 9223372036854775807) : OpW P n W R L O E f ⟨d, .binOp .add T x y T', ty, pos, af, gd⟩ (.string ⟨(a ++ b).toArray⟩) :=
  OpW.bin hx hy rfl (fun w => by
    have h1 : ¬ (((⟨a.toArray⟩ : ByteArray).size + (⟨b.toArray⟩ : ByteArray).size : Nat) : Int) > IntKind.i64.max := by
      have e1 : (⟨a.toArray⟩ : ByteArray).size = a.length := List.size_toArray
      have e2 : (⟨b.toArray⟩ : ByteArray).size = b.length := List.size_toArray
      rw [e1, e2]
      simp [IntKind.max, IntKind.bits, IntKind.signed]
      omega
    have h2 : (⟨a.toArray⟩ : ByteArray) ++ ⟨b.toArray⟩ = ⟨(a ++ b).toArray⟩ := by
      apply ByteArray.ext; simp [ByteArray.data_append]
    rw [binOp_string_add]
    unfold Op.stringOp
    simp only [if_neg h1, h2]
    rfl)
theorem OpW.lenStr [t : TStr P T] (hx : evO f x = some (.string ⟨a.toArray⟩)) : OpW P n W R L O E f ⟨d, .call ⟨.builtin .len, #[x], #[T]⟩, ty, pos, af, gd⟩ (.int .i64 (a.length : Int)) :=
  OpW.of (fun q w hf _ => by
    have e : (⟨a.toArray⟩ : ByteArray).size = a.length := List.size_toArray
    simp [execOp, resolve, invoke, builtin, hf.eval hx, run_len_string _ _ _ _ t.h, goInt, e])
theorem OpW.indexStr [t : TStr P T] {i : Nat} {u : UInt8} (hx : evO f x = some (.string ⟨a.toArray⟩)) (hy : evO f y = some (.int .i64 (i : Int))) (hu : a[i]? = some u) : OpW P n W R L O E f ⟨d, .index T x y, ty, pos, af, gd⟩ (.int .u8 (u.toNat : Int)) :=
  OpW.of (fun q w hf _ => by
    have e : (⟨a.toArray⟩ : ByteArray).size = a.length := List.size_toArray
    obtain ⟨hlt, hu'⟩ := List.getElem?_eq_some_iff.1 hu
    have hc : (0 : Int) ≤ (i : Int) ∧ (i : Int) < ((⟨a.toArray⟩ : ByteArray).size : Int) := by rw [e]; omega
    have := run_index_string (P := P) w T ⟨a.toArray⟩ .i64 (i : Int) t.h
    rw [dif_pos hc] at this
    have e2 : ((⟨a.toArray⟩ : ByteArray)[(i : Int).toNat]'(by rw [e]; omega)) = u := by
      rw [← hu']
      simp [ByteArray.getElem_eq_getElem_data]
    rw [e2] at this
    simp [execOp, hf.eval hx, hf.eval hy, this])
theorem OpW.sliceFrom [t : TStr P T] {i : Nat} (hx : evO f x = some (.string ⟨a.toArray⟩)) (hy : evO f y = some (.int .i64 (i : Int))) (hi : i ≤ a.length) : OpW P n W R L O E f ⟨d, .slice T x (some y) none none, ty, pos, af, gd⟩ (.string ⟨(a.drop i).toArray⟩) :=
  OpW.of (fun q w hf _ => by
    have e : (⟨a.toArray⟩ : ByteArray).size = a.length := List.size_toArray
    have := run_slice_string_l (P := P) w T ⟨a.toArray⟩ t.h .i64 (i : Int) (by omega) (by rw [e]; omega)
    rw [e, ByteArray.extract_mk, Int.toNat_natCast, List.take_of_length_le (by simp)] at this
    simp [execOp, hf.eval hx, hf.eval hy, run_sliceAt_string w _ _ _ _ _ t.h, this])
theorem OpW.sliceTo [t : TStr P T] {i : Nat} (hx : evO f x = some (.string ⟨a.toArray⟩)) (hy : evO f y = some (.int .i64 (i : Int))) (hi : i ≤ a.length) : OpW P n W R L O E f ⟨d, .slice T x none (some y) none, ty, pos, af, gd⟩ (.string ⟨(a.take i).toArray⟩) :=
  OpW.of (fun q w hf _ => by
    have e : (⟨a.toArray⟩ : ByteArray).size = a.length := List.size_toArray
    have := run_slice_string_h (P := P) w T ⟨a.toArray⟩ t.h .i64 (i : Int) (by omega) (by rw [e]; omega)
    rw [ByteArray.extract_mk, Int.toNat_natCast, List.drop_zero, Nat.sub_zero] at this
    simp [execOp, hf.eval hx, hf.eval hy, run_sliceAt_string w _ _ _ _ _ t.h, this])
theorem OpW.sliceOf [t : TStr P T] {i m : Nat} (hx : evO f x = some (.string ⟨a.toArray⟩)) (hy : evO f y = some (.int .i64 (i : Int))) (hz : evO f z = some (.int .i64 (m : Int))) (him : i ≤ m) (hi : m ≤ a.length) : OpW P n W R L O E f ⟨d, .slice T x (some y) (some z) none, ty, pos, af, gd⟩ (.string ⟨((a.drop i).take (m - i)).toArray⟩) :=
  OpW.of (fun q w hf _ => by
    have e : (⟨a.toArray⟩ : ByteArray).size = a.length := List.size_toArray
    have := run_slice_string (P := P) w T ⟨a.toArray⟩ .i64 .i64 (i : Int) (m : Int) t.h (by omega) (by omega) (by rw [e]; omega)
    rw [ByteArray.extract_mk, Int.toNat_natCast, Int.toNat_natCast] at this
    simp [execOp, hf.eval hx, hf.eval hy, hf.eval hz, run_sliceAt_string w _ _ _ _ _ t.h, this])
/-- A pointer against nil. -/
theorem run_eq_ptrd [t : TPtr P T] (dd : Nat) (p : Option Addr) (w : World) : (Op.equalIn (dd + 1) T (.pointer p) (.pointer none)).run P w = .ok p.isNone w := by
  obtain ⟨e, h⟩ := t.h
  cases p <;> simp [Op.equalIn, run_underlying h]
theorem run_eq_ptr0 [t : TPtr P T] (p : Option Addr) (w : World) : (Op.equal T (.pointer p) (.pointer none)).run P w = .ok p.isNone w := run_eq_ptrd 9999 p w
theorem OpW.eqlNil [t : TPtr P T] {p : Option Addr} (hx : evO f x = some (.pointer p)) (hy : evO f y = some (.pointer none)) : OpW P n W R L O E f ⟨d, .binOp .eql T x y T', ty, pos, af, gd⟩ (.bool p.isNone) :=
  OpW.bin hx hy (by cases p <;> rfl) (fun w => by cases p <;> simp [binOp, run_eq_ptr0])
theorem OpW.neqNil [t : TPtr P T] {p : Option Addr} (hx : evO f x = some (.pointer p)) (hy : evO f y = some (.pointer none)) : OpW P n W R L O E f ⟨d, .binOp .neq T x y T', ty, pos, af, gd⟩ (.bool (!p.isNone)) :=
  OpW.bin hx hy (by cases p <;> rfl) (fun w => by cases p <;> simp [binOp, run_eq_ptr0])
/-- A struct made of its fields. -/
theorem OpW.build {parts : List (Nat × Operand)} {vals : List (Nat × Value)} {cells : List Value} (hp : evP f parts = some vals) (hb : P.built T vals = some cells.toArray) : OpW P n W R L O E f ⟨d, .build T parts.toArray, ty, pos, af, gd⟩ (.agg cells.toArray) :=
  OpW.of (fun q w hf _ => by
    have e1 := evP_map hf parts vals hp
    have e2 : (parts.toArray.map fun p => (p.1, q.eval p.2)).toList = vals := by simpa using e1
    have := run_build (P := P) w T (parts.toArray.map fun p => (p.1, q.eval p.2)) cells.toArray (by rw [e2]; exact hb)
    simp at this
    simp [execOp, this])
theorem l_build {parts : Array (Nat × Operand)} (h : SXl P n W R ops L O E f (⟨d, .build T parts, ty, pos, af, gd⟩ :: rest) Q) : SXl P n W R ops L O E f (⟨d, .build T parts, ty, pos, af, gd⟩ :: rest) Q := h
theorem r_build {parts : Array (Nat × Operand)} (h : SXr P n W R ops L O E k f (⟨d, .build T parts, ty, pos, af, gd⟩ :: rest) Q) : SXr P n W R ops L O E k f (⟨d, .build T parts, ty, pos, af, gd⟩ :: rest) Q := h
theorem OpW.nilCheck {q : Addr} (hx : evO f x = some (.pointer (some q))) : OpW P n W R L O E f ⟨d, .nilCheck x, ty, pos, af, gd⟩ (.pointer (some q)) :=
  OpW.of (fun a w hf _ => by simp [execOp, hf.eval hx])
theorem l_nilCheck (h : SXl P n W R ops L O E f (⟨d, .nilCheck x, ty, pos, af, gd⟩ :: rest) Q) : SXl P n W R ops L O E f (⟨d, .nilCheck x, ty, pos, af, gd⟩ :: rest) Q := h
theorem r_nilCheck (h : SXr P n W R ops L O E k f (⟨d, .nilCheck x, ty, pos, af, gd⟩ :: rest) Q) : SXr P n W R ops L O E k f (⟨d, .nilCheck x, ty, pos, af, gd⟩ :: rest) Q := h
theorem SQ.bodyCell2 {fn : Func} {R' : Ending → World → Prop} {t u : Tmp} {T T' : TypeId} {m g : Nat} {cells : List Value} {z : Value} [tr : TRow P T m] (i : Nat) (hr : fn.results = #[.cell t T, .tmp u]) (ht : look f t = some (.pointer (some ⟨g, 0, none⟩))) (hu : look f u = some z) (hi : L[i]? = some ⟨g, cells, T'⟩) (hm : cells.length = m) (h : ∀ w, Loc W R L O E w → R' (.returned (.tuple #[.agg cells.toArray, z])) w) : SQ n W R L O E f .ret (bodyPost P fn R') :=
  ⟨fun a w hf hl => ⟨hf.defers, .tuple #[.agg cells.toArray, z], by
    obtain ⟨⟨d, h1, h2⟩, h3⟩ := tr.h
    have hb := (hl.blk _ (List.mem_iff_getElem?.2 ⟨i, hi⟩)).2
    obtain ⟨q1, q2⟩ := rowOf_range (w := w) (b := g) (o := 0) (n := m) (by simp [hasRow, hb, hm])
    have e2 : rowOf w g 0 m = cells.toArray := by
      unfold rowOf; rw [hb]; simp [← hm]
    rw [e2] at q1
    have e := run_loadVar_mid (P := P) w g 0 T _ d q1 h1 h2 (by rw [h3]; simp [hm])
    have hx : a.tmps[t]? = some (.pointer (some ⟨g, 0, none⟩)) := hf.at_ t _ ht
    have hy : a.tmps[u]? = some z := hf.at_ u _ hu
    simp [results, hr, hx, hy, asAddr, e], h w hl⟩⟩
theorem SQ.tail (h : SXl P n W R ops L O E f rest Q) : SQ n W R L O E f .normal (fun _ a w => wpList P ops Q rest a w) := ⟨fun a w hf hl => h.run a w hf hl⟩
theorem Loc.blk0 {g : Nat} {cells : List Value} {w : World} (h : Loc W (Rg.none W) (⟨g, cells, T⟩ :: L) O E w) : W.heap.size ≤ g ∧ w.heap[g]? = some (.cells cells.toArray T (0, 0)) := by
  have hb := h.blk _ List.mem_cons_self
  exact ⟨hb.1.resolve_left (fun f => f), hb.2⟩
/-- A call that hands back a new block, of which the cells are told. -/
def NewB (ξ : Type) (v : ξ → Nat → Value) (cells : ξ → List Value) (T1 : TypeId) (w : World) (e : Ending) (w' : World) : Prop :=
  ∃ (x : ξ) (g : Nat), e = .returned (v x g) ∧ w.heap.size ≤ g ∧ w'.heap[g]? = some (.cells (cells x).toArray T1 (0, 0)) ∧ Mod (fun _ => False) w w'
theorem SXl.callB {ξ : Type} {v : ξ → Nat → Value} {cells : ξ → List Value} {T1 : TypeId} {fn : FuncId} {as : List Operand} {args : List Value} {aT : Array TypeId} {dn : Nat} [TFun P fn] (hw : wantO ops f ⟨some dn, .call ⟨.value (.func fn), as.toArray, aT⟩, ty, pos, af, gd⟩ = some true) (hd : Nat.blt dn n = true) (ha : evL f as = some args)
    (hc : ∀ w, Loc W R L O E w → Calls P fn args.toArray w (NewB ξ v cells T1 w))
    (h : ∀ x g, SXl P n W R ops (⟨g, cells x, T1⟩ :: L) O E ((dn, v x g) :: f) rest Q) : SXl P n W R ops L O E f (⟨some dn, .call ⟨.value (.func fn), as.toArray, aT⟩, ty, pos, af, gd⟩ :: rest) Q := ⟨fun a w hf hl => by
  unfold wpList
  rw [if_pos (wanted_of hf hw)]
  refine .inl ?_
  unfold Oper.wp
  rw [run_callop hf ha w _ _, Oper.upon_enter]
  refine (hc w hl).mono ?_
  rintro e w' ⟨x, g, rfl, hg, hb, hm⟩
  exact (h x g).run _ _ (hf.put hd _) (hl.made hm hg hb)⟩
theorem l_index (h : SXl P n W R ops L O E f (⟨d, .index T x y, ty, pos, af, gd⟩ :: rest) Q) : SXl P n W R ops L O E f (⟨d, .index T x y, ty, pos, af, gd⟩ :: rest) Q := h
theorem r_index (h : SXr P n W R ops L O E k f (⟨d, .index T x y, ty, pos, af, gd⟩ :: rest) Q) : SXr P n W R ops L O E k f (⟨d, .index T x y, ty, pos, af, gd⟩ :: rest) Q := h
theorem l_slice {lo hi mx : Option Operand} (h : SXl P n W R ops L O E f (⟨d, .slice T x lo hi mx, ty, pos, af, gd⟩ :: rest) Q) : SXl P n W R ops L O E f (⟨d, .slice T x lo hi mx, ty, pos, af, gd⟩ :: rest) Q := h
theorem r_slice {lo hi mx : Option Operand} (h : SXr P n W R ops L O E k f (⟨d, .slice T x lo hi mx, ty, pos, af, gd⟩ :: rest) Q) : SXr P n W R ops L O E k f (⟨d, .slice T x lo hi mx, ty, pos, af, gd⟩ :: rest) Q := h
end
end Go.Proofs.YthffgbhphjkdeaaDoor
