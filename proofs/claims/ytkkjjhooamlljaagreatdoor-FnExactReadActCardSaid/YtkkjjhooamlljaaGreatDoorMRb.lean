/-
  PROVED: contracts of functions and words on memory, several texts put together: what each says stands at its theorems. Conditions: as told there.
-/
import Derived.Test.YtkkjjhooamlljaaGreatDoorMRa
import Derived.Laws.Strings3
import Derived.Laws.Slices
import Derived.Laws.Tables
import Derived.Test.YtkkjjhooamlljaaGreatDoorProg
import Derived.Test.YtkkjjhooamlljaaGreatDoorChecked
import Derived.Deep.RegionHeld3
import Derived.Deep.QuietTactic
import Derived.BigQuiet
import Derived.Outline
import Derived.StillTailTactics
import Derived.WalkLawsBesides
set_option linter.unusedVariables false
set_option linter.unusedSimpArgs false
namespace Go.Proofs.YtkkjjhooamlljaaGreatDoor
open Go.RowKit

class TStr (P : Program) (T : TypeId) : Prop where
  h : P.underlying T = some .string
class TPtr (P : Program) (T : TypeId) : Prop where
  h : ∃ e, P.underlying T = some (.pointer e)
theorem bytes_dec (a b : List UInt8) : (a == b) = decide (a = b) := by
  by_cases h : a = b
  · simp [h]
  · simp [h]
section
variable {P : Program} {n : Nat} {W : World} {R : Rg W} {L : List Blk} {O : List Own} {E : List Res} {f : List (Nat × Value)} {Q : Exit → Act → World → Prop} {ops : Array Oper} {rest : List Oper} {k : Nat}
variable {d : Option Nat} {c x y z : Operand} {ty T T' : TypeId} {j fn : Nat} {ars : Array Operand} {aT : Array TypeId} {pos : String} {af : Array Edge} {gd : Option (Nat × Bool)}
variable {a b : List UInt8}

theorem OpW.eqlStr (hx : evO f x = some (.string ⟨a.toArray⟩)) (hy : evO f y = some (.string ⟨b.toArray⟩)) : OpW P n W R L O E f ⟨d, .binOp .eql T x y T', ty, pos, af, gd⟩ (.bool (decide (a = b))) :=
  OpW.bin hx hy (eqGuard_at_string ..) (fun w => by rw [binOp_string_eql, ByteArray.toList_mk, ByteArray.toList_mk, bytes_dec]; rfl)
theorem OpW.neqStr (hx : evO f x = some (.string ⟨a.toArray⟩)) (hy : evO f y = some (.string ⟨b.toArray⟩)) : OpW P n W R L O E f ⟨d, .binOp .neq T x y T', ty, pos, af, gd⟩ (.bool (!decide (a = b))) :=
  OpW.bin hx hy (eqGuard_at_string ..) (fun w => by rw [binOp_string_neq, ByteArray.toList_mk, ByteArray.toList_mk, bytes_dec]; rfl)
theorem OpW.eqlStrT (hx : evO f x = some (.string ⟨a.toArray⟩)) (hy : evO f y = some (.string ⟨b.toArray⟩)) (h : a = b) : OpW P n W R L O E f ⟨d, .binOp .eql T x y T', ty, pos, af, gd⟩ (.bool true) := by
  have := OpW.eqlStr (P := P) (n := n) (W := W) (R := R) (L := L) (O := O) (E := E) (d := d) (T := T) (T' := T') (ty := ty) (pos := pos) (af := af) (gd := gd) hx hy
  rwa [decide_eq_true h] at this
theorem OpW.eqlStrF (hx : evO f x = some (.string ⟨a.toArray⟩)) (hy : evO f y = some (.string ⟨b.toArray⟩)) (h : ¬ a = b) : OpW P n W R L O E f ⟨d, .binOp .eql T x y T', ty, pos, af, gd⟩ (.bool false) := by
  have := OpW.eqlStr (P := P) (n := n) (W := W) (R := R) (L := L) (O := O) (E := E) (d := d) (T := T) (T' := T') (ty := ty) (pos := pos) (af := af) (gd := gd) hx hy
  rwa [decide_eq_false h] at this
theorem OpW.neqStrT (hx : evO f x = some (.string ⟨a.toArray⟩)) (hy : evO f y = some (.string ⟨b.toArray⟩)) (h : ¬ a = b) : OpW P n W R L O E f ⟨d, .binOp .neq T x y T', ty, pos, af, gd⟩ (.bool true) := by
  have := OpW.neqStr (P := P) (n := n) (W := W) (R := R) (L := L) (O := O) (E := E) (d := d) (T := T) (T' := T') (ty := ty) (pos := pos) (af := af) (gd := gd) hx hy
  rwa [decide_eq_false h] at this
theorem OpW.neqStrF (hx : evO f x = some (.string ⟨a.toArray⟩)) (hy : evO f y = some (.string ⟨b.toArray⟩)) (h : a = b) : OpW P n W R L O E f ⟨d, .binOp .neq T x y T', ty, pos, af, gd⟩ (.bool false) := by
  have := OpW.neqStr (P := P) (n := n) (W := W) (R := R) (L := L) (O := O) (E := E) (d := d) (T := T) (T' := T') (ty := ty) (pos := pos) (af := af) (gd := gd) hx hy
  rwa [decide_eq_true h] at this
theorem OpW.cat (hx : evO f x = some (.string ⟨a.toArray⟩)) (hy : evO f y = some (.string ⟨b.toArray⟩)) (hn : a.length + b.length ≤ 9223372036854775807) : OpW P n W R L O E f ⟨d, .binOp .add T x y T', ty, pos, af, gd⟩ (.string ⟨(a ++ b).toArray⟩) :=
  OpW.bin hx hy rfl (fun w => by
    have h1 : ¬ (((⟨a.toArray⟩ : ByteArray).size + (⟨b.toArray⟩ : ByteArray).size : Nat) : Int) > IntKind.i64.max := by
      have e1 : (⟨a.toArray⟩ : ByteArray).size = a.length := List.size_toArray
      have e2 : (⟨b.toArray⟩ : ByteArray).size = b.length := List.size_toArray
      rw [e1, e2]
      simp [IntKind.max, IntKind.bits, IntKind.signed]
      omega
    have h2 : (⟨a.toArray⟩ : ByteArray) ++ ⟨b.toArray⟩ = ⟨(a ++ b).toArray⟩ := by
      apply ByteArray.ext; simp [ByteArray.data_append]
    rw [binOp_string_add]
    unfold Op.stringOp
    simp only [if_neg h1, h2]
    rfl)
theorem OpW.lenStr [t : TStr P T] (hx : evO f x = some (.string ⟨a.toArray⟩)) : OpW P n W R L O E f ⟨d, .call ⟨.builtin .len, #[x], #[T]⟩, ty, pos, af, gd⟩ (.int .i64 (a.length : Int)) :=
  OpW.of (fun q w hf _ => by
    have e : (⟨a.toArray⟩ : ByteArray).size = a.length := List.size_toArray
    simp [execOp, resolve, invoke, builtin, hf.eval hx, run_len_string _ _ _ _ t.h, goInt, e])
theorem OpW.indexStr [t : TStr P T] {i : Nat} {u : UInt8} (hx : evO f x = some (.string ⟨a.toArray⟩)) (hy : evO f y = some (.int .i64 (i : Int))) (hu : a[i]? = some u) : OpW P n W R L O E f ⟨d, .index T x y, ty, pos, af, gd⟩ (.int .u8 (u.toNat : Int)) :=
  OpW.of (fun q w hf _ => by
    have e : (⟨a.toArray⟩ : ByteArray).size = a.length := List.size_toArray
    obtain ⟨hlt, hu'⟩ := List.getElem?_eq_some_iff.1 hu
    have hc : (0 : Int) ≤ (i : Int) ∧ (i : Int) < ((⟨a.toArray⟩ : ByteArray).size : Int) := by rw [e]; omega
    have := run_index_string (P := P) w T ⟨a.toArray⟩ .i64 (i : Int) t.h
    rw [dif_pos hc] at this
    have e2 : ((⟨a.toArray⟩ : ByteArray)[(i : Int).toNat]'(by rw [e]; omega)) = u := by
      rw [← hu']
      simp [ByteArray.getElem_eq_getElem_data]
    rw [e2] at this
    simp [execOp, hf.eval hx, hf.eval hy, this])
theorem OpW.sliceFrom [t : TStr P T] {i : Nat} (hx : evO f x = some (.string ⟨a.toArray⟩)) (hy : evO f y = some (.int .i64 (i : Int))) (hi : i ≤ a.length) : OpW P n W R L O E f ⟨d, .slice T x (some y) none none, ty, pos, af, gd⟩ (.string ⟨(a.drop i).toArray⟩) :=
  OpW.of (fun q w hf _ => by
    have e : (⟨a.toArray⟩ : ByteArray).size = a.length := List.size_toArray
    have := run_slice_string_l (P := P) w T ⟨a.toArray⟩ t.h .i64 (i : Int) (by omega) (by rw [e]; omega)
    rw [e, ByteArray.extract_mk, Int.toNat_natCast, List.take_of_length_le (by simp)] at this
    simp [execOp, hf.eval hx, hf.eval hy, run_sliceAt_string w _ _ _ _ _ t.h, this])
theorem OpW.sliceTo [t : TStr P T] {i : Nat} (hx : evO f x = some (.string ⟨a.toArray⟩)) (hy : evO f y = some (.int .i64 (i : Int))) (hi : i ≤ a.length) : OpW P n W R L O E f ⟨d, .slice T x none (some y) none, ty, pos, af, gd⟩ (.string ⟨(a.take i).toArray⟩) :=
  OpW.of (fun q w hf _ => by
    have e : (⟨a.toArray⟩ : ByteArray).size = a.length := List.size_toArray
    have := run_slice_string_h (P := P) w T ⟨a.toArray⟩ t.h .i64 (i : Int) (by omega) (by rw [e]; omega)
    rw [ByteArray.extract_mk, Int.toNat_natCast, List.drop_zero, Nat.sub_zero] at this
    simp [execOp, hf.eval hx, hf.eval hy, run_sliceAt_string w _ _ _ _ _ t.h, this])
theorem OpW.sliceOf [t : TStr P T] {i m : Nat} (hx : evO f x = some (.string ⟨a.toArray⟩)) (hy : evO f y = some (.int .i64 (i : Int))) (hz : evO f z = some (.int .i64 (m : Int))) (him : i ≤ m) (hi : m ≤ a.length) : OpW P n W R L O E f ⟨d, .slice T x (some y) (some z) none, ty, pos, af, gd⟩ (.string ⟨((a.drop i).take (m - i)).toArray⟩) :=
  OpW.of (fun q w hf _ => by
    have e : (⟨a.toArray⟩ : ByteArray).size = a.length := List.size_toArray
    have := run_slice_string (P := P) w T ⟨a.toArray⟩ .i64 .i64 (i : Int) (m : Int) t.h (by omega) (by omega) (by rw [e]; omega)
    rw [ByteArray.extract_mk, Int.toNat_natCast, Int.toNat_natCast] at this
    simp [execOp, hf.eval hx, hf.eval hy, hf.eval hz, run_sliceAt_string w _ _ _ _ _ t.h, this])
/-- A struct made of its fields. -/
theorem OpW.build {parts : List (Nat × Operand)} {vals : List (Nat × Value)} {cells : List Value} (hp : evP f parts = some vals) (hb : P.built T vals = some cells.toArray) : OpW P n W R L O E f ⟨d, .build T parts.toArray, ty, pos, af, gd⟩ (.agg cells.toArray) :=
  OpW.of (fun q w hf _ => by
    have e1 := evP_map hf parts vals hp
    have e2 : (parts.toArray.map fun p => (p.1, q.eval p.2)).toList = vals := by simpa using e1
    have := run_build (P := P) w T (parts.toArray.map fun p => (p.1, q.eval p.2)) cells.toArray (by rw [e2]; exact hb)
    simp at this
    simp [execOp, this])
theorem l_build {parts : Array (Nat × Operand)} (h : SXl P n W R ops L O E f (⟨d, .build T parts, ty, pos, af, gd⟩ :: rest) Q) : SXl P n W R ops L O E f (⟨d, .build T parts, ty, pos, af, gd⟩ :: rest) Q := h
theorem OpW.nilCheck {q : Addr} (hx : evO f x = some (.pointer (some q))) : OpW P n W R L O E f ⟨d, .nilCheck x, ty, pos, af, gd⟩ (.pointer (some q)) :=
  OpW.of (fun a w hf _ => by simp [execOp, hf.eval hx])
theorem OpW.negi {p : Int} (hx : evO f x = some (.int .i64 p)) (h0 : -9223372036854775808 ≤ -p) (h1 : -p ≤ 9223372036854775807) : OpW P n W R L O E f ⟨d, .unOp .neg T x, ty, pos, af, gd⟩ (.int .i64 (-p)) := by
  have := OpW.neg (P := P) (n := n) (W := W) (R := R) (L := L) (O := O) (E := E) (d := d) (T := T) (ty := ty) (pos := pos) (af := af) (gd := gd) hx
  rwa [wrap_in h0 h1] at this
theorem l_nilCheck (h : SXl P n W R ops L O E f (⟨d, .nilCheck x, ty, pos, af, gd⟩ :: rest) Q) : SXl P n W R ops L O E f (⟨d, .nilCheck x, ty, pos, af, gd⟩ :: rest) Q := h
theorem SQ.bodyCell2 {fn : Func} {R' : Ending → World → Prop} {t u : Tmp} {T T' : TypeId} {m g : Nat} {cells : List Value} {z : Value} [tr : TRow P T m] (i : Nat) (hr : fn.results = #[.cell t T, .tmp u]) (ht : look f t = some (.pointer (some ⟨g, 0, none⟩))) (hu : look f u = some z) (hi : L[i]? = some ⟨g, cells, T'⟩) (hm : cells.length = m) (h : ∀ w, Loc W R L O E w → R' (.returned (.tuple #[.agg cells.toArray, z])) w) : SQ n W R L O E f .ret (bodyPost P fn R') :=
  ⟨fun a w hf hl => ⟨hf.defers, .tuple #[.agg cells.toArray, z], by
    obtain ⟨⟨d, h1, h2⟩, h3⟩ := tr.h
    have hb := (hl.blk _ (List.mem_iff_getElem?.2 ⟨i, hi⟩)).2
    obtain ⟨q1, q2⟩ := rowOf_range (w := w) (b := g) (o := 0) (n := m) (by simp [hasRow, hb, hm])
    have e2 : rowOf w g 0 m = cells.toArray := by
      unfold rowOf; rw [hb]; simp [← hm]
    rw [e2] at q1
    have e := run_loadVar_mid (P := P) w g 0 T _ d q1 h1 h2 (by rw [h3]; simp [hm])
    have hx : a.tmps[t]? = some (.pointer (some ⟨g, 0, none⟩)) := hf.at_ t _ ht
    have hy : a.tmps[u]? = some z := hf.at_ u _ hu
    simp [results, hr, hx, hy, asAddr, e], h w hl⟩⟩
theorem SQ.tail (h : SXl P n W R ops L O E f rest Q) : SQ n W R L O E f .normal (fun _ a w => wpList P ops Q rest a w) := ⟨fun a w hf hl => h.run a w hf hl⟩
theorem Loc.blk0 {g : Nat} {cells : List Value} {w : World} (h : Loc W (Rg.none W) (⟨g, cells, T⟩ :: L) O E w) : W.heap.size ≤ g ∧ w.heap[g]? = some (.cells cells.toArray T (0, 0)) := by
  have hb := h.blk _ List.mem_cons_self
  exact ⟨hb.1.resolve_left (fun f => f), hb.2⟩
/-- A call that hands back a new block, of which the cells are told. -/
def NewB (ξ : Type) (v : ξ → Nat → Value) (cells : ξ → List Value) (T1 : TypeId) (w : World) (e : Ending) (w' : World) : Prop :=
  ∃ (x : ξ) (g : Nat), e = .returned (v x g) ∧ w.heap.size ≤ g ∧ w'.heap[g]? = some (.cells (cells x).toArray T1 (0, 0)) ∧ Mod (fun _ => False) w w'
theorem SXl.callB {ξ : Type} {v : ξ → Nat → Value} {cells : ξ → List Value} {T1 : TypeId} {fn : FuncId} {ars : List Operand} {args : List Value} {aT : Array TypeId} {dn : Nat} [TFun P fn] (hw : wantO ops f ⟨some dn, .call ⟨.value (.func fn), ars.toArray, aT⟩, ty, pos, af, gd⟩ = some true) (hd : Nat.blt dn n = true) (ha : evL f ars = some args)
    (hc : ∀ w, Loc W R L O E w → Calls P fn args.toArray w (NewB ξ v cells T1 w))
    (h : ∀ x g, SXl P n W R ops (⟨g, cells x, T1⟩ :: L) O E ((dn, v x g) :: f) rest Q) : SXl P n W R ops L O E f (⟨some dn, .call ⟨.value (.func fn), ars.toArray, aT⟩, ty, pos, af, gd⟩ :: rest) Q := ⟨fun a w hf hl => by
  unfold wpList
  rw [if_pos (wanted_of hf hw)]
  refine .inl ?_
  unfold Oper.wp
  rw [run_callop hf ha w _ _, Oper.upon_enter]
  refine (hc w hl).mono ?_
  rintro e w' ⟨x, g, rfl, hg, hb, hm⟩
  exact (h x g).run _ _ (hf.put hd _) (hl.made hm hg hb)⟩
theorem l_index (h : SXl P n W R ops L O E f (⟨d, .index T x y, ty, pos, af, gd⟩ :: rest) Q) : SXl P n W R ops L O E f (⟨d, .index T x y, ty, pos, af, gd⟩ :: rest) Q := h
theorem l_slice {lo hi mx : Option Operand} (h : SXl P n W R ops L O E f (⟨d, .slice T x lo hi mx, ty, pos, af, gd⟩ :: rest) Q) : SXl P n W R ops L O E f (⟨d, .slice T x lo hi mx, ty, pos, af, gd⟩ :: rest) Q := h
end
end Go.Proofs.YtkkjjhooamlljaaGreatDoor
namespace Go.Proofs.YtkkjjhooamlljaaGreatDoor

instance : TOne Tryz.prog 2 := ⟨⟨_, Tryz.underlying2, rfl⟩, by kernel_rfl⟩
instance : TEl Tryz.prog 2 1 8 (.int .i64 0) := ⟨by kernel_rfl, rfl, by decide⟩
instance : TZero Tryz.prog 2 [.int .i64 0] := ⟨.int .i64 0, by kernel_rfl, rfl⟩
instance : TOne Tryz.prog 3 := ⟨⟨_, Tryz.underlying3, rfl⟩, by kernel_rfl⟩
instance : TEl Tryz.prog 3 1 8 (.int .i64 0) := ⟨by kernel_rfl, rfl, by decide⟩
instance : TZero Tryz.prog 3 [.int .i64 0] := ⟨.int .i64 0, by kernel_rfl, rfl⟩
instance : TOne Tryz.prog 4 := ⟨⟨_, Tryz.underlying4, rfl⟩, by kernel_rfl⟩
instance : TBool Tryz.prog 4 := ⟨Tryz.underlying4⟩
instance : TEl Tryz.prog 4 1 1 (.bool false) := ⟨by kernel_rfl, rfl, by decide⟩
instance : TZero Tryz.prog 4 [.bool false] := ⟨.bool false, by kernel_rfl, rfl⟩
instance : TOne Tryz.prog 5 := ⟨⟨_, Tryz.underlying5, rfl⟩, by kernel_rfl⟩
instance : TEl Tryz.prog 5 1 1 (.int .u8 0) := ⟨by kernel_rfl, rfl, by decide⟩
instance : TZero Tryz.prog 5 [.int .u8 0] := ⟨.int .u8 0, by kernel_rfl, rfl⟩
instance : TOne Tryz.prog 6 := ⟨⟨_, Tryz.underlying6, rfl⟩, by kernel_rfl⟩
instance : TEl Tryz.prog 6 1 1 (.int .u8 0) := ⟨by kernel_rfl, rfl, by decide⟩
instance : TZero Tryz.prog 6 [.int .u8 0] := ⟨.int .u8 0, by kernel_rfl, rfl⟩
instance : TRow Tryz.prog 7 4 := ⟨⟨_, Tryz.underlying7, rfl⟩, by kernel_rfl⟩
instance : TFld Tryz.prog 7 0 0 := ⟨_, _, 0, Tryz.underlying7, rfl, rfl, by kernel_rfl⟩
instance : TFld Tryz.prog 7 1 1 := ⟨_, _, 0, Tryz.underlying7, rfl, rfl, by kernel_rfl⟩
instance : TFld Tryz.prog 7 2 2 := ⟨_, _, 0, Tryz.underlying7, rfl, rfl, by kernel_rfl⟩
instance : TFld Tryz.prog 7 3 3 := ⟨_, _, 0, Tryz.underlying7, rfl, rfl, by kernel_rfl⟩
instance : TEl Tryz.prog 7 4 24 (.agg #[.int .i64 0, .int .i64 0, .bool false, .int .u8 0]) := ⟨by kernel_rfl, rfl, by decide⟩
instance : TZero Tryz.prog 7 [.int .i64 0, .int .i64 0, .bool false, .int .u8 0] := ⟨.agg #[.int .i64 0, .int .i64 0, .bool false, .int .u8 0], by kernel_rfl, rfl⟩
instance : TRow Tryz.prog 8 4 := ⟨⟨_, Tryz.underlying8, rfl⟩, by kernel_rfl⟩
instance : TFld Tryz.prog 8 0 0 := ⟨_, _, 0, Tryz.underlying8, rfl, rfl, by kernel_rfl⟩
instance : TFld Tryz.prog 8 1 1 := ⟨_, _, 0, Tryz.underlying8, rfl, rfl, by kernel_rfl⟩
instance : TFld Tryz.prog 8 2 2 := ⟨_, _, 0, Tryz.underlying8, rfl, rfl, by kernel_rfl⟩
instance : TFld Tryz.prog 8 3 3 := ⟨_, _, 0, Tryz.underlying8, rfl, rfl, by kernel_rfl⟩
instance : TEl Tryz.prog 8 4 24 (.agg #[.int .i64 0, .int .i64 0, .bool false, .int .u8 0]) := ⟨by kernel_rfl, rfl, by decide⟩
instance : TZero Tryz.prog 8 [.int .i64 0, .int .i64 0, .bool false, .int .u8 0] := ⟨.agg #[.int .i64 0, .int .i64 0, .bool false, .int .u8 0], by kernel_rfl, rfl⟩
instance : TOne Tryz.prog 9 := ⟨⟨_, Tryz.underlying9, rfl⟩, by kernel_rfl⟩
instance : TStr Tryz.prog 9 := ⟨Tryz.underlying9⟩
instance : TEl Tryz.prog 9 1 16 (.string ⟨#[]⟩) := ⟨by kernel_rfl, rfl, by decide⟩
instance : TZero Tryz.prog 9 [.string ⟨#[]⟩] := ⟨.string ⟨#[]⟩, by kernel_rfl, rfl⟩
instance : TOne Tryz.prog 10 := ⟨⟨_, Tryz.underlying10, rfl⟩, by kernel_rfl⟩
instance : TStr Tryz.prog 10 := ⟨Tryz.underlying10⟩
instance : TEl Tryz.prog 10 1 16 (.string ⟨#[]⟩) := ⟨by kernel_rfl, rfl, by decide⟩
instance : TZero Tryz.prog 10 [.string ⟨#[]⟩] := ⟨.string ⟨#[]⟩, by kernel_rfl, rfl⟩
instance : TOne Tryz.prog 11 := ⟨⟨_, Tryz.underlying11, rfl⟩, by kernel_rfl⟩
instance : TStr Tryz.prog 11 := ⟨Tryz.underlying11⟩
instance : TEl Tryz.prog 11 1 16 (.string ⟨#[]⟩) := ⟨by kernel_rfl, rfl, by decide⟩
instance : TZero Tryz.prog 11 [.string ⟨#[]⟩] := ⟨.string ⟨#[]⟩, by kernel_rfl, rfl⟩
instance : TOne Tryz.prog 12 := ⟨⟨_, Tryz.underlying12, rfl⟩, by kernel_rfl⟩
instance : TEl Tryz.prog 12 1 8 (.int .u64 0) := ⟨by kernel_rfl, rfl, by decide⟩
instance : TZero Tryz.prog 12 [.int .u64 0] := ⟨.int .u64 0, by kernel_rfl, rfl⟩
instance : TRow Tryz.prog 13 2 := ⟨⟨_, Tryz.underlying13, rfl⟩, by kernel_rfl⟩
instance : TFld Tryz.prog 13 0 0 := ⟨_, _, 0, Tryz.underlying13, rfl, rfl, by kernel_rfl⟩
instance : TFld Tryz.prog 13 1 1 := ⟨_, _, 0, Tryz.underlying13, rfl, rfl, by kernel_rfl⟩
instance : TEl Tryz.prog 13 2 24 (.agg #[.string ⟨#[]⟩, .int .u64 0]) := ⟨by kernel_rfl, rfl, by decide⟩
instance : TZero Tryz.prog 13 [.string ⟨#[]⟩, .int .u64 0] := ⟨.agg #[.string ⟨#[]⟩, .int .u64 0], by kernel_rfl, rfl⟩
instance : TRow Tryz.prog 14 2 := ⟨⟨_, Tryz.underlying14, rfl⟩, by kernel_rfl⟩
instance : TFld Tryz.prog 14 0 0 := ⟨_, _, 0, Tryz.underlying14, rfl, rfl, by kernel_rfl⟩
instance : TFld Tryz.prog 14 1 1 := ⟨_, _, 0, Tryz.underlying14, rfl, rfl, by kernel_rfl⟩
instance : TEl Tryz.prog 14 2 24 (.agg #[.string ⟨#[]⟩, .int .u64 0]) := ⟨by kernel_rfl, rfl, by decide⟩
instance : TZero Tryz.prog 14 [.string ⟨#[]⟩, .int .u64 0] := ⟨.agg #[.string ⟨#[]⟩, .int .u64 0], by kernel_rfl, rfl⟩
instance : TOne Tryz.prog 15 := ⟨⟨_, Tryz.underlying15, rfl⟩, by kernel_rfl⟩
instance : TPtr Tryz.prog 15 := ⟨⟨_, Tryz.underlying15⟩⟩
instance : TEl Tryz.prog 15 1 8 (.pointer none) := ⟨by kernel_rfl, rfl, by decide⟩
instance : TZero Tryz.prog 15 [.pointer none] := ⟨.pointer none, by kernel_rfl, rfl⟩
instance : TOne Tryz.prog 16 := ⟨⟨_, Tryz.underlying16, rfl⟩, by kernel_rfl⟩
instance : TPtr Tryz.prog 16 := ⟨⟨_, Tryz.underlying16⟩⟩
instance : TEl Tryz.prog 16 1 8 (.pointer none) := ⟨by kernel_rfl, rfl, by decide⟩
instance : TZero Tryz.prog 16 [.pointer none] := ⟨.pointer none, by kernel_rfl, rfl⟩
instance : TOne Tryz.prog 17 := ⟨⟨_, Tryz.underlying17, rfl⟩, by kernel_rfl⟩
instance : TPtr Tryz.prog 17 := ⟨⟨_, Tryz.underlying17⟩⟩
instance : TEl Tryz.prog 17 1 8 (.pointer none) := ⟨by kernel_rfl, rfl, by decide⟩
instance : TZero Tryz.prog 17 [.pointer none] := ⟨.pointer none, by kernel_rfl, rfl⟩
instance : TRow Tryz.prog 18 1 := ⟨⟨_, Tryz.underlying18, rfl⟩, by kernel_rfl⟩
instance : TFld Tryz.prog 18 0 0 := ⟨_, _, 0, Tryz.underlying18, rfl, rfl, by kernel_rfl⟩
instance : TEl Tryz.prog 18 1 8 (.agg #[.pointer none]) := ⟨by kernel_rfl, rfl, by decide⟩
instance : TZero Tryz.prog 18 [.pointer none] := ⟨.agg #[.pointer none], by kernel_rfl, rfl⟩
instance : TRow Tryz.prog 19 1 := ⟨⟨_, Tryz.underlying19, rfl⟩, by kernel_rfl⟩
instance : TFld Tryz.prog 19 0 0 := ⟨_, _, 0, Tryz.underlying19, rfl, rfl, by kernel_rfl⟩
instance : TEl Tryz.prog 19 1 8 (.agg #[.pointer none]) := ⟨by kernel_rfl, rfl, by decide⟩
instance : TZero Tryz.prog 19 [.pointer none] := ⟨.agg #[.pointer none], by kernel_rfl, rfl⟩
instance : TOne Tryz.prog 21 := ⟨⟨_, Tryz.underlying21, rfl⟩, by kernel_rfl⟩
instance : TEl Tryz.prog 21 1 4 (.int .i32 0) := ⟨by kernel_rfl, rfl, by decide⟩
instance : TZero Tryz.prog 21 [.int .i32 0] := ⟨.int .i32 0, by kernel_rfl, rfl⟩
instance : TRow Tryz.prog 22 2 := ⟨⟨_, Tryz.underlying22, rfl⟩, by kernel_rfl⟩
instance : TFld Tryz.prog 22 0 0 := ⟨_, _, 0, Tryz.underlying22, rfl, rfl, by kernel_rfl⟩
instance : TFld Tryz.prog 22 1 1 := ⟨_, _, 0, Tryz.underlying22, rfl, rfl, by kernel_rfl⟩
instance : TEq Tryz.prog 22 [0, 0] := ⟨by kernel_rfl, by kernel_rfl, _, Tryz.underlying22⟩
instance : TEl Tryz.prog 22 2 16 (.agg #[.int .i64 0, .int .i64 0]) := ⟨by kernel_rfl, rfl, by decide⟩
instance : TZero Tryz.prog 22 [.int .i64 0, .int .i64 0] := ⟨.agg #[.int .i64 0, .int .i64 0], by kernel_rfl, rfl⟩
instance : TRow Tryz.prog 23 2 := ⟨⟨_, Tryz.underlying23, rfl⟩, by kernel_rfl⟩
instance : TFld Tryz.prog 23 0 0 := ⟨_, _, 0, Tryz.underlying23, rfl, rfl, by kernel_rfl⟩
instance : TFld Tryz.prog 23 1 1 := ⟨_, _, 0, Tryz.underlying23, rfl, rfl, by kernel_rfl⟩
instance : TEq Tryz.prog 23 [0, 0] := ⟨by kernel_rfl, by kernel_rfl, _, Tryz.underlying23⟩
instance : TEl Tryz.prog 23 2 16 (.agg #[.int .i64 0, .int .i64 0]) := ⟨by kernel_rfl, rfl, by decide⟩
instance : TZero Tryz.prog 23 [.int .i64 0, .int .i64 0] := ⟨.agg #[.int .i64 0, .int .i64 0], by kernel_rfl, rfl⟩
instance : TOne Tryz.prog 24 := ⟨⟨_, Tryz.underlying24, rfl⟩, by kernel_rfl⟩
instance : TSl Tryz.prog 24 70 3 := ⟨Tryz.underlying24, by kernel_rfl⟩
instance : TEl Tryz.prog 24 1 24 (.slice none 0 0) := ⟨by kernel_rfl, rfl, by decide⟩
instance : TZero Tryz.prog 24 [.slice none 0 0] := ⟨.slice none 0 0, by kernel_rfl, rfl⟩
instance : TRow Tryz.prog 25 1 := ⟨⟨_, Tryz.underlying25, rfl⟩, by kernel_rfl⟩
instance : TFld Tryz.prog 25 0 0 := ⟨_, _, 0, Tryz.underlying25, rfl, rfl, by kernel_rfl⟩
instance : TEl Tryz.prog 25 1 24 (.agg #[.slice none 0 0]) := ⟨by kernel_rfl, rfl, by decide⟩
instance : TZero Tryz.prog 25 [.slice none 0 0] := ⟨.agg #[.slice none 0 0], by kernel_rfl, rfl⟩
instance : TRow Tryz.prog 26 1 := ⟨⟨_, Tryz.underlying26, rfl⟩, by kernel_rfl⟩
instance : TFld Tryz.prog 26 0 0 := ⟨_, _, 0, Tryz.underlying26, rfl, rfl, by kernel_rfl⟩
instance : TEl Tryz.prog 26 1 24 (.agg #[.slice none 0 0]) := ⟨by kernel_rfl, rfl, by decide⟩
instance : TZero Tryz.prog 26 [.slice none 0 0] := ⟨.agg #[.slice none 0 0], by kernel_rfl, rfl⟩
instance : TRow Tryz.prog 27 11 := ⟨⟨_, Tryz.underlying27, rfl⟩, by kernel_rfl⟩
instance : TFld Tryz.prog 27 0 0 := ⟨_, _, 0, Tryz.underlying27, rfl, rfl, by kernel_rfl⟩
instance : TFld Tryz.prog 27 1 1 := ⟨_, _, 0, Tryz.underlying27, rfl, rfl, by kernel_rfl⟩
instance : TFld Tryz.prog 27 2 2 := ⟨_, _, 0, Tryz.underlying27, rfl, rfl, by kernel_rfl⟩
instance : TFld Tryz.prog 27 3 3 := ⟨_, _, 0, Tryz.underlying27, rfl, rfl, by kernel_rfl⟩
instance : TFld Tryz.prog 27 4 4 := ⟨_, _, 0, Tryz.underlying27, rfl, rfl, by kernel_rfl⟩
instance : TFld Tryz.prog 27 5 5 := ⟨_, _, 1, Tryz.underlying27, rfl, rfl, by kernel_rfl⟩
instance : TFld Tryz.prog 27 6 7 := ⟨_, _, 0, Tryz.underlying27, rfl, rfl, by kernel_rfl⟩
instance : TFld Tryz.prog 27 7 8 := ⟨_, _, 0, Tryz.underlying27, rfl, rfl, by kernel_rfl⟩
instance : TFld Tryz.prog 27 8 9 := ⟨_, _, 0, Tryz.underlying27, rfl, rfl, by kernel_rfl⟩
instance : TFld Tryz.prog 27 9 10 := ⟨_, _, 0, Tryz.underlying27, rfl, rfl, by kernel_rfl⟩
instance : TEl Tryz.prog 27 11 112 (.agg #[.int .i64 0, .int .i64 0, .int .i64 0, .int .i64 0, .string ⟨#[]⟩, .int .i64 0, .int .i64 0, .slice none 0 0, .int .i64 0, .int .i64 0, .bool false]) := ⟨by kernel_rfl, rfl, by decide⟩
instance : TZero Tryz.prog 27 [.int .i64 0, .int .i64 0, .int .i64 0, .int .i64 0, .string ⟨#[]⟩, .int .i64 0, .int .i64 0, .slice none 0 0, .int .i64 0, .int .i64 0, .bool false] := ⟨.agg #[.int .i64 0, .int .i64 0, .int .i64 0, .int .i64 0, .string ⟨#[]⟩, .int .i64 0, .int .i64 0, .slice none 0 0, .int .i64 0, .int .i64 0, .bool false], by kernel_rfl, rfl⟩
instance : TRow Tryz.prog 28 11 := ⟨⟨_, Tryz.underlying28, rfl⟩, by kernel_rfl⟩
instance : TFld Tryz.prog 28 0 0 := ⟨_, _, 0, Tryz.underlying28, rfl, rfl, by kernel_rfl⟩
instance : TFld Tryz.prog 28 1 1 := ⟨_, _, 0, Tryz.underlying28, rfl, rfl, by kernel_rfl⟩
instance : TFld Tryz.prog 28 2 2 := ⟨_, _, 0, Tryz.underlying28, rfl, rfl, by kernel_rfl⟩
instance : TFld Tryz.prog 28 3 3 := ⟨_, _, 0, Tryz.underlying28, rfl, rfl, by kernel_rfl⟩
instance : TFld Tryz.prog 28 4 4 := ⟨_, _, 0, Tryz.underlying28, rfl, rfl, by kernel_rfl⟩
instance : TFld Tryz.prog 28 5 5 := ⟨_, _, 1, Tryz.underlying28, rfl, rfl, by kernel_rfl⟩
instance : TFld Tryz.prog 28 6 7 := ⟨_, _, 0, Tryz.underlying28, rfl, rfl, by kernel_rfl⟩
instance : TFld Tryz.prog 28 7 8 := ⟨_, _, 0, Tryz.underlying28, rfl, rfl, by kernel_rfl⟩
instance : TFld Tryz.prog 28 8 9 := ⟨_, _, 0, Tryz.underlying28, rfl, rfl, by kernel_rfl⟩
instance : TFld Tryz.prog 28 9 10 := ⟨_, _, 0, Tryz.underlying28, rfl, rfl, by kernel_rfl⟩
instance : TEl Tryz.prog 28 11 112 (.agg #[.int .i64 0, .int .i64 0, .int .i64 0, .int .i64 0, .string ⟨#[]⟩, .int .i64 0, .int .i64 0, .slice none 0 0, .int .i64 0, .int .i64 0, .bool false]) := ⟨by kernel_rfl, rfl, by decide⟩
instance : TZero Tryz.prog 28 [.int .i64 0, .int .i64 0, .int .i64 0, .int .i64 0, .string ⟨#[]⟩, .int .i64 0, .int .i64 0, .slice none 0 0, .int .i64 0, .int .i64 0, .bool false] := ⟨.agg #[.int .i64 0, .int .i64 0, .int .i64 0, .int .i64 0, .string ⟨#[]⟩, .int .i64 0, .int .i64 0, .slice none 0 0, .int .i64 0, .int .i64 0, .bool false], by kernel_rfl, rfl⟩
instance : TOne Tryz.prog 34 := ⟨⟨_, Tryz.underlying34, rfl⟩, by kernel_rfl⟩
instance : TSl Tryz.prog 34 5 1 := ⟨Tryz.underlying34, by kernel_rfl⟩
instance : TEl Tryz.prog 34 1 24 (.slice none 0 0) := ⟨by kernel_rfl, rfl, by decide⟩
instance : TZero Tryz.prog 34 [.slice none 0 0] := ⟨.slice none 0 0, by kernel_rfl, rfl⟩
instance : TOne Tryz.prog 44 := ⟨⟨_, Tryz.underlying44, rfl⟩, by kernel_rfl⟩
instance : TSl Tryz.prog 44 9 1 := ⟨Tryz.underlying44, by kernel_rfl⟩
instance : TEl Tryz.prog 44 1 24 (.slice none 0 0) := ⟨by kernel_rfl, rfl, by decide⟩
instance : TZero Tryz.prog 44 [.slice none 0 0] := ⟨.slice none 0 0, by kernel_rfl, rfl⟩
instance : TOne Tryz.prog 57 := ⟨⟨_, Tryz.underlying57, rfl⟩, by kernel_rfl⟩
instance : TPtr Tryz.prog 57 := ⟨⟨_, Tryz.underlying57⟩⟩
instance : TEl Tryz.prog 57 1 8 (.pointer none) := ⟨by kernel_rfl, rfl, by decide⟩
instance : TZero Tryz.prog 57 [.pointer none] := ⟨.pointer none, by kernel_rfl, rfl⟩
instance : TRow Tryz.prog 69 3 := ⟨⟨_, Tryz.underlying69, rfl⟩, by kernel_rfl⟩
instance : TFld Tryz.prog 69 0 0 := ⟨_, _, 0, Tryz.underlying69, rfl, rfl, by kernel_rfl⟩
instance : TFld Tryz.prog 69 1 1 := ⟨_, _, 0, Tryz.underlying69, rfl, rfl, by kernel_rfl⟩
instance : TFld Tryz.prog 69 2 2 := ⟨_, _, 0, Tryz.underlying69, rfl, rfl, by kernel_rfl⟩
instance : TEq Tryz.prog 69 [0, 0, 0] := ⟨by kernel_rfl, by kernel_rfl, _, Tryz.underlying69⟩
instance : TEl Tryz.prog 69 3 24 (.agg #[.int .i64 0, .int .i64 0, .int .i64 0]) := ⟨by kernel_rfl, rfl, by decide⟩
instance : TZero Tryz.prog 69 [.int .i64 0, .int .i64 0, .int .i64 0] := ⟨.agg #[.int .i64 0, .int .i64 0, .int .i64 0], by kernel_rfl, rfl⟩
instance : TRow Tryz.prog 70 3 := ⟨⟨_, Tryz.underlying70, rfl⟩, by kernel_rfl⟩
instance : TFld Tryz.prog 70 0 0 := ⟨_, _, 0, Tryz.underlying70, rfl, rfl, by kernel_rfl⟩
instance : TFld Tryz.prog 70 1 1 := ⟨_, _, 0, Tryz.underlying70, rfl, rfl, by kernel_rfl⟩
instance : TFld Tryz.prog 70 2 2 := ⟨_, _, 0, Tryz.underlying70, rfl, rfl, by kernel_rfl⟩
instance : TEq Tryz.prog 70 [0, 0, 0] := ⟨by kernel_rfl, by kernel_rfl, _, Tryz.underlying70⟩
instance : TEl Tryz.prog 70 3 24 (.agg #[.int .i64 0, .int .i64 0, .int .i64 0]) := ⟨by kernel_rfl, rfl, by decide⟩
instance : TZero Tryz.prog 70 [.int .i64 0, .int .i64 0, .int .i64 0] := ⟨.agg #[.int .i64 0, .int .i64 0, .int .i64 0], by kernel_rfl, rfl⟩
instance : TRow Tryz.prog 81 12 := ⟨⟨_, Tryz.underlying81, rfl⟩, by kernel_rfl⟩
instance : TFld Tryz.prog 81 0 0 := ⟨_, _, 1, Tryz.underlying81, rfl, rfl, by kernel_rfl⟩
instance : TFld Tryz.prog 81 1 2 := ⟨_, _, 1, Tryz.underlying81, rfl, rfl, by kernel_rfl⟩
instance : TFld Tryz.prog 81 2 4 := ⟨_, _, 1, Tryz.underlying81, rfl, rfl, by kernel_rfl⟩
instance : TFld Tryz.prog 81 3 6 := ⟨_, _, 1, Tryz.underlying81, rfl, rfl, by kernel_rfl⟩
instance : TFld Tryz.prog 81 4 8 := ⟨_, _, 1, Tryz.underlying81, rfl, rfl, by kernel_rfl⟩
instance : TFld Tryz.prog 81 5 10 := ⟨_, _, 1, Tryz.underlying81, rfl, rfl, by kernel_rfl⟩
instance : TEq Tryz.prog 81 [0, 0, 0, 0, 0, 0, 0, 0, 0, 0, 0, 0] := ⟨by kernel_rfl, by kernel_rfl, _, Tryz.underlying81⟩
instance : TEl Tryz.prog 81 12 96 (.agg #[.int .i64 0, .int .i64 0, .int .i64 0, .int .i64 0, .int .i64 0, .int .i64 0, .int .i64 0, .int .i64 0, .int .i64 0, .int .i64 0, .int .i64 0, .int .i64 0]) := ⟨by kernel_rfl, rfl, by decide⟩
instance : TZero Tryz.prog 81 [.int .i64 0, .int .i64 0, .int .i64 0, .int .i64 0, .int .i64 0, .int .i64 0, .int .i64 0, .int .i64 0, .int .i64 0, .int .i64 0, .int .i64 0, .int .i64 0] := ⟨.agg #[.int .i64 0, .int .i64 0, .int .i64 0, .int .i64 0, .int .i64 0, .int .i64 0, .int .i64 0, .int .i64 0, .int .i64 0, .int .i64 0, .int .i64 0, .int .i64 0], by kernel_rfl, rfl⟩
instance : TRow Tryz.prog 82 12 := ⟨⟨_, Tryz.underlying82, rfl⟩, by kernel_rfl⟩
instance : TFld Tryz.prog 82 0 0 := ⟨_, _, 1, Tryz.underlying82, rfl, rfl, by kernel_rfl⟩
instance : TFld Tryz.prog 82 1 2 := ⟨_, _, 1, Tryz.underlying82, rfl, rfl, by kernel_rfl⟩
instance : TFld Tryz.prog 82 2 4 := ⟨_, _, 1, Tryz.underlying82, rfl, rfl, by kernel_rfl⟩
instance : TFld Tryz.prog 82 3 6 := ⟨_, _, 1, Tryz.underlying82, rfl, rfl, by kernel_rfl⟩
instance : TFld Tryz.prog 82 4 8 := ⟨_, _, 1, Tryz.underlying82, rfl, rfl, by kernel_rfl⟩
instance : TFld Tryz.prog 82 5 10 := ⟨_, _, 1, Tryz.underlying82, rfl, rfl, by kernel_rfl⟩
instance : TEq Tryz.prog 82 [0, 0, 0, 0, 0, 0, 0, 0, 0, 0, 0, 0] := ⟨by kernel_rfl, by kernel_rfl, _, Tryz.underlying82⟩
instance : TEl Tryz.prog 82 12 96 (.agg #[.int .i64 0, .int .i64 0, .int .i64 0, .int .i64 0, .int .i64 0, .int .i64 0, .int .i64 0, .int .i64 0, .int .i64 0, .int .i64 0, .int .i64 0, .int .i64 0]) := ⟨by kernel_rfl, rfl, by decide⟩
instance : TZero Tryz.prog 82 [.int .i64 0, .int .i64 0, .int .i64 0, .int .i64 0, .int .i64 0, .int .i64 0, .int .i64 0, .int .i64 0, .int .i64 0, .int .i64 0, .int .i64 0, .int .i64 0] := ⟨.agg #[.int .i64 0, .int .i64 0, .int .i64 0, .int .i64 0, .int .i64 0, .int .i64 0, .int .i64 0, .int .i64 0, .int .i64 0, .int .i64 0, .int .i64 0, .int .i64 0], by kernel_rfl, rfl⟩
instance : TRow Tryz.prog 83 4 := ⟨⟨_, Tryz.underlying83, rfl⟩, by kernel_rfl⟩
instance : TFld Tryz.prog 83 0 0 := ⟨_, _, 0, Tryz.underlying83, rfl, rfl, by kernel_rfl⟩
instance : TFld Tryz.prog 83 1 1 := ⟨_, _, 0, Tryz.underlying83, rfl, rfl, by kernel_rfl⟩
instance : TFld Tryz.prog 83 2 2 := ⟨_, _, 0, Tryz.underlying83, rfl, rfl, by kernel_rfl⟩
instance : TFld Tryz.prog 83 3 3 := ⟨_, _, 0, Tryz.underlying83, rfl, rfl, by kernel_rfl⟩
instance : TEq Tryz.prog 83 [0, 0, 0, 0] := ⟨by kernel_rfl, by kernel_rfl, _, Tryz.underlying83⟩
instance : TEl Tryz.prog 83 4 32 (.agg #[.int .i64 0, .int .i64 0, .int .i64 0, .int .i64 0]) := ⟨by kernel_rfl, rfl, by decide⟩
instance : TZero Tryz.prog 83 [.int .i64 0, .int .i64 0, .int .i64 0, .int .i64 0] := ⟨.agg #[.int .i64 0, .int .i64 0, .int .i64 0, .int .i64 0], by kernel_rfl, rfl⟩
instance : TRow Tryz.prog 84 4 := ⟨⟨_, Tryz.underlying84, rfl⟩, by kernel_rfl⟩
instance : TFld Tryz.prog 84 0 0 := ⟨_, _, 0, Tryz.underlying84, rfl, rfl, by kernel_rfl⟩
instance : TFld Tryz.prog 84 1 1 := ⟨_, _, 0, Tryz.underlying84, rfl, rfl, by kernel_rfl⟩
instance : TFld Tryz.prog 84 2 2 := ⟨_, _, 0, Tryz.underlying84, rfl, rfl, by kernel_rfl⟩
instance : TFld Tryz.prog 84 3 3 := ⟨_, _, 0, Tryz.underlying84, rfl, rfl, by kernel_rfl⟩
instance : TEq Tryz.prog 84 [0, 0, 0, 0] := ⟨by kernel_rfl, by kernel_rfl, _, Tryz.underlying84⟩
instance : TEl Tryz.prog 84 4 32 (.agg #[.int .i64 0, .int .i64 0, .int .i64 0, .int .i64 0]) := ⟨by kernel_rfl, rfl, by decide⟩
instance : TZero Tryz.prog 84 [.int .i64 0, .int .i64 0, .int .i64 0, .int .i64 0] := ⟨.agg #[.int .i64 0, .int .i64 0, .int .i64 0, .int .i64 0], by kernel_rfl, rfl⟩
instance : TRow Tryz.prog 85 60 := ⟨⟨_, Tryz.underlying85, rfl⟩, by kernel_rfl⟩
instance : TFld Tryz.prog 85 0 0 := ⟨_, _, 0, Tryz.underlying85, rfl, rfl, by kernel_rfl⟩
instance : TFld Tryz.prog 85 1 1 := ⟨_, _, 0, Tryz.underlying85, rfl, rfl, by kernel_rfl⟩
instance : TFld Tryz.prog 85 2 2 := ⟨_, _, 0, Tryz.underlying85, rfl, rfl, by kernel_rfl⟩
instance : TFld Tryz.prog 85 3 3 := ⟨_, _, 0, Tryz.underlying85, rfl, rfl, by kernel_rfl⟩
instance : TFld Tryz.prog 85 4 4 := ⟨_, _, 0, Tryz.underlying85, rfl, rfl, by kernel_rfl⟩
instance : TFld Tryz.prog 85 5 5 := ⟨_, _, 0, Tryz.underlying85, rfl, rfl, by kernel_rfl⟩
instance : TFld Tryz.prog 85 6 6 := ⟨_, _, 0, Tryz.underlying85, rfl, rfl, by kernel_rfl⟩
instance : TFld Tryz.prog 85 7 7 := ⟨_, _, 0, Tryz.underlying85, rfl, rfl, by kernel_rfl⟩
instance : TFld Tryz.prog 85 8 8 := ⟨_, _, 0, Tryz.underlying85, rfl, rfl, by kernel_rfl⟩
instance : TFld Tryz.prog 85 9 9 := ⟨_, _, 0, Tryz.underlying85, rfl, rfl, by kernel_rfl⟩
instance : TFld Tryz.prog 85 10 10 := ⟨_, _, 0, Tryz.underlying85, rfl, rfl, by kernel_rfl⟩
instance : TFld Tryz.prog 85 11 11 := ⟨_, _, 1, Tryz.underlying85, rfl, rfl, by kernel_rfl⟩
instance : TFld Tryz.prog 85 12 13 := ⟨_, _, 1, Tryz.underlying85, rfl, rfl, by kernel_rfl⟩
instance : TFld Tryz.prog 85 13 15 := ⟨_, _, 1, Tryz.underlying85, rfl, rfl, by kernel_rfl⟩
instance : TFld Tryz.prog 85 14 17 := ⟨_, _, 1, Tryz.underlying85, rfl, rfl, by kernel_rfl⟩
instance : TFld Tryz.prog 85 15 19 := ⟨_, _, 1, Tryz.underlying85, rfl, rfl, by kernel_rfl⟩
instance : TFld Tryz.prog 85 16 21 := ⟨_, _, 1, Tryz.underlying85, rfl, rfl, by kernel_rfl⟩
instance : TFld Tryz.prog 85 17 23 := ⟨_, _, 1, Tryz.underlying85, rfl, rfl, by kernel_rfl⟩
instance : TFld Tryz.prog 85 18 25 := ⟨_, _, 0, Tryz.underlying85, rfl, rfl, by kernel_rfl⟩
instance : TFld Tryz.prog 85 19 26 := ⟨_, _, 11, Tryz.underlying85, rfl, rfl, by kernel_rfl⟩
instance : TFld Tryz.prog 85 20 38 := ⟨_, _, 11, Tryz.underlying85, rfl, rfl, by kernel_rfl⟩
instance : TFld Tryz.prog 85 21 50 := ⟨_, _, 3, Tryz.underlying85, rfl, rfl, by kernel_rfl⟩
instance : TFld Tryz.prog 85 22 54 := ⟨_, _, 3, Tryz.underlying85, rfl, rfl, by kernel_rfl⟩
instance : TFld Tryz.prog 85 23 58 := ⟨_, _, 0, Tryz.underlying85, rfl, rfl, by kernel_rfl⟩
instance : TFld Tryz.prog 85 24 59 := ⟨_, _, 0, Tryz.underlying85, rfl, rfl, by kernel_rfl⟩
instance : TEq Tryz.prog 85 [0, 0, 0, 0, 0, 0, 1, 1, 0, 0, 0, 0, 0, 0, 0, 0, 0, 0, 0, 0, 0, 0, 0, 0, 0, 0, 0, 0, 0, 0, 0, 0, 0, 0, 0, 0, 0, 0, 0, 0, 0, 0, 0, 0, 0, 0, 0, 0, 0, 0, 0, 0, 0, 0, 0, 0, 0, 0, 0, 0] := ⟨by kernel_rfl, by kernel_rfl, _, Tryz.underlying85⟩
instance : TEl Tryz.prog 85 60 472 (.agg #[.int .i64 0, .int .i64 0, .int .i64 0, .int .i64 0, .int .i64 0, .int .i64 0, .bool false, .bool false, .int .i64 0, .int .i64 0, .int .i64 0, .int .i64 0, .int .i64 0, .int .i64 0, .int .i64 0, .int .i64 0, .int .i64 0, .int .i64 0, .int .i64 0, .int .i64 0, .int .i64 0, .int .i64 0, .int .i64 0, .int .i64 0, .int .i64 0, .int .i64 0, .int .i64 0, .int .i64 0, .int .i64 0, .int .i64 0, .int .i64 0, .int .i64 0, .int .i64 0, .int .i64 0, .int .i64 0, .int .i64 0, .int .i64 0, .int .i64 0, .int .i64 0, .int .i64 0, .int .i64 0, .int .i64 0, .int .i64 0, .int .i64 0, .int .i64 0, .int .i64 0, .int .i64 0, .int .i64 0, .int .i64 0, .int .i64 0, .int .i64 0, .int .i64 0, .int .i64 0, .int .i64 0, .int .i64 0, .int .i64 0, .int .i64 0, .int .i64 0, .int .i64 0, .int .i64 0]) := ⟨by kernel_rfl, rfl, by decide⟩
instance : TZero Tryz.prog 85 [.int .i64 0, .int .i64 0, .int .i64 0, .int .i64 0, .int .i64 0, .int .i64 0, .bool false, .bool false, .int .i64 0, .int .i64 0, .int .i64 0, .int .i64 0, .int .i64 0, .int .i64 0, .int .i64 0, .int .i64 0, .int .i64 0, .int .i64 0, .int .i64 0, .int .i64 0, .int .i64 0, .int .i64 0, .int .i64 0, .int .i64 0, .int .i64 0, .int .i64 0, .int .i64 0, .int .i64 0, .int .i64 0, .int .i64 0, .int .i64 0, .int .i64 0, .int .i64 0, .int .i64 0, .int .i64 0, .int .i64 0, .int .i64 0, .int .i64 0, .int .i64 0, .int .i64 0, .int .i64 0, .int .i64 0, .int .i64 0, .int .i64 0, .int .i64 0, .int .i64 0, .int .i64 0, .int .i64 0, .int .i64 0, .int .i64 0, .int .i64 0, .int .i64 0, .int .i64 0, .int .i64 0, .int .i64 0, .int .i64 0, .int .i64 0, .int .i64 0, .int .i64 0, .int .i64 0] := ⟨.agg #[.int .i64 0, .int .i64 0, .int .i64 0, .int .i64 0, .int .i64 0, .int .i64 0, .bool false, .bool false, .int .i64 0, .int .i64 0, .int .i64 0, .int .i64 0, .int .i64 0, .int .i64 0, .int .i64 0, .int .i64 0, .int .i64 0, .int .i64 0, .int .i64 0, .int .i64 0, .int .i64 0, .int .i64 0, .int .i64 0, .int .i64 0, .int .i64 0, .int .i64 0, .int .i64 0, .int .i64 0, .int .i64 0, .int .i64 0, .int .i64 0, .int .i64 0, .int .i64 0, .int .i64 0, .int .i64 0, .int .i64 0, .int .i64 0, .int .i64 0, .int .i64 0, .int .i64 0, .int .i64 0, .int .i64 0, .int .i64 0, .int .i64 0, .int .i64 0, .int .i64 0, .int .i64 0, .int .i64 0, .int .i64 0, .int .i64 0, .int .i64 0, .int .i64 0, .int .i64 0, .int .i64 0, .int .i64 0, .int .i64 0, .int .i64 0, .int .i64 0, .int .i64 0, .int .i64 0], by kernel_rfl, rfl⟩
instance : TRow Tryz.prog 86 60 := ⟨⟨_, Tryz.underlying86, rfl⟩, by kernel_rfl⟩
instance : TFld Tryz.prog 86 0 0 := ⟨_, _, 0, Tryz.underlying86, rfl, rfl, by kernel_rfl⟩
instance : TFld Tryz.prog 86 1 1 := ⟨_, _, 0, Tryz.underlying86, rfl, rfl, by kernel_rfl⟩
instance : TFld Tryz.prog 86 2 2 := ⟨_, _, 0, Tryz.underlying86, rfl, rfl, by kernel_rfl⟩
instance : TFld Tryz.prog 86 3 3 := ⟨_, _, 0, Tryz.underlying86, rfl, rfl, by kernel_rfl⟩
instance : TFld Tryz.prog 86 4 4 := ⟨_, _, 0, Tryz.underlying86, rfl, rfl, by kernel_rfl⟩
instance : TFld Tryz.prog 86 5 5 := ⟨_, _, 0, Tryz.underlying86, rfl, rfl, by kernel_rfl⟩
instance : TFld Tryz.prog 86 6 6 := ⟨_, _, 0, Tryz.underlying86, rfl, rfl, by kernel_rfl⟩
instance : TFld Tryz.prog 86 7 7 := ⟨_, _, 0, Tryz.underlying86, rfl, rfl, by kernel_rfl⟩
instance : TFld Tryz.prog 86 8 8 := ⟨_, _, 0, Tryz.underlying86, rfl, rfl, by kernel_rfl⟩
instance : TFld Tryz.prog 86 9 9 := ⟨_, _, 0, Tryz.underlying86, rfl, rfl, by kernel_rfl⟩
instance : TFld Tryz.prog 86 10 10 := ⟨_, _, 0, Tryz.underlying86, rfl, rfl, by kernel_rfl⟩
instance : TFld Tryz.prog 86 11 11 := ⟨_, _, 1, Tryz.underlying86, rfl, rfl, by kernel_rfl⟩
instance : TFld Tryz.prog 86 12 13 := ⟨_, _, 1, Tryz.underlying86, rfl, rfl, by kernel_rfl⟩
instance : TFld Tryz.prog 86 13 15 := ⟨_, _, 1, Tryz.underlying86, rfl, rfl, by kernel_rfl⟩
instance : TFld Tryz.prog 86 14 17 := ⟨_, _, 1, Tryz.underlying86, rfl, rfl, by kernel_rfl⟩
instance : TFld Tryz.prog 86 15 19 := ⟨_, _, 1, Tryz.underlying86, rfl, rfl, by kernel_rfl⟩
instance : TFld Tryz.prog 86 16 21 := ⟨_, _, 1, Tryz.underlying86, rfl, rfl, by kernel_rfl⟩
instance : TFld Tryz.prog 86 17 23 := ⟨_, _, 1, Tryz.underlying86, rfl, rfl, by kernel_rfl⟩
instance : TFld Tryz.prog 86 18 25 := ⟨_, _, 0, Tryz.underlying86, rfl, rfl, by kernel_rfl⟩
instance : TFld Tryz.prog 86 19 26 := ⟨_, _, 11, Tryz.underlying86, rfl, rfl, by kernel_rfl⟩
instance : TFld Tryz.prog 86 20 38 := ⟨_, _, 11, Tryz.underlying86, rfl, rfl, by kernel_rfl⟩
instance : TFld Tryz.prog 86 21 50 := ⟨_, _, 3, Tryz.underlying86, rfl, rfl, by kernel_rfl⟩
instance : TFld Tryz.prog 86 22 54 := ⟨_, _, 3, Tryz.underlying86, rfl, rfl, by kernel_rfl⟩
instance : TFld Tryz.prog 86 23 58 := ⟨_, _, 0, Tryz.underlying86, rfl, rfl, by kernel_rfl⟩
instance : TFld Tryz.prog 86 24 59 := ⟨_, _, 0, Tryz.underlying86, rfl, rfl, by kernel_rfl⟩
instance : TEq Tryz.prog 86 [0, 0, 0, 0, 0, 0, 1, 1, 0, 0, 0, 0, 0, 0, 0, 0, 0, 0, 0, 0, 0, 0, 0, 0, 0, 0, 0, 0, 0, 0, 0, 0, 0, 0, 0, 0, 0, 0, 0, 0, 0, 0, 0, 0, 0, 0, 0, 0, 0, 0, 0, 0, 0, 0, 0, 0, 0, 0, 0, 0] := ⟨by kernel_rfl, by kernel_rfl, _, Tryz.underlying86⟩
instance : TEl Tryz.prog 86 60 472 (.agg #[.int .i64 0, .int .i64 0, .int .i64 0, .int .i64 0, .int .i64 0, .int .i64 0, .bool false, .bool false, .int .i64 0, .int .i64 0, .int .i64 0, .int .i64 0, .int .i64 0, .int .i64 0, .int .i64 0, .int .i64 0, .int .i64 0, .int .i64 0, .int .i64 0, .int .i64 0, .int .i64 0, .int .i64 0, .int .i64 0, .int .i64 0, .int .i64 0, .int .i64 0, .int .i64 0, .int .i64 0, .int .i64 0, .int .i64 0, .int .i64 0, .int .i64 0, .int .i64 0, .int .i64 0, .int .i64 0, .int .i64 0, .int .i64 0, .int .i64 0, .int .i64 0, .int .i64 0, .int .i64 0, .int .i64 0, .int .i64 0, .int .i64 0, .int .i64 0, .int .i64 0, .int .i64 0, .int .i64 0, .int .i64 0, .int .i64 0, .int .i64 0, .int .i64 0, .int .i64 0, .int .i64 0, .int .i64 0, .int .i64 0, .int .i64 0, .int .i64 0, .int .i64 0, .int .i64 0]) := ⟨by kernel_rfl, rfl, by decide⟩
instance : TZero Tryz.prog 86 [.int .i64 0, .int .i64 0, .int .i64 0, .int .i64 0, .int .i64 0, .int .i64 0, .bool false, .bool false, .int .i64 0, .int .i64 0, .int .i64 0, .int .i64 0, .int .i64 0, .int .i64 0, .int .i64 0, .int .i64 0, .int .i64 0, .int .i64 0, .int .i64 0, .int .i64 0, .int .i64 0, .int .i64 0, .int .i64 0, .int .i64 0, .int .i64 0, .int .i64 0, .int .i64 0, .int .i64 0, .int .i64 0, .int .i64 0, .int .i64 0, .int .i64 0, .int .i64 0, .int .i64 0, .int .i64 0, .int .i64 0, .int .i64 0, .int .i64 0, .int .i64 0, .int .i64 0, .int .i64 0, .int .i64 0, .int .i64 0, .int .i64 0, .int .i64 0, .int .i64 0, .int .i64 0, .int .i64 0, .int .i64 0, .int .i64 0, .int .i64 0, .int .i64 0, .int .i64 0, .int .i64 0, .int .i64 0, .int .i64 0, .int .i64 0, .int .i64 0, .int .i64 0, .int .i64 0] := ⟨.agg #[.int .i64 0, .int .i64 0, .int .i64 0, .int .i64 0, .int .i64 0, .int .i64 0, .bool false, .bool false, .int .i64 0, .int .i64 0, .int .i64 0, .int .i64 0, .int .i64 0, .int .i64 0, .int .i64 0, .int .i64 0, .int .i64 0, .int .i64 0, .int .i64 0, .int .i64 0, .int .i64 0, .int .i64 0, .int .i64 0, .int .i64 0, .int .i64 0, .int .i64 0, .int .i64 0, .int .i64 0, .int .i64 0, .int .i64 0, .int .i64 0, .int .i64 0, .int .i64 0, .int .i64 0, .int .i64 0, .int .i64 0, .int .i64 0, .int .i64 0, .int .i64 0, .int .i64 0, .int .i64 0, .int .i64 0, .int .i64 0, .int .i64 0, .int .i64 0, .int .i64 0, .int .i64 0, .int .i64 0, .int .i64 0, .int .i64 0, .int .i64 0, .int .i64 0, .int .i64 0, .int .i64 0, .int .i64 0, .int .i64 0, .int .i64 0, .int .i64 0, .int .i64 0, .int .i64 0], by kernel_rfl, rfl⟩
instance : TOne Tryz.prog 89 := ⟨⟨_, Tryz.underlying89, rfl⟩, by kernel_rfl⟩
instance : TPtr Tryz.prog 89 := ⟨⟨_, Tryz.underlying89⟩⟩
instance : TEl Tryz.prog 89 1 8 (.pointer none) := ⟨by kernel_rfl, rfl, by decide⟩
instance : TZero Tryz.prog 89 [.pointer none] := ⟨.pointer none, by kernel_rfl, rfl⟩
instance : TRow Tryz.prog 90 2 := ⟨⟨_, Tryz.underlying90, rfl⟩, by kernel_rfl⟩
instance : TFld Tryz.prog 90 0 0 := ⟨_, _, 0, Tryz.underlying90, rfl, rfl, by kernel_rfl⟩
instance : TFld Tryz.prog 90 1 1 := ⟨_, _, 0, Tryz.underlying90, rfl, rfl, by kernel_rfl⟩
instance : TEl Tryz.prog 90 2 32 (.agg #[.pointer none, .slice none 0 0]) := ⟨by kernel_rfl, rfl, by decide⟩
instance : TZero Tryz.prog 90 [.pointer none, .slice none 0 0] := ⟨.agg #[.pointer none, .slice none 0 0], by kernel_rfl, rfl⟩
instance : TRow Tryz.prog 91 2 := ⟨⟨_, Tryz.underlying91, rfl⟩, by kernel_rfl⟩
instance : TFld Tryz.prog 91 0 0 := ⟨_, _, 0, Tryz.underlying91, rfl, rfl, by kernel_rfl⟩
instance : TFld Tryz.prog 91 1 1 := ⟨_, _, 0, Tryz.underlying91, rfl, rfl, by kernel_rfl⟩
instance : TEl Tryz.prog 91 2 32 (.agg #[.pointer none, .slice none 0 0]) := ⟨by kernel_rfl, rfl, by decide⟩
instance : TZero Tryz.prog 91 [.pointer none, .slice none 0 0] := ⟨.agg #[.pointer none, .slice none 0 0], by kernel_rfl, rfl⟩
instance : TRow Tryz.prog 99 3 := ⟨⟨_, Tryz.underlying99, rfl⟩, by kernel_rfl⟩
instance : TFld Tryz.prog 99 0 0 := ⟨_, _, 0, Tryz.underlying99, rfl, rfl, by kernel_rfl⟩
instance : TFld Tryz.prog 99 1 1 := ⟨_, _, 0, Tryz.underlying99, rfl, rfl, by kernel_rfl⟩
instance : TFld Tryz.prog 99 2 2 := ⟨_, _, 0, Tryz.underlying99, rfl, rfl, by kernel_rfl⟩
instance : TEl Tryz.prog 99 3 40 (.agg #[.slice none 0 0, .int .i64 0, .int .i64 0]) := ⟨by kernel_rfl, rfl, by decide⟩
instance : TZero Tryz.prog 99 [.slice none 0 0, .int .i64 0, .int .i64 0] := ⟨.agg #[.slice none 0 0, .int .i64 0, .int .i64 0], by kernel_rfl, rfl⟩
instance : TRow Tryz.prog 100 3 := ⟨⟨_, Tryz.underlying100, rfl⟩, by kernel_rfl⟩
instance : TFld Tryz.prog 100 0 0 := ⟨_, _, 0, Tryz.underlying100, rfl, rfl, by kernel_rfl⟩
instance : TFld Tryz.prog 100 1 1 := ⟨_, _, 0, Tryz.underlying100, rfl, rfl, by kernel_rfl⟩
instance : TFld Tryz.prog 100 2 2 := ⟨_, _, 0, Tryz.underlying100, rfl, rfl, by kernel_rfl⟩
instance : TEl Tryz.prog 100 3 40 (.agg #[.slice none 0 0, .int .i64 0, .int .i64 0]) := ⟨by kernel_rfl, rfl, by decide⟩
instance : TZero Tryz.prog 100 [.slice none 0 0, .int .i64 0, .int .i64 0] := ⟨.agg #[.slice none 0 0, .int .i64 0, .int .i64 0], by kernel_rfl, rfl⟩
instance : TOne Tryz.prog 101 := ⟨⟨_, Tryz.underlying101, rfl⟩, by kernel_rfl⟩
instance : TSl Tryz.prog 101 3 1 := ⟨Tryz.underlying101, by kernel_rfl⟩
instance : TEl Tryz.prog 101 1 24 (.slice none 0 0) := ⟨by kernel_rfl, rfl, by decide⟩
instance : TZero Tryz.prog 101 [.slice none 0 0] := ⟨.slice none 0 0, by kernel_rfl, rfl⟩
instance : TOne Tryz.prog 106 := ⟨⟨_, Tryz.underlying106, rfl⟩, by kernel_rfl⟩
instance : TPtr Tryz.prog 106 := ⟨⟨_, Tryz.underlying106⟩⟩
instance : TEl Tryz.prog 106 1 8 (.pointer none) := ⟨by kernel_rfl, rfl, by decide⟩
instance : TZero Tryz.prog 106 [.pointer none] := ⟨.pointer none, by kernel_rfl, rfl⟩
instance : TOne Tryz.prog 107 := ⟨⟨_, Tryz.underlying107, rfl⟩, by kernel_rfl⟩
instance : TPtr Tryz.prog 107 := ⟨⟨_, Tryz.underlying107⟩⟩
instance : TEl Tryz.prog 107 1 8 (.pointer none) := ⟨by kernel_rfl, rfl, by decide⟩
instance : TZero Tryz.prog 107 [.pointer none] := ⟨.pointer none, by kernel_rfl, rfl⟩
instance : TOne Tryz.prog 112 := ⟨⟨_, Tryz.underlying112, rfl⟩, by kernel_rfl⟩
instance : TPtr Tryz.prog 112 := ⟨⟨_, Tryz.underlying112⟩⟩
instance : TEl Tryz.prog 112 1 8 (.pointer none) := ⟨by kernel_rfl, rfl, by decide⟩
instance : TZero Tryz.prog 112 [.pointer none] := ⟨.pointer none, by kernel_rfl, rfl⟩
instance : TOne Tryz.prog 120 := ⟨⟨_, Tryz.underlying120, rfl⟩, by kernel_rfl⟩
instance : TEl Tryz.prog 120 1 8 (.int .u64 0) := ⟨by kernel_rfl, rfl, by decide⟩
instance : TZero Tryz.prog 120 [.int .u64 0] := ⟨.int .u64 0, by kernel_rfl, rfl⟩
instance : TOne Tryz.prog 122 := ⟨⟨_, Tryz.underlying122, rfl⟩, by kernel_rfl⟩
instance : TPtr Tryz.prog 122 := ⟨⟨_, Tryz.underlying122⟩⟩
instance : TEl Tryz.prog 122 1 8 (.pointer none) := ⟨by kernel_rfl, rfl, by decide⟩
instance : TZero Tryz.prog 122 [.pointer none] := ⟨.pointer none, by kernel_rfl, rfl⟩
instance : TOne Tryz.prog 133 := ⟨⟨_, Tryz.underlying133, rfl⟩, by kernel_rfl⟩
instance : TEl Tryz.prog 133 1 8 (.int .i64 0) := ⟨by kernel_rfl, rfl, by decide⟩
instance : TZero Tryz.prog 133 [.int .i64 0] := ⟨.int .i64 0, by kernel_rfl, rfl⟩
instance : TOne Tryz.prog 136 := ⟨⟨_, Tryz.underlying136, rfl⟩, by kernel_rfl⟩
instance : TPtr Tryz.prog 136 := ⟨⟨_, Tryz.underlying136⟩⟩
instance : TEl Tryz.prog 136 1 8 (.pointer none) := ⟨by kernel_rfl, rfl, by decide⟩
instance : TZero Tryz.prog 136 [.pointer none] := ⟨.pointer none, by kernel_rfl, rfl⟩
instance : TRow Tryz.prog 140 24 := ⟨⟨_, Tryz.underlying140, rfl⟩, by kernel_rfl⟩
instance : TEl Tryz.prog 140 24 24 (.agg #[.int .u8 0, .int .u8 0, .int .u8 0, .int .u8 0, .int .u8 0, .int .u8 0, .int .u8 0, .int .u8 0, .int .u8 0, .int .u8 0, .int .u8 0, .int .u8 0, .int .u8 0, .int .u8 0, .int .u8 0, .int .u8 0, .int .u8 0, .int .u8 0, .int .u8 0, .int .u8 0, .int .u8 0, .int .u8 0, .int .u8 0, .int .u8 0]) := ⟨by kernel_rfl, rfl, by decide⟩
instance : TZero Tryz.prog 140 [.int .u8 0, .int .u8 0, .int .u8 0, .int .u8 0, .int .u8 0, .int .u8 0, .int .u8 0, .int .u8 0, .int .u8 0, .int .u8 0, .int .u8 0, .int .u8 0, .int .u8 0, .int .u8 0, .int .u8 0, .int .u8 0, .int .u8 0, .int .u8 0, .int .u8 0, .int .u8 0, .int .u8 0, .int .u8 0, .int .u8 0, .int .u8 0] := ⟨.agg #[.int .u8 0, .int .u8 0, .int .u8 0, .int .u8 0, .int .u8 0, .int .u8 0, .int .u8 0, .int .u8 0, .int .u8 0, .int .u8 0, .int .u8 0, .int .u8 0, .int .u8 0, .int .u8 0, .int .u8 0, .int .u8 0, .int .u8 0, .int .u8 0, .int .u8 0, .int .u8 0, .int .u8 0, .int .u8 0, .int .u8 0, .int .u8 0], by kernel_rfl, rfl⟩
instance : TOne Tryz.prog 141 := ⟨⟨_, Tryz.underlying141, rfl⟩, by kernel_rfl⟩
instance : TEl Tryz.prog 141 1 8 (.int .u64 0) := ⟨by kernel_rfl, rfl, by decide⟩
instance : TZero Tryz.prog 141 [.int .u64 0] := ⟨.int .u64 0, by kernel_rfl, rfl⟩
instance : TRow Tryz.prog 149 3 := ⟨⟨_, Tryz.underlying149, rfl⟩, by kernel_rfl⟩
instance : TFld Tryz.prog 149 0 0 := ⟨_, _, 0, Tryz.underlying149, rfl, rfl, by kernel_rfl⟩
instance : TFld Tryz.prog 149 1 1 := ⟨_, _, 0, Tryz.underlying149, rfl, rfl, by kernel_rfl⟩
instance : TFld Tryz.prog 149 2 2 := ⟨_, _, 0, Tryz.underlying149, rfl, rfl, by kernel_rfl⟩
instance : TRow Tryz.prog 150 3 := ⟨⟨_, Tryz.underlying150, rfl⟩, by kernel_rfl⟩
instance : TFld Tryz.prog 150 0 0 := ⟨_, _, 0, Tryz.underlying150, rfl, rfl, by kernel_rfl⟩
instance : TFld Tryz.prog 150 1 1 := ⟨_, _, 0, Tryz.underlying150, rfl, rfl, by kernel_rfl⟩
instance : TFld Tryz.prog 150 2 2 := ⟨_, _, 0, Tryz.underlying150, rfl, rfl, by kernel_rfl⟩
instance : TRow Tryz.prog 152 20 := ⟨⟨_, Tryz.underlying152, rfl⟩, by kernel_rfl⟩
instance : TEl Tryz.prog 152 20 160 (.agg #[.int .u64 0, .int .u64 0, .int .u64 0, .int .u64 0, .int .u64 0, .int .u64 0, .int .u64 0, .int .u64 0, .int .u64 0, .int .u64 0, .int .u64 0, .int .u64 0, .int .u64 0, .int .u64 0, .int .u64 0, .int .u64 0, .int .u64 0, .int .u64 0, .int .u64 0, .int .u64 0]) := ⟨by kernel_rfl, rfl, by decide⟩
instance : TZero Tryz.prog 152 [.int .u64 0, .int .u64 0, .int .u64 0, .int .u64 0, .int .u64 0, .int .u64 0, .int .u64 0, .int .u64 0, .int .u64 0, .int .u64 0, .int .u64 0, .int .u64 0, .int .u64 0, .int .u64 0, .int .u64 0, .int .u64 0, .int .u64 0, .int .u64 0, .int .u64 0, .int .u64 0] := ⟨.agg #[.int .u64 0, .int .u64 0, .int .u64 0, .int .u64 0, .int .u64 0, .int .u64 0, .int .u64 0, .int .u64 0, .int .u64 0, .int .u64 0, .int .u64 0, .int .u64 0, .int .u64 0, .int .u64 0, .int .u64 0, .int .u64 0, .int .u64 0, .int .u64 0, .int .u64 0, .int .u64 0], by kernel_rfl, rfl⟩
instance : TOne Tryz.prog 153 := ⟨⟨_, Tryz.underlying153, rfl⟩, by kernel_rfl⟩
instance : TEl Tryz.prog 153 1 4 (.int .u32 0) := ⟨by kernel_rfl, rfl, by decide⟩
instance : TZero Tryz.prog 153 [.int .u32 0] := ⟨.int .u32 0, by kernel_rfl, rfl⟩
instance : TRow Tryz.prog 154 65 := ⟨⟨_, Tryz.underlying154, rfl⟩, by kernel_rfl⟩
instance : TEl Tryz.prog 154 65 65 (.agg #[.int .u8 0, .int .u8 0, .int .u8 0, .int .u8 0, .int .u8 0, .int .u8 0, .int .u8 0, .int .u8 0, .int .u8 0, .int .u8 0, .int .u8 0, .int .u8 0, .int .u8 0, .int .u8 0, .int .u8 0, .int .u8 0, .int .u8 0, .int .u8 0, .int .u8 0, .int .u8 0, .int .u8 0, .int .u8 0, .int .u8 0, .int .u8 0, .int .u8 0, .int .u8 0, .int .u8 0, .int .u8 0, .int .u8 0, .int .u8 0, .int .u8 0, .int .u8 0, .int .u8 0, .int .u8 0, .int .u8 0, .int .u8 0, .int .u8 0, .int .u8 0, .int .u8 0, .int .u8 0, .int .u8 0, .int .u8 0, .int .u8 0, .int .u8 0, .int .u8 0, .int .u8 0, .int .u8 0, .int .u8 0, .int .u8 0, .int .u8 0, .int .u8 0, .int .u8 0, .int .u8 0, .int .u8 0, .int .u8 0, .int .u8 0, .int .u8 0, .int .u8 0, .int .u8 0, .int .u8 0, .int .u8 0, .int .u8 0, .int .u8 0, .int .u8 0, .int .u8 0]) := ⟨by kernel_rfl, rfl, by decide⟩
instance : TZero Tryz.prog 154 [.int .u8 0, .int .u8 0, .int .u8 0, .int .u8 0, .int .u8 0, .int .u8 0, .int .u8 0, .int .u8 0, .int .u8 0, .int .u8 0, .int .u8 0, .int .u8 0, .int .u8 0, .int .u8 0, .int .u8 0, .int .u8 0, .int .u8 0, .int .u8 0, .int .u8 0, .int .u8 0, .int .u8 0, .int .u8 0, .int .u8 0, .int .u8 0, .int .u8 0, .int .u8 0, .int .u8 0, .int .u8 0, .int .u8 0, .int .u8 0, .int .u8 0, .int .u8 0, .int .u8 0, .int .u8 0, .int .u8 0, .int .u8 0, .int .u8 0, .int .u8 0, .int .u8 0, .int .u8 0, .int .u8 0, .int .u8 0, .int .u8 0, .int .u8 0, .int .u8 0, .int .u8 0, .int .u8 0, .int .u8 0, .int .u8 0, .int .u8 0, .int .u8 0, .int .u8 0, .int .u8 0, .int .u8 0, .int .u8 0, .int .u8 0, .int .u8 0, .int .u8 0, .int .u8 0, .int .u8 0, .int .u8 0, .int .u8 0, .int .u8 0, .int .u8 0, .int .u8 0] := ⟨.agg #[.int .u8 0, .int .u8 0, .int .u8 0, .int .u8 0, .int .u8 0, .int .u8 0, .int .u8 0, .int .u8 0, .int .u8 0, .int .u8 0, .int .u8 0, .int .u8 0, .int .u8 0, .int .u8 0, .int .u8 0, .int .u8 0, .int .u8 0, .int .u8 0, .int .u8 0, .int .u8 0, .int .u8 0, .int .u8 0, .int .u8 0, .int .u8 0, .int .u8 0, .int .u8 0, .int .u8 0, .int .u8 0, .int .u8 0, .int .u8 0, .int .u8 0, .int .u8 0, .int .u8 0, .int .u8 0, .int .u8 0, .int .u8 0, .int .u8 0, .int .u8 0, .int .u8 0, .int .u8 0, .int .u8 0, .int .u8 0, .int .u8 0, .int .u8 0, .int .u8 0, .int .u8 0, .int .u8 0, .int .u8 0, .int .u8 0, .int .u8 0, .int .u8 0, .int .u8 0, .int .u8 0, .int .u8 0, .int .u8 0, .int .u8 0, .int .u8 0, .int .u8 0, .int .u8 0, .int .u8 0, .int .u8 0, .int .u8 0, .int .u8 0, .int .u8 0, .int .u8 0], by kernel_rfl, rfl⟩
instance : TRow Tryz.prog 157 2 := ⟨⟨_, Tryz.underlying157, rfl⟩, by kernel_rfl⟩
instance : TFld Tryz.prog 157 0 0 := ⟨_, _, 0, Tryz.underlying157, rfl, rfl, by kernel_rfl⟩
instance : TFld Tryz.prog 157 1 1 := ⟨_, _, 0, Tryz.underlying157, rfl, rfl, by kernel_rfl⟩
instance : TEl Tryz.prog 157 2 2 (.agg #[.int .u8 0, .int .u8 0]) := ⟨by kernel_rfl, rfl, by decide⟩
instance : TZero Tryz.prog 157 [.int .u8 0, .int .u8 0] := ⟨.agg #[.int .u8 0, .int .u8 0], by kernel_rfl, rfl⟩
instance : TRow Tryz.prog 158 2 := ⟨⟨_, Tryz.underlying158, rfl⟩, by kernel_rfl⟩
instance : TFld Tryz.prog 158 0 0 := ⟨_, _, 0, Tryz.underlying158, rfl, rfl, by kernel_rfl⟩
instance : TFld Tryz.prog 158 1 1 := ⟨_, _, 0, Tryz.underlying158, rfl, rfl, by kernel_rfl⟩
instance : TEl Tryz.prog 158 2 2 (.agg #[.int .u8 0, .int .u8 0]) := ⟨by kernel_rfl, rfl, by decide⟩
instance : TZero Tryz.prog 158 [.int .u8 0, .int .u8 0] := ⟨.agg #[.int .u8 0, .int .u8 0], by kernel_rfl, rfl⟩
instance : TRow Tryz.prog 159 32 := ⟨⟨_, Tryz.underlying159, rfl⟩, by kernel_rfl⟩
instance : TEl Tryz.prog 159 32 32 (.agg #[.int .u8 0, .int .u8 0, .int .u8 0, .int .u8 0, .int .u8 0, .int .u8 0, .int .u8 0, .int .u8 0, .int .u8 0, .int .u8 0, .int .u8 0, .int .u8 0, .int .u8 0, .int .u8 0, .int .u8 0, .int .u8 0, .int .u8 0, .int .u8 0, .int .u8 0, .int .u8 0, .int .u8 0, .int .u8 0, .int .u8 0, .int .u8 0, .int .u8 0, .int .u8 0, .int .u8 0, .int .u8 0, .int .u8 0, .int .u8 0, .int .u8 0, .int .u8 0]) := ⟨by kernel_rfl, rfl, by decide⟩
instance : TZero Tryz.prog 159 [.int .u8 0, .int .u8 0, .int .u8 0, .int .u8 0, .int .u8 0, .int .u8 0, .int .u8 0, .int .u8 0, .int .u8 0, .int .u8 0, .int .u8 0, .int .u8 0, .int .u8 0, .int .u8 0, .int .u8 0, .int .u8 0, .int .u8 0, .int .u8 0, .int .u8 0, .int .u8 0, .int .u8 0, .int .u8 0, .int .u8 0, .int .u8 0, .int .u8 0, .int .u8 0, .int .u8 0, .int .u8 0, .int .u8 0, .int .u8 0, .int .u8 0, .int .u8 0] := ⟨.agg #[.int .u8 0, .int .u8 0, .int .u8 0, .int .u8 0, .int .u8 0, .int .u8 0, .int .u8 0, .int .u8 0, .int .u8 0, .int .u8 0, .int .u8 0, .int .u8 0, .int .u8 0, .int .u8 0, .int .u8 0, .int .u8 0, .int .u8 0, .int .u8 0, .int .u8 0, .int .u8 0, .int .u8 0, .int .u8 0, .int .u8 0, .int .u8 0, .int .u8 0, .int .u8 0, .int .u8 0, .int .u8 0, .int .u8 0, .int .u8 0, .int .u8 0, .int .u8 0], by kernel_rfl, rfl⟩
instance : TOne Tryz.prog 163 := ⟨⟨_, Tryz.underlying163, rfl⟩, by kernel_rfl⟩
instance : TPtr Tryz.prog 163 := ⟨⟨_, Tryz.underlying163⟩⟩
instance : TEl Tryz.prog 163 1 8 (.pointer none) := ⟨by kernel_rfl, rfl, by decide⟩
instance : TZero Tryz.prog 163 [.pointer none] := ⟨.pointer none, by kernel_rfl, rfl⟩
instance : TRow Tryz.prog 164 1 := ⟨⟨_, Tryz.underlying164, rfl⟩, by kernel_rfl⟩
instance : TFld Tryz.prog 164 0 0 := ⟨_, _, 0, Tryz.underlying164, rfl, rfl, by kernel_rfl⟩
instance : TEq Tryz.prog 164 [2] := ⟨by kernel_rfl, by kernel_rfl, _, Tryz.underlying164⟩
instance : TEl Tryz.prog 164 1 16 (.agg #[.string ⟨#[]⟩]) := ⟨by kernel_rfl, rfl, by decide⟩
instance : TZero Tryz.prog 164 [.string ⟨#[]⟩] := ⟨.agg #[.string ⟨#[]⟩], by kernel_rfl, rfl⟩
instance : TRow Tryz.prog 165 1 := ⟨⟨_, Tryz.underlying165, rfl⟩, by kernel_rfl⟩
instance : TFld Tryz.prog 165 0 0 := ⟨_, _, 0, Tryz.underlying165, rfl, rfl, by kernel_rfl⟩
instance : TEq Tryz.prog 165 [2] := ⟨by kernel_rfl, by kernel_rfl, _, Tryz.underlying165⟩
instance : TEl Tryz.prog 165 1 16 (.agg #[.string ⟨#[]⟩]) := ⟨by kernel_rfl, rfl, by decide⟩
instance : TZero Tryz.prog 165 [.string ⟨#[]⟩] := ⟨.agg #[.string ⟨#[]⟩], by kernel_rfl, rfl⟩
instance : TRow Tryz.prog 167 32 := ⟨⟨_, Tryz.underlying167, rfl⟩, by kernel_rfl⟩
instance : TEl Tryz.prog 167 32 32 (.agg #[.int .u8 0, .int .u8 0, .int .u8 0, .int .u8 0, .int .u8 0, .int .u8 0, .int .u8 0, .int .u8 0, .int .u8 0, .int .u8 0, .int .u8 0, .int .u8 0, .int .u8 0, .int .u8 0, .int .u8 0, .int .u8 0, .int .u8 0, .int .u8 0, .int .u8 0, .int .u8 0, .int .u8 0, .int .u8 0, .int .u8 0, .int .u8 0, .int .u8 0, .int .u8 0, .int .u8 0, .int .u8 0, .int .u8 0, .int .u8 0, .int .u8 0, .int .u8 0]) := ⟨by kernel_rfl, rfl, by decide⟩
instance : TZero Tryz.prog 167 [.int .u8 0, .int .u8 0, .int .u8 0, .int .u8 0, .int .u8 0, .int .u8 0, .int .u8 0, .int .u8 0, .int .u8 0, .int .u8 0, .int .u8 0, .int .u8 0, .int .u8 0, .int .u8 0, .int .u8 0, .int .u8 0, .int .u8 0, .int .u8 0, .int .u8 0, .int .u8 0, .int .u8 0, .int .u8 0, .int .u8 0, .int .u8 0, .int .u8 0, .int .u8 0, .int .u8 0, .int .u8 0, .int .u8 0, .int .u8 0, .int .u8 0, .int .u8 0] := ⟨.agg #[.int .u8 0, .int .u8 0, .int .u8 0, .int .u8 0, .int .u8 0, .int .u8 0, .int .u8 0, .int .u8 0, .int .u8 0, .int .u8 0, .int .u8 0, .int .u8 0, .int .u8 0, .int .u8 0, .int .u8 0, .int .u8 0, .int .u8 0, .int .u8 0, .int .u8 0, .int .u8 0, .int .u8 0, .int .u8 0, .int .u8 0, .int .u8 0, .int .u8 0, .int .u8 0, .int .u8 0, .int .u8 0, .int .u8 0, .int .u8 0, .int .u8 0, .int .u8 0], by kernel_rfl, rfl⟩
instance : TRow Tryz.prog 168 64 := ⟨⟨_, Tryz.underlying168, rfl⟩, by kernel_rfl⟩
instance : TEl Tryz.prog 168 64 64 (.agg #[.int .u8 0, .int .u8 0, .int .u8 0, .int .u8 0, .int .u8 0, .int .u8 0, .int .u8 0, .int .u8 0, .int .u8 0, .int .u8 0, .int .u8 0, .int .u8 0, .int .u8 0, .int .u8 0, .int .u8 0, .int .u8 0, .int .u8 0, .int .u8 0, .int .u8 0, .int .u8 0, .int .u8 0, .int .u8 0, .int .u8 0, .int .u8 0, .int .u8 0, .int .u8 0, .int .u8 0, .int .u8 0, .int .u8 0, .int .u8 0, .int .u8 0, .int .u8 0, .int .u8 0, .int .u8 0, .int .u8 0, .int .u8 0, .int .u8 0, .int .u8 0, .int .u8 0, .int .u8 0, .int .u8 0, .int .u8 0, .int .u8 0, .int .u8 0, .int .u8 0, .int .u8 0, .int .u8 0, .int .u8 0, .int .u8 0, .int .u8 0, .int .u8 0, .int .u8 0, .int .u8 0, .int .u8 0, .int .u8 0, .int .u8 0, .int .u8 0, .int .u8 0, .int .u8 0, .int .u8 0, .int .u8 0, .int .u8 0, .int .u8 0, .int .u8 0]) := ⟨by kernel_rfl, rfl, by decide⟩
instance : TZero Tryz.prog 168 [.int .u8 0, .int .u8 0, .int .u8 0, .int .u8 0, .int .u8 0, .int .u8 0, .int .u8 0, .int .u8 0, .int .u8 0, .int .u8 0, .int .u8 0, .int .u8 0, .int .u8 0, .int .u8 0, .int .u8 0, .int .u8 0, .int .u8 0, .int .u8 0, .int .u8 0, .int .u8 0, .int .u8 0, .int .u8 0, .int .u8 0, .int .u8 0, .int .u8 0, .int .u8 0, .int .u8 0, .int .u8 0, .int .u8 0, .int .u8 0, .int .u8 0, .int .u8 0, .int .u8 0, .int .u8 0, .int .u8 0, .int .u8 0, .int .u8 0, .int .u8 0, .int .u8 0, .int .u8 0, .int .u8 0, .int .u8 0, .int .u8 0, .int .u8 0, .int .u8 0, .int .u8 0, .int .u8 0, .int .u8 0, .int .u8 0, .int .u8 0, .int .u8 0, .int .u8 0, .int .u8 0, .int .u8 0, .int .u8 0, .int .u8 0, .int .u8 0, .int .u8 0, .int .u8 0, .int .u8 0, .int .u8 0, .int .u8 0, .int .u8 0, .int .u8 0] := ⟨.agg #[.int .u8 0, .int .u8 0, .int .u8 0, .int .u8 0, .int .u8 0, .int .u8 0, .int .u8 0, .int .u8 0, .int .u8 0, .int .u8 0, .int .u8 0, .int .u8 0, .int .u8 0, .int .u8 0, .int .u8 0, .int .u8 0, .int .u8 0, .int .u8 0, .int .u8 0, .int .u8 0, .int .u8 0, .int .u8 0, .int .u8 0, .int .u8 0, .int .u8 0, .int .u8 0, .int .u8 0, .int .u8 0, .int .u8 0, .int .u8 0, .int .u8 0, .int .u8 0, .int .u8 0, .int .u8 0, .int .u8 0, .int .u8 0, .int .u8 0, .int .u8 0, .int .u8 0, .int .u8 0, .int .u8 0, .int .u8 0, .int .u8 0, .int .u8 0, .int .u8 0, .int .u8 0, .int .u8 0, .int .u8 0, .int .u8 0, .int .u8 0, .int .u8 0, .int .u8 0, .int .u8 0, .int .u8 0, .int .u8 0, .int .u8 0, .int .u8 0, .int .u8 0, .int .u8 0, .int .u8 0, .int .u8 0, .int .u8 0, .int .u8 0, .int .u8 0], by kernel_rfl, rfl⟩
instance : TRow Tryz.prog 169 4 := ⟨⟨_, Tryz.underlying169, rfl⟩, by kernel_rfl⟩
instance : TFld Tryz.prog 169 0 0 := ⟨_, _, 0, Tryz.underlying169, rfl, rfl, by kernel_rfl⟩
instance : TFld Tryz.prog 169 1 1 := ⟨_, _, 0, Tryz.underlying169, rfl, rfl, by kernel_rfl⟩
instance : TFld Tryz.prog 169 2 2 := ⟨_, _, 0, Tryz.underlying169, rfl, rfl, by kernel_rfl⟩
instance : TFld Tryz.prog 169 3 3 := ⟨_, _, 0, Tryz.underlying169, rfl, rfl, by kernel_rfl⟩
instance : TEl Tryz.prog 169 4 40 (.agg #[.pointer none, .pointer none, .pointer none, .string ⟨#[]⟩]) := ⟨by kernel_rfl, rfl, by decide⟩
instance : TZero Tryz.prog 169 [.pointer none, .pointer none, .pointer none, .string ⟨#[]⟩] := ⟨.agg #[.pointer none, .pointer none, .pointer none, .string ⟨#[]⟩], by kernel_rfl, rfl⟩
instance : TRow Tryz.prog 170 4 := ⟨⟨_, Tryz.underlying170, rfl⟩, by kernel_rfl⟩
instance : TFld Tryz.prog 170 0 0 := ⟨_, _, 0, Tryz.underlying170, rfl, rfl, by kernel_rfl⟩
instance : TFld Tryz.prog 170 1 1 := ⟨_, _, 0, Tryz.underlying170, rfl, rfl, by kernel_rfl⟩
instance : TFld Tryz.prog 170 2 2 := ⟨_, _, 0, Tryz.underlying170, rfl, rfl, by kernel_rfl⟩
instance : TFld Tryz.prog 170 3 3 := ⟨_, _, 0, Tryz.underlying170, rfl, rfl, by kernel_rfl⟩
instance : TEl Tryz.prog 170 4 40 (.agg #[.pointer none, .pointer none, .pointer none, .string ⟨#[]⟩]) := ⟨by kernel_rfl, rfl, by decide⟩
instance : TZero Tryz.prog 170 [.pointer none, .pointer none, .pointer none, .string ⟨#[]⟩] := ⟨.agg #[.pointer none, .pointer none, .pointer none, .string ⟨#[]⟩], by kernel_rfl, rfl⟩
instance : TOne Tryz.prog 175 := ⟨⟨_, Tryz.underlying175, rfl⟩, by kernel_rfl⟩
instance : TEl Tryz.prog 175 1 1 (.int .u8 0) := ⟨by kernel_rfl, rfl, by decide⟩
instance : TZero Tryz.prog 175 [.int .u8 0] := ⟨.int .u8 0, by kernel_rfl, rfl⟩
instance : TOne Tryz.prog 176 := ⟨⟨_, Tryz.underlying176, rfl⟩, by kernel_rfl⟩
instance : TEl Tryz.prog 176 1 1 (.int .u8 0) := ⟨by kernel_rfl, rfl, by decide⟩
instance : TZero Tryz.prog 176 [.int .u8 0] := ⟨.int .u8 0, by kernel_rfl, rfl⟩
instance : TOne Tryz.prog 178 := ⟨⟨_, Tryz.underlying178, rfl⟩, by kernel_rfl⟩
instance : TEl Tryz.prog 178 1 4 (.int .i32 0) := ⟨by kernel_rfl, rfl, by decide⟩
instance : TZero Tryz.prog 178 [.int .i32 0] := ⟨.int .i32 0, by kernel_rfl, rfl⟩
instance : TOne Tryz.prog 179 := ⟨⟨_, Tryz.underlying179, rfl⟩, by kernel_rfl⟩
instance : TEl Tryz.prog 179 1 4 (.int .i32 0) := ⟨by kernel_rfl, rfl, by decide⟩
instance : TZero Tryz.prog 179 [.int .i32 0] := ⟨.int .i32 0, by kernel_rfl, rfl⟩
instance : TRow Tryz.prog 180 11 := ⟨⟨_, Tryz.underlying180, rfl⟩, by kernel_rfl⟩
instance : TFld Tryz.prog 180 0 0 := ⟨_, _, 0, Tryz.underlying180, rfl, rfl, by kernel_rfl⟩
instance : TFld Tryz.prog 180 1 1 := ⟨_, _, 0, Tryz.underlying180, rfl, rfl, by kernel_rfl⟩
instance : TFld Tryz.prog 180 2 2 := ⟨_, _, 0, Tryz.underlying180, rfl, rfl, by kernel_rfl⟩
instance : TFld Tryz.prog 180 3 3 := ⟨_, _, 0, Tryz.underlying180, rfl, rfl, by kernel_rfl⟩
instance : TFld Tryz.prog 180 4 4 := ⟨_, _, 0, Tryz.underlying180, rfl, rfl, by kernel_rfl⟩
instance : TFld Tryz.prog 180 5 5 := ⟨_, _, 0, Tryz.underlying180, rfl, rfl, by kernel_rfl⟩
instance : TFld Tryz.prog 180 6 6 := ⟨_, _, 0, Tryz.underlying180, rfl, rfl, by kernel_rfl⟩
instance : TFld Tryz.prog 180 7 7 := ⟨_, _, 0, Tryz.underlying180, rfl, rfl, by kernel_rfl⟩
instance : TFld Tryz.prog 180 8 8 := ⟨_, _, 0, Tryz.underlying180, rfl, rfl, by kernel_rfl⟩
instance : TFld Tryz.prog 180 9 9 := ⟨_, _, 0, Tryz.underlying180, rfl, rfl, by kernel_rfl⟩
instance : TFld Tryz.prog 180 10 10 := ⟨_, _, 0, Tryz.underlying180, rfl, rfl, by kernel_rfl⟩
instance : TRow Tryz.prog 181 11 := ⟨⟨_, Tryz.underlying181, rfl⟩, by kernel_rfl⟩
instance : TFld Tryz.prog 181 0 0 := ⟨_, _, 0, Tryz.underlying181, rfl, rfl, by kernel_rfl⟩
instance : TFld Tryz.prog 181 1 1 := ⟨_, _, 0, Tryz.underlying181, rfl, rfl, by kernel_rfl⟩
instance : TFld Tryz.prog 181 2 2 := ⟨_, _, 0, Tryz.underlying181, rfl, rfl, by kernel_rfl⟩
instance : TFld Tryz.prog 181 3 3 := ⟨_, _, 0, Tryz.underlying181, rfl, rfl, by kernel_rfl⟩
instance : TFld Tryz.prog 181 4 4 := ⟨_, _, 0, Tryz.underlying181, rfl, rfl, by kernel_rfl⟩
instance : TFld Tryz.prog 181 5 5 := ⟨_, _, 0, Tryz.underlying181, rfl, rfl, by kernel_rfl⟩
instance : TFld Tryz.prog 181 6 6 := ⟨_, _, 0, Tryz.underlying181, rfl, rfl, by kernel_rfl⟩
instance : TFld Tryz.prog 181 7 7 := ⟨_, _, 0, Tryz.underlying181, rfl, rfl, by kernel_rfl⟩
instance : TFld Tryz.prog 181 8 8 := ⟨_, _, 0, Tryz.underlying181, rfl, rfl, by kernel_rfl⟩
instance : TFld Tryz.prog 181 9 9 := ⟨_, _, 0, Tryz.underlying181, rfl, rfl, by kernel_rfl⟩
instance : TFld Tryz.prog 181 10 10 := ⟨_, _, 0, Tryz.underlying181, rfl, rfl, by kernel_rfl⟩
instance : TFun Tryz.prog 3 := ⟨_, Tryz.func3, by kernel_rfl, by kernel_rfl⟩
instance : TFun Tryz.prog 4 := ⟨_, Tryz.func4, by kernel_rfl, by kernel_rfl⟩
instance : TFun Tryz.prog 5 := ⟨_, Tryz.func5, by kernel_rfl, by kernel_rfl⟩
instance : TFun Tryz.prog 6 := ⟨_, Tryz.func6, by kernel_rfl, by kernel_rfl⟩
instance : TFun Tryz.prog 7 := ⟨_, Tryz.func7, by kernel_rfl, by kernel_rfl⟩
instance : TFun Tryz.prog 8 := ⟨_, Tryz.func8, by kernel_rfl, by kernel_rfl⟩
instance : TFun Tryz.prog 9 := ⟨_, Tryz.func9, by kernel_rfl, by kernel_rfl⟩
instance : TFun Tryz.prog 10 := ⟨_, Tryz.func10, by kernel_rfl, by kernel_rfl⟩
instance : TFun Tryz.prog 11 := ⟨_, Tryz.func11, by kernel_rfl, by kernel_rfl⟩
instance : TFun Tryz.prog 12 := ⟨_, Tryz.func12, by kernel_rfl, by kernel_rfl⟩
instance : TFun Tryz.prog 13 := ⟨_, Tryz.func13, by kernel_rfl, by kernel_rfl⟩
instance : TFun Tryz.prog 14 := ⟨_, Tryz.func14, by kernel_rfl, by kernel_rfl⟩
instance : TFun Tryz.prog 15 := ⟨_, Tryz.func15, by kernel_rfl, by kernel_rfl⟩
instance : TFun Tryz.prog 16 := ⟨_, Tryz.func16, by kernel_rfl, by kernel_rfl⟩
instance : TFun Tryz.prog 17 := ⟨_, Tryz.func17, by kernel_rfl, by kernel_rfl⟩
instance : TFun Tryz.prog 18 := ⟨_, Tryz.func18, by kernel_rfl, by kernel_rfl⟩
instance : TFun Tryz.prog 19 := ⟨_, Tryz.func19, by kernel_rfl, by kernel_rfl⟩
instance : TFun Tryz.prog 20 := ⟨_, Tryz.func20, by kernel_rfl, by kernel_rfl⟩
instance : TFun Tryz.prog 21 := ⟨_, Tryz.func21, by kernel_rfl, by kernel_rfl⟩
instance : TFun Tryz.prog 22 := ⟨_, Tryz.func22, by kernel_rfl, by kernel_rfl⟩
instance : TFun Tryz.prog 23 := ⟨_, Tryz.func23, by kernel_rfl, by kernel_rfl⟩
instance : TFun Tryz.prog 24 := ⟨_, Tryz.func24, by kernel_rfl, by kernel_rfl⟩
instance : TFun Tryz.prog 25 := ⟨_, Tryz.func25, by kernel_rfl, by kernel_rfl⟩
instance : TFun Tryz.prog 26 := ⟨_, Tryz.func26, by kernel_rfl, by kernel_rfl⟩
instance : TFun Tryz.prog 27 := ⟨_, Tryz.func27, by kernel_rfl, by kernel_rfl⟩
instance : TFun Tryz.prog 28 := ⟨_, Tryz.func28, by kernel_rfl, by kernel_rfl⟩
instance : TFun Tryz.prog 29 := ⟨_, Tryz.func29, by kernel_rfl, by kernel_rfl⟩
instance : TFun Tryz.prog 31 := ⟨_, Tryz.func31, by kernel_rfl, by kernel_rfl⟩
instance : TFun Tryz.prog 32 := ⟨_, Tryz.func32, by kernel_rfl, by kernel_rfl⟩
instance : TFun Tryz.prog 33 := ⟨_, Tryz.func33, by kernel_rfl, by kernel_rfl⟩
instance : TFun Tryz.prog 34 := ⟨_, Tryz.func34, by kernel_rfl, by kernel_rfl⟩
instance : TFun Tryz.prog 35 := ⟨_, Tryz.func35, by kernel_rfl, by kernel_rfl⟩
instance : TFun Tryz.prog 36 := ⟨_, Tryz.func36, by kernel_rfl, by kernel_rfl⟩
instance : TFun Tryz.prog 37 := ⟨_, Tryz.func37, by kernel_rfl, by kernel_rfl⟩
instance : TFun Tryz.prog 38 := ⟨_, Tryz.func38, by kernel_rfl, by kernel_rfl⟩
instance : TFun Tryz.prog 39 := ⟨_, Tryz.func39, by kernel_rfl, by kernel_rfl⟩
instance : TFun Tryz.prog 40 := ⟨_, Tryz.func40, by kernel_rfl, by kernel_rfl⟩
instance : TFun Tryz.prog 41 := ⟨_, Tryz.func41, by kernel_rfl, by kernel_rfl⟩
instance : TFun Tryz.prog 42 := ⟨_, Tryz.func42, by kernel_rfl, by kernel_rfl⟩
instance : TFun Tryz.prog 43 := ⟨_, Tryz.func43, by kernel_rfl, by kernel_rfl⟩
instance : TFun Tryz.prog 44 := ⟨_, Tryz.func44, by kernel_rfl, by kernel_rfl⟩
instance : TFun Tryz.prog 45 := ⟨_, Tryz.func45, by kernel_rfl, by kernel_rfl⟩
instance : TFun Tryz.prog 46 := ⟨_, Tryz.func46, by kernel_rfl, by kernel_rfl⟩
instance : TFun Tryz.prog 47 := ⟨_, Tryz.func47, by kernel_rfl, by kernel_rfl⟩
instance : TFun Tryz.prog 48 := ⟨_, Tryz.func48, by kernel_rfl, by kernel_rfl⟩
instance : TFun Tryz.prog 49 := ⟨_, Tryz.func49, by kernel_rfl, by kernel_rfl⟩
instance : TFun Tryz.prog 51 := ⟨_, Tryz.func51, by kernel_rfl, by kernel_rfl⟩
instance : TFun Tryz.prog 52 := ⟨_, Tryz.func52, by kernel_rfl, by kernel_rfl⟩
instance : TFun Tryz.prog 53 := ⟨_, Tryz.func53, by kernel_rfl, by kernel_rfl⟩
instance : TFun Tryz.prog 54 := ⟨_, Tryz.func54, by kernel_rfl, by kernel_rfl⟩
instance : TFun Tryz.prog 55 := ⟨_, Tryz.func55, by kernel_rfl, by kernel_rfl⟩
instance : TFun Tryz.prog 56 := ⟨_, Tryz.func56, by kernel_rfl, by kernel_rfl⟩
instance : TFun Tryz.prog 57 := ⟨_, Tryz.func57, by kernel_rfl, by kernel_rfl⟩
instance : TFun Tryz.prog 58 := ⟨_, Tryz.func58, by kernel_rfl, by kernel_rfl⟩
instance : TFun Tryz.prog 59 := ⟨_, Tryz.func59, by kernel_rfl, by kernel_rfl⟩
instance : TFun Tryz.prog 60 := ⟨_, Tryz.func60, by kernel_rfl, by kernel_rfl⟩
instance : TFun Tryz.prog 61 := ⟨_, Tryz.func61, by kernel_rfl, by kernel_rfl⟩
instance : TFun Tryz.prog 62 := ⟨_, Tryz.func62, by kernel_rfl, by kernel_rfl⟩
instance : TFun Tryz.prog 63 := ⟨_, Tryz.func63, by kernel_rfl, by kernel_rfl⟩
instance : TFun Tryz.prog 64 := ⟨_, Tryz.func64, by kernel_rfl, by kernel_rfl⟩
instance : TFun Tryz.prog 65 := ⟨_, Tryz.func65, by kernel_rfl, by kernel_rfl⟩
instance : TFun Tryz.prog 66 := ⟨_, Tryz.func66, by kernel_rfl, by kernel_rfl⟩
instance : TFun Tryz.prog 67 := ⟨_, Tryz.func67, by kernel_rfl, by kernel_rfl⟩
instance : TFun Tryz.prog 68 := ⟨_, Tryz.func68, by kernel_rfl, by kernel_rfl⟩
instance : TFun Tryz.prog 69 := ⟨_, Tryz.func69, by kernel_rfl, by kernel_rfl⟩
instance : TFun Tryz.prog 70 := ⟨_, Tryz.func70, by kernel_rfl, by kernel_rfl⟩
instance : TFun Tryz.prog 71 := ⟨_, Tryz.func71, by kernel_rfl, by kernel_rfl⟩
instance : TFun Tryz.prog 72 := ⟨_, Tryz.func72, by kernel_rfl, by kernel_rfl⟩
instance : TFun Tryz.prog 73 := ⟨_, Tryz.func73, by kernel_rfl, by kernel_rfl⟩
instance : TFun Tryz.prog 77 := ⟨_, Tryz.func77, by kernel_rfl, by kernel_rfl⟩
instance : TFun Tryz.prog 78 := ⟨_, Tryz.func78, by kernel_rfl, by kernel_rfl⟩
instance : TFun Tryz.prog 79 := ⟨_, Tryz.func79, by kernel_rfl, by kernel_rfl⟩
instance : TFun Tryz.prog 80 := ⟨_, Tryz.func80, by kernel_rfl, by kernel_rfl⟩
instance : TFun Tryz.prog 82 := ⟨_, Tryz.func82, by kernel_rfl, by kernel_rfl⟩
instance : TFun Tryz.prog 83 := ⟨_, Tryz.func83, by kernel_rfl, by kernel_rfl⟩
instance : TFun Tryz.prog 84 := ⟨_, Tryz.func84, by kernel_rfl, by kernel_rfl⟩
instance : TFun Tryz.prog 85 := ⟨_, Tryz.func85, by kernel_rfl, by kernel_rfl⟩
instance : TFun Tryz.prog 86 := ⟨_, Tryz.func86, by kernel_rfl, by kernel_rfl⟩
instance : TFun Tryz.prog 89 := ⟨_, Tryz.func89, by kernel_rfl, by kernel_rfl⟩
instance : TFun Tryz.prog 90 := ⟨_, Tryz.func90, by kernel_rfl, by kernel_rfl⟩
instance : TFun Tryz.prog 91 := ⟨_, Tryz.func91, by kernel_rfl, by kernel_rfl⟩
instance : TFun Tryz.prog 92 := ⟨_, Tryz.func92, by kernel_rfl, by kernel_rfl⟩
instance : TFun Tryz.prog 93 := ⟨_, Tryz.func93, by kernel_rfl, by kernel_rfl⟩
instance : TFun Tryz.prog 94 := ⟨_, Tryz.func94, by kernel_rfl, by kernel_rfl⟩
instance : TFun Tryz.prog 99 := ⟨_, Tryz.func99, by kernel_rfl, by kernel_rfl⟩
instance : TFun Tryz.prog 100 := ⟨_, Tryz.func100, by kernel_rfl, by kernel_rfl⟩
instance : TFun Tryz.prog 101 := ⟨_, Tryz.func101, by kernel_rfl, by kernel_rfl⟩
instance : TFun Tryz.prog 102 := ⟨_, Tryz.func102, by kernel_rfl, by kernel_rfl⟩
instance : TFun Tryz.prog 103 := ⟨_, Tryz.func103, by kernel_rfl, by kernel_rfl⟩
instance : TFun Tryz.prog 110 := ⟨_, Tryz.func110, by kernel_rfl, by kernel_rfl⟩
instance : TFun Tryz.prog 111 := ⟨_, Tryz.func111, by kernel_rfl, by kernel_rfl⟩
instance : TFun Tryz.prog 116 := ⟨_, Tryz.func116, by kernel_rfl, by kernel_rfl⟩
instance : TFun Tryz.prog 117 := ⟨_, Tryz.func117, by kernel_rfl, by kernel_rfl⟩
instance : TFun Tryz.prog 130 := ⟨_, Tryz.func130, by kernel_rfl, by kernel_rfl⟩
instance : TFun Tryz.prog 131 := ⟨_, Tryz.func131, by kernel_rfl, by kernel_rfl⟩

end Go.Proofs.YtkkjjhooamlljaaGreatDoor
namespace Go.Proofs.YtkkjjhooamlljaaGreatDoor
open Go.RowKit
set_option linter.unusedVariables false
set_option linter.unusedSimpArgs false

instance tfunSplit : TFun Tryz.prog 50 := ⟨Tryz.f50, by kernel_rfl, by kernel_rfl, by kernel_rfl⟩
theorem NewSlice.lit {w : World} {l : List (List UInt8)} (hl : l.length ≤ 4294967282) : NewSlice 9 1 w l.length (l.map tcell).flatten (.returned (.slice (some ⟨w.heap.size, 0, none⟩) l.length l.length)) (w.alloc (.cells (l.map tcell).flatten.toArray 9)) := by
  have hfl := flat_length (cells := tcell) (sz := 1) (fun _ => rfl) l
  refine ⟨_, _, rfl, ⟨by rw [hfl], .inr ⟨w.heap.size, l.length, _, rfl, Nat.le_refl _, heap_alloc_new w _, Nat.le_refl _, by unfold maxLen; omega, by rw [List.size_toArray, hfl], ?_⟩⟩, (Mod.refl _ w).alloc _⟩
  exact List.take_of_length_le (by show (l.map tcell).flatten.length ≤ _; omega)
theorem tcell_flat (l : List (List UInt8)) : (l.map tcell).flatten = l.map fun x => Value.string ⟨x.toArray⟩ := by
  induction l with
  | nil => rfl
  | cons x l ih => rw [List.map_cons, List.flatten_cons, ih]; rfl
theorem split_new (t : List UInt8) (c : UInt8) (ht : t.length ≤ 1048576) (w : World) (hz : Num0 w) : Calls Tryz.prog 50 #[.string ⟨t.toArray⟩, .string ⟨#[c]⟩] w (NewR (Nat × Nat) (fun p => .slice (some ⟨p.1, 0, none⟩) (splitL c t).length p.2) (textsRes (splitL c t)) w) := by
  obtain ⟨m, hm⟩ := hz
  refine (Tryz.strings_Split ⟨t.toArray⟩ ⟨#[c]⟩ m w (by show t.toArray.size < _; simp; omega) hm (by show 1 ≤ 1; decide)).mono ?_
  rintro e w' ⟨rfl, rfl⟩
  have hl := splitL_len c t
  rw [countB_sign, splitB_sign, ← tcell_flat]
  exact rows_of (splitL_ne c t) (fun _ => rfl) (NewSlice.lit (by omega))

theorem drop_take_at {t : List UInt8} {b k : Nat} {c : UInt8} (hbk : b ≤ k) (hk : t[k]? = some c) : t.drop b = (t.drop b).take (k - b) ++ c :: t.drop (k + 1) := by
  have h1 : (t.drop b)[k - b]? = some c := by rw [List.getElem?_drop, show b + (k - b) = k by omega]; exact hk
  have hlt := (List.getElem?_eq_some_iff.1 h1).1
  have h2 : (t.drop b).drop (k - b) = c :: (t.drop b).drop (k - b + 1) := by
    rw [List.drop_eq_getElem_cons hlt]
    have := (List.getElem?_eq_some_iff.1 h1).2
    rw [this]
  have h3 : (t.drop b).drop (k - b + 1) = t.drop (k + 1) := by rw [List.drop_drop]; congr 1; omega
  rw [h3] at h2
  rw [← h2, List.take_append_drop]
/-- The reference's cut up to place k: the pieces, and where the next begins. -/
structure CutTo (c : UInt8) (t : List UInt8) (k b : Nat) (out : List (List UInt8)) : Prop where
  whole : splitL c t = out ++ splitL c (t.drop b)
  le : b ≤ k
  none : c ∉ (t.drop b).take (k - b)
theorem CutTo.cut {c : UInt8} {t : List UInt8} {k b : Nat} {out : List (List UInt8)} (h : CutTo c t k b out) (hk : t[k]? = some c) : CutTo c t (k + 1) (k + 1) (out ++ [(t.drop b).take (k - b)]) where
  whole := by
    have e := drop_take_at h.le hk
    rw [h.whole]
    conv => lhs; rw [e, splitL_cut h.none]
    simp
  le := Nat.le_refl _
  none := by simp
theorem CutTo.step {c x : UInt8} {t : List UInt8} {k b : Nat} {out : List (List UInt8)} (h : CutTo c t k b out) (hk : t[k]? = some x) (hx : x ≠ c) : CutTo c t (k + 1) b out where
  whole := h.whole
  le := Nat.le_succ_of_le h.le
  none := by
    have hle := h.le
    rw [show k + 1 - b = k - b + 1 by omega, List.take_add_one]
    have h1 : (t.drop b)[k - b]? = some x := by rw [List.getElem?_drop, show b + (k - b) = k by omega]; exact hk
    rw [h1]
    intro hm
    rcases List.mem_append.1 hm with hm | hm
    · exact h.none hm
    · have : c = x := by simpa using hm
      exact hx this.symm
theorem CutTo.last {c : UInt8} {t : List UInt8} {b : Nat} {out : List (List UInt8)} (h : CutTo c t t.length b out) : splitL c t = out ++ [(t.drop b).take (t.length - b)] := by
  have e : (t.drop b).take (t.length - b) = t.drop b := List.take_of_length_le (by rw [List.length_drop]; omega)
  rw [h.whole, e]
  have := h.none
  rw [e] at this
  rw [splitL_whole this]

set_option maxRecDepth 100000 in
set_option maxHeartbeats 4000000 in
theorem l30Split_new (t : List UInt8) (c : UInt8) (ht : t.length ≤ 1048576) (w : World) : Calls Tryz.prog 56 #[.string ⟨t.toArray⟩, .int .u8 (c.toNat : Int)] w (NewSlice 9 1 w (splitL c t).length ((splitL c t).map tcell).flatten) := by
  refine calls_sx Tryz.func56 rfl rfl (fun a h1 h2 h3 => (((Fr.nil h1 h2).arg (h3 1 _ rfl)).arg (h3 0 _ rfl))) ?_
  repeat (first | refine SX.seq ?_ | refine SXl.nil ?_ | refine SX.region ?_ | refine SQ.thenNormal ?_ | refine SX.block ?_ | (refine l_assign ?_; (refine SXl.v (OpW.assign rfl) rfl ?_ ?_ ?_); rfl; rfl) | (refine l_buildSlice ?_; first | (refine SXl.lit1 ?_ ?_ rfl rfl rfl (fun g => ?_); rfl; rfl) | (refine SXl.lit0 ?_ ?_ (fun _ h => h) rfl (fun g => ?_); rfl; rfl)))
  refine SX.loop3 (fun (p : Nat × Nat) (out : List (List UInt8)) (_ : Option Addr × Nat) => p.1 ≤ t.length + 1 ∧ out.length ≤ p.1 ∧ (if p.1 ≤ t.length then CutTo c t p.1 p.2 out else splitL c t = out)) (fun p _ _ => t.length + 1 - p.1) (fun _ _ _ => []) (fun _ out q => [⟨.slice q.1 out.length q.2, 9, 1, out.length, (out.map tcell).flatten⟩]) (fun _ _ _ => []) (fun p out q => [(0, .string ⟨t.toArray⟩), (1, .int .u8 (c.toNat : Int)), (5, .slice q.1 out.length q.2), (6, .int .i64 p.2), (7, .int .i64 p.1)]) (0, 0) [] (_, 0) ⟨by omega, by simp, by rw [if_pos (by omega)]; exact ⟨by simp, by simp, by simp⟩⟩ ?_ (fun _ hl => hl) ?_
  · (repeat (first | exact subF_nil _ | (refine subF_cons rfl ?_) | (refine subF_consv rfl (by rfl) ?_)))
  rintro ⟨k, b⟩ out ⟨a, cp⟩ ⟨hk, ho, hI⟩
  simp only at hk ho hI
  by_cases hle : k ≤ t.length
  · rw [if_pos hle] at hI
    have hbk := hI.le
    by_cases hlt : k < t.length
    · have hu : t[k]? = some t[k] := List.getElem?_eq_getElem hlt
      generalize t[k] = u at hu
      by_cases huc : u = c
      · subst huc
        have hn := hI.cut hu
        repeat (first | refine SX.seq ?_ | refine SXl.nil ?_ | refine SX.region ?_ | refine SQ.thenNormal ?_ | refine SX.block ?_ | refine SX.skip ?_ | refine SX.condT rfl ?_ | (refine l_move ?_; (refine SXl.v (OpW.move rfl) rfl ?_ ?_ ?_); rfl; rfl) | (refine l_assign ?_; (refine SXl.v (OpW.assign rfl) rfl ?_ ?_ ?_); rfl; rfl) | (refine l_len ?_; (refine SXl.v (OpW.lenStr rfl) rfl ?_ ?_ ?_); rfl; rfl) | (refine l_index ?_; (refine SXl.v (OpW.indexStr rfl rfl (by assumption)) rfl ?_ ?_ ?_); rfl; rfl) | (refine l_slice ?_; (refine SXl.v (OpW.sliceOf rfl rfl rfl (by omega) (by omega)) rfl ?_ ?_ ?_); rfl; rfl) | (refine l_add ?_; (refine SXl.v (OpW.succ rfl rfl (by omega)) rfl ?_ ?_ ?_); rfl; rfl) | (refine l_eql ?_; (first | refine SXl.v (OpW.eqlT rfl rfl (by omega)) rfl ?_ ?_ ?_ | refine SXl.v (OpW.eqlF rfl rfl (by omega)) rfl ?_ ?_ ?_); rfl; rfl) | (refine l_leq ?_; (refine SXl.v (OpW.leqT rfl rfl (by omega)) rfl ?_ ?_ ?_); rfl; rfl) | (refine l_pick ?_; (refine SXl.v (OpW.pick rfl rfl rfl) rfl ?_ ?_ ?_); rfl; rfl) | (refine l_buildSlice ?_; first | (refine SXl.lit1 ?_ ?_ rfl rfl rfl (fun g => ?_); rfl; rfl) | (refine SXl.lit0 ?_ ?_ (fun _ h => h) rfl (fun g => ?_); rfl; rfl)) | (refine l_append ?_; first | (refine SXl.append 0 0 rfl rfl rfl rfl rfl rfl rfl rfl (by omega) (by omega) (fun a c => ?_); simp only [List.set_cons_zero, List.set_cons_succ]) | (refine SXl.append 1 0 rfl rfl rfl rfl rfl rfl rfl rfl (by omega) (by omega) (fun a c => ?_); simp only [List.set_cons_zero, List.set_cons_succ])) | refine SQ.blockNormal ?_)
        refine SQ.round3 (k + 1, k + 1) (out ++ [(t.drop b).take (k - b)]) (_, _) ⟨by simp only; omega, by simp; omega, by simp only; rw [if_pos (by omega)]; exact hn⟩ (by simp only; omega) ?_ (fun w hl => by rw [List.length_append, List.map_append, List.flatten_append]; exact hl.drop1)
        (repeat (first | exact subF_nil _ | (refine subF_cons rfl ?_) | (refine subF_consv rfl (by rw [List.length_append]; rfl) ?_)))
      · have hn := hI.step hu huc
        have hne : ¬ (u.toNat : Int) = c.toNat := fun e => huc (UInt8.toNat_inj.1 (by omega))
        repeat (first | refine SX.seq ?_ | refine SXl.nil ?_ | refine SX.region ?_ | refine SQ.thenNormal ?_ | refine SX.block ?_ | refine SX.skip ?_ | refine SX.condT rfl ?_ | refine SX.condF rfl ?_ | (refine l_move ?_; (refine SXl.v (OpW.move rfl) rfl ?_ ?_ ?_); rfl; rfl) | (refine l_assign ?_; (refine SXl.v (OpW.assign rfl) rfl ?_ ?_ ?_); rfl; rfl) | (refine l_len ?_; (refine SXl.v (OpW.lenStr rfl) rfl ?_ ?_ ?_); rfl; rfl) | (refine l_index ?_; (refine SXl.v (OpW.indexStr rfl rfl (by assumption)) rfl ?_ ?_ ?_); rfl; rfl) | (refine l_add ?_; (refine SXl.v (OpW.succ rfl rfl (by omega)) rfl ?_ ?_ ?_); rfl; rfl) | (refine l_eql ?_; (refine SXl.v (OpW.eqlF rfl rfl (by omega)) rfl ?_ ?_ ?_); rfl; rfl) | (refine l_leq ?_; (refine SXl.v (OpW.leqT rfl rfl (by omega)) rfl ?_ ?_ ?_); rfl; rfl) | (refine l_pick ?_; (refine SXl.v (OpW.pick rfl rfl rfl) rfl ?_ ?_ ?_); rfl; rfl) | refine SQ.blockNormal ?_)
        refine SQ.round3 (k + 1, b) out (a, cp) ⟨by simp only; omega, by simp only; omega, by simp only; rw [if_pos (by omega)]; exact hn⟩ (by simp only; omega) ?_ (fun w hl => hl)
        (repeat (first | exact subF_nil _ | (refine subF_cons rfl ?_) | (refine subF_consv rfl (by rfl) ?_)))
    · have hk' : k = t.length := by omega
      subst hk'
      have hn := hI.last
      repeat (first | refine SX.seq ?_ | refine SXl.nil ?_ | refine SX.region ?_ | refine SQ.thenNormal ?_ | refine SX.block ?_ | refine SX.skip ?_ | refine SX.condT rfl ?_ | (refine SXl.no rfl rfl rfl ?_) | (refine l_move ?_; (refine SXl.v (OpW.move rfl) rfl ?_ ?_ ?_); rfl; rfl) | (refine l_assign ?_; (refine SXl.v (OpW.assign rfl) rfl ?_ ?_ ?_); rfl; rfl) | (refine l_len ?_; (refine SXl.v (OpW.lenStr rfl) rfl ?_ ?_ ?_); rfl; rfl) | (refine l_slice ?_; (refine SXl.v (OpW.sliceOf rfl rfl rfl (by omega) (by omega)) rfl ?_ ?_ ?_); rfl; rfl) | (refine l_add ?_; (refine SXl.v (OpW.succ rfl rfl (by omega)) rfl ?_ ?_ ?_); rfl; rfl) | (refine l_eql ?_; (refine SXl.v (OpW.eqlT rfl rfl (by omega)) rfl ?_ ?_ ?_); rfl; rfl) | (refine l_leq ?_; (refine SXl.v (OpW.leqT rfl rfl (by omega)) rfl ?_ ?_ ?_); rfl; rfl) | (refine l_pick ?_; (refine SXl.v (OpW.pick rfl rfl rfl) rfl ?_ ?_ ?_); rfl; rfl) | (refine l_buildSlice ?_; first | (refine SXl.lit1 ?_ ?_ rfl rfl rfl (fun g => ?_); rfl; rfl) | (refine SXl.lit0 ?_ ?_ (fun _ h => h) rfl (fun g => ?_); rfl; rfl)) | (refine l_append ?_; first | (refine SXl.append 0 0 rfl rfl rfl rfl rfl rfl rfl rfl (by omega) (by omega) (fun a c => ?_); simp only [List.set_cons_zero, List.set_cons_succ]) | (refine SXl.append 1 0 rfl rfl rfl rfl rfl rfl rfl rfl (by omega) (by omega) (fun a c => ?_); simp only [List.set_cons_zero, List.set_cons_succ])) | refine SQ.blockNormal ?_)
      refine SQ.round3 (t.length + 1, t.length + 1) (out ++ [(t.drop b).take (t.length - b)]) (_, _) ⟨by simp, by simp; omega, by simp only; rw [if_neg (by omega)]; exact hn⟩ (by simp only; omega) ?_ (fun w hl => by rw [List.length_append, List.map_append, List.flatten_append]; exact hl.drop1)
      (repeat (first | exact subF_nil _ | (refine subF_cons rfl ?_) | (refine subF_consv rfl (by rw [List.length_append]; rfl) ?_)))
  · rw [if_neg hle] at hI
    rw [hI]
    repeat (first | refine SX.seq ?_ | refine SXl.nil ?_ | refine SX.region ?_ | refine SQ.thenNormal ?_ | refine SX.condF rfl ?_ | (refine l_move ?_; (refine SXl.v (OpW.move rfl) rfl ?_ ?_ ?_); rfl; rfl) | (refine l_assign ?_; (refine SXl.v (OpW.assign rfl) rfl ?_ ?_ ?_); rfl; rfl) | (refine l_len ?_; (refine SXl.v (OpW.lenStr rfl) rfl ?_ ?_ ?_); rfl; rfl) | (refine l_leq ?_; (refine SXl.v (OpW.leqF rfl rfl (by omega)) rfl ?_ ?_ ?_); rfl; rfl) | refine SX.ret ?_ | refine SX.exit ?_ | refine SQ.thenExit ?_ | refine SQ.blockExit ?_)
    refine SQ.body1 rfl rfl (fun w' hl => ⟨_, _, rfl, (hl.own _ List.mem_cons_self).1, hl.mod⟩)
end Go.Proofs.YtkkjjhooamlljaaGreatDoor
namespace Go.Proofs.YtkkjjhooamlljaaGreatDoor
open Go.RowKit

end Go.Proofs.YtkkjjhooamlljaaGreatDoor
namespace Go.Proofs.YtkkjjhooamlljaaGreatDoor
open Go.RowKit

def ruleIn (r : Rule) : Bool := inB r.room (-1) 1048576 && inB r.wide 0 1048576 && inB r.high 0 1048576
def tableOk (l : List Rule) : Bool := inB l.length 1 6 && l.all ruleIn
def AllIn (p : Rule → Bool) (l : List Rule) (k : Nat) : Prop := (l.take k).all p = true
theorem AllIn.succ {p : Rule → Bool} {l : List Rule} {k : Nat} {x : Rule} (h : AllIn p l k) (hx : Hid (l[k]? = some x)) (hp : p x = true) : AllIn p l (k + 1) := by
  unfold AllIn at *
  rw [List.take_add_one, hx.out, List.all_append, h]
  simp [hp]
theorem AllIn.full {p : Rule → Bool} {l : List Rule} (h : AllIn p l l.length) : l.all p = true := by
  unfold AllIn at h
  rwa [List.take_length] at h
theorem allIn_false {p : Rule → Bool} {l : List Rule} {k : Nat} {x : Rule} (hx : Hid (l[k]? = some x)) (hp : p x = false) : l.all p = false := by
  rw [List.all_eq_false]
  exact ⟨x, List.mem_of_getElem? hx.out, by simp [hp]⟩

/-- The block that a table's parameter is laid in. -/
abbrev boxT (a : Option Addr) (n c : Nat) : Obj := .cells #[.slice a n c] 26

set_option maxRecDepth 100000 in
set_option maxHeartbeats 2000000 in
theorem tableOk_any (l : List Rule) (a : Option Addr) (c : Nat) (R : Nat → Prop) (w : World) (hl : l.length ≤ 1048576) (h : SliceAt (Flat Rule.cells) 3 R w a l) :
    Calls Tryz.prog 49 #[.agg #[.slice a l.length c]] w fun e w' => e = .returned (.bool (tableOk l)) ∧ Mod (fun _ => False) w w' := by
  have H := hid (h.flatKeep ((Mod.refl _ w).alloc (boxT a l.length c)))
  clear h
  cases hin : inB l.length 1 6
  · go_enter Tryz.func49, Tryz.ntmps49
    go_wp2_with (first | (go_at_call 39; refine (in_any _ _ _ _).mono ?_; rintro e w' ⟨rfl, rfl⟩))
    go_ret
    exact ⟨ret_bool (by unfold tableOk; rw [hin]; rfl), by (repeat (first | with_reducible exact Mod.refl _ _ | with_reducible refine Mod.drewN ?_ _ | with_reducible refine Mod.drew ?_ | with_reducible refine Mod.alloc ?_ _ | ((with_reducible refine Mod.setNew ?_ ?_ _ _ _); (rotate_left; omega)) | with_reducible refine Mod.setAt ?_ _ _ _ ))⟩
  · go_enter Tryz.func49, Tryz.ntmps49
    go_wp2_with (first | (go_at_call 39; refine (in_any _ _ _ _).mono ?_; rintro e w' ⟨rfl, rfl⟩))
    go_loopw [13] (fun i wr => ∃ k : Nat, k ≤ l.length ∧ i = .int .i64 k ∧ AllIn ruleIn l k ∧ Mod (fun _ => False) (w.alloc (boxT a l.length c)) wr) (fun i _ => l.length - (intOf i).toNat)
    case atStart => exact ⟨0, by omega, rfl, rfl, Mod.refl _ _⟩
    case round =>
      obtain ⟨k, hk, rfl, hall, hM⟩ := hrel
      have hb0 : wr.cell? ⟨w.heap.size, 0, none⟩ = some (.slice a l.length c) := hM.keep _ _ (by simp [go_sem])
      have hsz := hM.size
      simp only [World.size_alloc] at hsz
      by_cases hlt : k < l.length
      · obtain ⟨b, o, x, r, rfl, hb, hbw, hx, hr, hrl, hc⟩ := (H.out.flatKeep hM).get hlt
        obtain rfl : r = x.cells := hr
        have c0 := hc 0 _ rfl
        have c1 := hc 1 _ rfl
        have c2 := hc 2 _ rfl
        simp only [Nat.add_zero] at c0
        clear hc hrl
        cases h1 : inB x.room (-1) 1048576 <;> cases h2 : inB x.wide 0 1048576 <;> cases h3 : inB x.high 0 1048576
        case true.true.true =>
          go_wp2_with (first | (go_at_call 39; refine (in_any _ _ _ _).mono ?_; rintro e w' ⟨rfl, rfl⟩))
          go_roundw
          case rel => exact ⟨k + 1, by omega, by go_num, hall.succ hx (by unfold ruleIn; rw [h1, h2, h3]; rfl), by (repeat (first | with_reducible exact Mod.refl _ _ | with_reducible refine Mod.drewN ?_ _ | with_reducible refine Mod.drew ?_ | with_reducible refine Mod.alloc ?_ _ | ((with_reducible refine Mod.setNew ?_ ?_ _ _ _); (rotate_left; omega)) | with_reducible refine Mod.setAt ?_ _ _ _ | with_reducible exact hM | with_reducible refine Mod.thenNone ?_ hM ))⟩
          case measure => simp [intOf]; omega
        all_goals
          go_wp2_with (first | (go_at_call 39; refine (in_any _ _ _ _).mono ?_; rintro e w' ⟨rfl, rfl⟩))
          go_ret
          exact ⟨ret_bool (by unfold tableOk; rw [hin, allIn_false hx (by unfold ruleIn; rw [h1, h2, h3]; rfl)]; rfl), by
            have hM0 : Mod (fun _ => False) w wr := ((Mod.refl _ w).alloc _).trans hM
            (repeat (first | with_reducible exact Mod.refl _ _ | with_reducible refine Mod.drewN ?_ _ | with_reducible refine Mod.drew ?_ | with_reducible refine Mod.alloc ?_ _ | ((with_reducible refine Mod.setNew ?_ ?_ _ _ _); (rotate_left; omega)) | with_reducible refine Mod.setAt ?_ _ _ _ | with_reducible exact hM0 | with_reducible refine Mod.thenNone ?_ hM0 ))⟩
      · have hk' : k = l.length := by omega
        subst hk'
        go_wp2
        go_ret
        exact ⟨ret_bool (by unfold tableOk; rw [hin, hall.full]; rfl), ((Mod.refl _ w).alloc _).trans hM⟩

set_option maxRecDepth 100000 in
set_option maxHeartbeats 2000000 in
theorem stableOk_any (l : List Rule) (a : Option Addr) (c : Nat) (R : Nat → Prop) (w : World) (hl : l.length ≤ 1048576) (h : SliceAt (Flat Rule.cells) 3 R w a l) :
    Calls Tryz.prog 67 #[.agg #[.slice a l.length c]] w fun e w' => e = .returned (.bool (tableOk l)) ∧ Mod (fun _ => False) w w' := by
  have H := hid (h.flatKeep ((Mod.refl _ w).alloc (boxT a l.length c)))
  clear h
  go_enter Tryz.func67, Tryz.ntmps67
  go_wp2_with (first | (go_at_call 90; refine (l01In_any _ _ _ _).mono ?_; rintro e w' ⟨rfl, rfl⟩))
  go_loopw [3] (fun i wr => ∃ k : Nat, k ≤ l.length ∧ i = .int .i64 k ∧ AllIn ruleIn l k ∧ Mod (fun _ => False) (w.alloc (boxT a l.length c)) wr) (fun i _ => l.length - (intOf i).toNat)
  case atStart => exact ⟨0, by omega, rfl, rfl, Mod.refl _ _⟩
  case round =>
    obtain ⟨k, hk, rfl, hall, hM⟩ := hrel
    have hb0 : wr.cell? ⟨w.heap.size, 0, none⟩ = some (.slice a l.length c) := hM.keep _ _ (by simp [go_sem])
    have hsz := hM.size
    simp only [World.size_alloc] at hsz
    by_cases hlt : k < l.length
    · obtain ⟨b, o, x, r, rfl, hb, hbw, hx, hr, hrl, hc⟩ := (H.out.flatKeep hM).get hlt
      obtain rfl : r = x.cells := hr
      have c0 := hc 0 _ rfl
      have c1 := hc 1 _ rfl
      have c2 := hc 2 _ rfl
      simp only [Nat.add_zero] at c0
      clear hc hrl
      cases h1 : inB x.room (-1) 1048576 <;> cases h2 : inB x.wide 0 1048576 <;> cases h3 : inB x.high 0 1048576
      case true.true.true =>
        go_wp2_with (first | (go_at_call 90; refine (l01In_any _ _ _ _).mono ?_; rintro e w' ⟨rfl, rfl⟩))
        go_roundw
        case rel => exact ⟨k + 1, by omega, by go_num, hall.succ hx (by unfold ruleIn; rw [h1, h2, h3]; rfl), by (repeat (first | with_reducible exact Mod.refl _ _ | with_reducible refine Mod.drewN ?_ _ | with_reducible refine Mod.drew ?_ | with_reducible refine Mod.alloc ?_ _ | ((with_reducible refine Mod.setNew ?_ ?_ _ _ _); (rotate_left; omega)) | with_reducible refine Mod.setAt ?_ _ _ _ | with_reducible exact hM | with_reducible refine Mod.thenNone ?_ hM ))⟩
        case measure => simp [intOf]; omega
      all_goals
        go_wp2_with (first | (go_at_call 90; refine (l01In_any _ _ _ _).mono ?_; rintro e w' ⟨rfl, rfl⟩))
        go_ret
        exact ⟨ret_bool (by unfold tableOk; rw [allIn_false hx (by unfold ruleIn; rw [h1, h2, h3]; rfl), Bool.and_false]), by
          have hM0 : Mod (fun _ => False) w wr := ((Mod.refl _ w).alloc _).trans hM
          (repeat (first | with_reducible exact Mod.refl _ _ | with_reducible refine Mod.drewN ?_ _ | with_reducible refine Mod.drew ?_ | with_reducible refine Mod.alloc ?_ _ | ((with_reducible refine Mod.setNew ?_ ?_ _ _ _); (rotate_left; omega)) | with_reducible refine Mod.setAt ?_ _ _ _ | with_reducible exact hM0 | with_reducible refine Mod.thenNone ?_ hM0 ))⟩
    · have hk' : k = l.length := by omega
      subst hk'
      go_wp2_with (first | (go_at_call 90; refine (l01In_any _ _ _ _).mono ?_; rintro e w' ⟨rfl, rfl⟩))
      go_ret
      exact ⟨ret_bool (by unfold tableOk; rw [hall.full, Bool.and_true]), ((Mod.refl _ w).alloc _).trans hM⟩

end Go.Proofs.YtkkjjhooamlljaaGreatDoor
namespace Go.Proofs.YtkkjjhooamlljaaGreatDoor
open Go.RowKit

theorem Rule.eq_iff (x y : Rule) : x = y ↔ x.room = y.room ∧ x.wide = y.wide ∧ x.high = y.high := by
  cases x; cases y; simp
theorem Rule.run_eq (x y : Rule) (w : World) : (Op.equalIn 10000 70 (.agg #[.int .i64 x.room, .int .i64 x.wide, .int .i64 x.high]) (.agg #[.int .i64 y.room, .int .i64 y.wide, .int .i64 y.high])).run Tryz.prog w = .ok (decide (x = y)) w := by
  rw [show decide (x = y) = decide (x.room = y.room ∧ x.wide = y.wide ∧ x.high = y.high) from decide_eq_decide.2 (Rule.eq_iff x y)]
  obtain ⟨x0, x1, x2⟩ := x
  obtain ⟨y0, y1, y2⟩ := y
  by_cases h0 : x0 = y0 <;> by_cases h1 : x1 = y1 <;> by_cases h2 : x2 = y2 <;> simp [go_sem, *]
@[go_sem high] theorem Rule.run_neq (x y : Rule) (w : World) : (binOp .neq 70 (.agg #[.int .i64 x.room, .int .i64 x.wide, .int .i64 x.high]) (.agg #[.int .i64 y.room, .int .i64 y.wide, .int .i64 y.high])).run Tryz.prog w = .ok (.bool (!decide (x = y))) w := by
  rw [run_neq_struct, Rule.run_eq]; rfl
@[go_sem high] theorem Rule.run_eql (x y : Rule) (w : World) : (binOp .eql 70 (.agg #[.int .i64 x.room, .int .i64 x.wide, .int .i64 x.high]) (.agg #[.int .i64 y.room, .int .i64 y.wide, .int .i64 y.high])).run Tryz.prog w = .ok (.bool (decide (x = y))) w := by
  rw [run_eql_struct, Rule.run_eq]; rfl

set_option maxRecDepth 100000 in
set_option maxHeartbeats 1000000 in
theorem implSameTable_any (l m : List Rule) (a a' : Option Addr) (c c' : Nat) (R S : Nat → Prop) (w : World) (hl : l.length ≤ 1048576) (_hm : m.length ≤ 1048576) (h : SliceAt (Flat Rule.cells) 3 R w a l) (h' : SliceAt (Flat Rule.cells) 3 S w a' m) :
    Calls Tryz.prog 84 #[.agg #[.slice a l.length c], .agg #[.slice a' m.length c']] w fun e w' => e = .returned (.bool (decide (l = m))) ∧ Mod (fun _ => False) w w' := by
  have hM : Mod (fun _ => False) w ((w.alloc (boxT a l.length c)).alloc (boxT a' m.length c')) := ((Mod.refl _ w).alloc _).alloc _
  have H := hid (h.flatKeep hM)
  have H' := hid (h'.flatKeep hM)
  clear h h'
  by_cases hlen : l.length = m.length
  · have hn0 : ((l.length : Int) != (m.length : Int)) = false := by simp [hlen]
    have hn1 : l.length ≤ m.length := by omega
    have hn2 : m.length ≤ l.length := by omega
    clear hlen
    go_enter Tryz.func84, Tryz.ntmps84
    go_wp2
    go_loopw [16] (fun i wr => ∃ k : Nat, k ≤ l.length ∧ i = .int .i64 k ∧ SameTo l m k ∧ Mod (fun _ => False) ((w.alloc (boxT a l.length c)).alloc (boxT a' m.length c')) wr) (fun i _ => l.length - (intOf i).toNat)
    case atStart => exact ⟨0, by omega, rfl, rfl, Mod.refl _ _⟩
    case round =>
      obtain ⟨k, hk, rfl, hsame, hmod⟩ := hrel
      have hb0 : wr.cell? ⟨w.heap.size, 0, none⟩ = some (.slice a l.length c) := hmod.keep _ _ (by simp [go_sem])
      have hb1 : wr.cell? ⟨w.heap.size + 1, 0, none⟩ = some (.slice a' m.length c') := hmod.keep _ _ (by simp [go_sem])
      by_cases hlt : k < l.length
      · obtain ⟨b, o, x, r, rfl, hb, hbw, hx, hr, hrl, hc⟩ := (H.out.flatKeep hmod).get hlt
        obtain rfl : r = x.cells := hr
        obtain ⟨b', o', y, r', rfl, hb', hbw', hy, hr', hrl', hd⟩ := (H'.out.flatKeep hmod).get (show k < m.length by omega)
        obtain rfl : r' = y.cells := hr'
        have hlt2 : k < m.length := by omega
        have c0 := hc 0 _ rfl
        have d0 := hd 0 _ rfl
        have c1 := hc 1 _ rfl
        have d1 := hd 1 _ rfl
        have c2 := hc 2 _ rfl
        have d2 := hd 2 _ rfl
        simp only [Nat.add_zero] at c0 d0
        clear hc hd hrl hrl'
        by_cases hxy : x = y
        · have hne : decide (x = y) = true := decide_eq_true hxy
          have Hxy := hid hxy
          clear hxy
          go_wp2
          go_quiet (fail)
          go_wp2
          go_roundw
          case rel => exact ⟨k + 1, by omega, by go_num, hsame.succ hx (Hxy.out ▸ hy), hmod.drewN _⟩
          case measure => simp [intOf]; omega
        · have hne : decide (x = y) = false := decide_eq_false hxy
          go_wp2
          go_quiet (fail)
          go_wp2
          go_ret
          exact ⟨ret_bool (decide_eq_false (ne_at hx hy hxy)).symm, hM.trans (hmod.drewN _)⟩
      · go_wp2
        go_ret
        exact ⟨ret_bool (decide_eq_true (hsame.all (by omega) (by omega))).symm, hM.trans hmod⟩
  · have hn0 : ((l.length : Int) != (m.length : Int)) = true := by simp; omega
    have hne : l ≠ m := fun h => hlen (by rw [h])
    clear hlen
    go_enter Tryz.func84, Tryz.ntmps84
    go_wp2
    go_ret
    exact ⟨ret_bool (decide_eq_false hne).symm, hM⟩

end Go.Proofs.YtkkjjhooamlljaaGreatDoor
namespace Go.Proofs.YtkkjjhooamlljaaGreatDoor
open Go.RowKit


end Go.Proofs.YtkkjjhooamlljaaGreatDoor
namespace Go.Proofs.YtkkjjhooamlljaaGreatDoor
open Go.RowKit

def ruleWord (r : Rule) : List UInt8 := Lib.itoa r.room ++ [58] ++ Lib.itoa r.wide ++ [58] ++ Lib.itoa r.high
def ruleTextOf (l : List Rule) : List UInt8 := if l.length = 0 then [45] else if tableOk l then Lib.join (l.map ruleWord) [44] else []
theorem ruleIn_bounds {r : Rule} (h : ruleIn r = true) : I64 r.room ∧ I64 r.wide ∧ I64 r.high := by
  unfold ruleIn inB at h
  simp only [Bool.and_eq_true, decide_eq_true_eq] at h
  obtain ⟨⟨⟨a, b⟩, c, d⟩, e, f⟩ := h
  exact ⟨⟨by omega, by omega⟩, ⟨by omega, by omega⟩, by omega, by omega⟩
theorem tableOk_parts {l : List Rule} (h : tableOk l = true) : l.length ≤ 6 ∧ ∀ r ∈ l, ruleIn r = true := by
  unfold tableOk inB at h
  simp only [Bool.and_eq_true, decide_eq_true_eq] at h
  exact ⟨by omega, List.all_eq_true.1 h.2⟩
theorem ruleWord_length {r : Rule} (h : ruleIn r = true) : (ruleWord r).length ≤ 65 := by
  obtain ⟨b0, b1, b2⟩ := ruleIn_bounds h
  have l0 := Lib.itoa_length_le _ b0.1 b0.2
  have l1 := Lib.itoa_length_le _ b1.1 b1.2
  have l2 := Lib.itoa_length_le _ b2.1 b2.2
  unfold ruleWord
  simp only [List.length_append, List.length_cons, List.length_nil]
  omega
theorem ruleTail_length {l : List Rule} (h : ∀ r ∈ l, ruleIn r = true) : (Lib.joinTail [44] (l.map ruleWord)).length ≤ l.length * 66 := by
  induction l with
  | nil => simp [Lib.joinTail]
  | cons x l ih =>
    have h1 := ih fun y hy => h y (List.mem_cons_of_mem _ hy)
    have h2 := ruleWord_length (h x List.mem_cons_self)
    unfold Lib.joinTail at h1 ⊢
    simp only [List.map_cons, List.flatten_cons, List.length_append, List.length_cons, List.length_nil] at h1 ⊢
    omega
theorem ruleJoin_length {l : List Rule} (h : ∀ r ∈ l, ruleIn r = true) : (Lib.join (l.map ruleWord) [44]).length ≤ l.length * 66 := by
  cases l with
  | nil => simp [Lib.join, List.intercalate]
  | cons x l =>
    have h1 := ruleTail_length fun y hy => h y (List.mem_cons_of_mem _ hy)
    have h2 := ruleWord_length (h x List.mem_cons_self)
    rw [List.map_cons, Lib.join_cons, List.length_append, List.length_cons]
    omega
theorem join_snoc {l : List (List UInt8)} (hl : l ≠ []) (x sep : List UInt8) : Lib.join (l ++ [x]) sep = Lib.join l sep ++ sep ++ x := by
  cases l with
  | nil => exact (hl rfl).elim
  | cons y l => simp [Lib.join_cons, Lib.joinTail]

set_option maxRecDepth 100000 in
set_option maxHeartbeats 4000000 in
theorem sruleText_any (l : List Rule) (a : Option Addr) (c : Nat) (R : Nat → Prop) (w : World) (hl : l.length ≤ 1048576) (h : SliceAt (Flat Rule.cells) 3 R w a l) :
    Calls Tryz.prog 21 #[.agg #[.slice a l.length c]] w fun e w' => e = .returned (.string ⟨(ruleTextOf l).toArray⟩) ∧ Mod (fun _ => False) w w' := by
  have H := hid (h.flatKeep ((Mod.refl _ w).alloc (boxT a l.length c)))
  clear h
  by_cases h0 : l.length = 0
  · have e : ruleTextOf l = [45] := by unfold ruleTextOf; rw [if_pos h0]
    rw [e, h0]
    clear e hl H h0
    go_enter Tryz.func21, Tryz.ntmps21
    go_wp2
    go_ret
    exact ⟨rfl, by (repeat (first | with_reducible exact Mod.refl _ _ | with_reducible refine Mod.drewN ?_ _ | with_reducible refine Mod.drew ?_ | with_reducible refine Mod.alloc ?_ _ | ((with_reducible refine Mod.setNew ?_ ?_ _ _ _); (rotate_left; omega)) | with_reducible refine Mod.setAt ?_ _ _ _ ))⟩
  · have hne : ((l.length : Int) == 0) = false := by simpa using h0
    have h1 : 1 ≤ l.length := by omega
    have hT := stableOk_any l a c _ _ hl H.out
    cases hok : tableOk l
    · have e : ruleTextOf l = [] := by unfold ruleTextOf; rw [if_neg h0, hok]; rfl
      rw [e]
      rw [hok] at hT
      clear e h0 hok
      go_enter Tryz.func21, Tryz.ntmps21
      go_wp2_with fail
      refine hT.mono ?_
      rintro e w1 ⟨rfl, hm1⟩
      clear hT
      go_wp2
      go_ret
      exact ⟨rfl, ((Mod.refl _ w).alloc _).thenNone hm1⟩
    · have e : ruleTextOf l = Lib.join (l.map ruleWord) [44] := by unfold ruleTextOf; rw [if_neg h0, hok]; rfl
      rw [e]
      rw [hok] at hT
      obtain ⟨hl6, hall⟩ := tableOk_parts hok
      have Hall := hid hall
      have hB := heap_alloc_new w (.cells [Value.slice a l.length c].toArray 26)
      clear e h0 hok hall
      go_enter Tryz.func21, Tryz.ntmps21
      go_wp2_with fail
      refine hT.mono ?_
      rintro e w1 ⟨rfl, hm1⟩
      have hM1 : Mod (fun _ => False) w w1 := ((Mod.refl _ w).alloc _).thenNone hm1
      have hB1 := hm1.blk hB (fun f => f)
      have H1 := hid (H.out.flatKeep hm1)
      have hr0 : w.heap.size < w1.heap.size := (Array.getElem?_eq_some_iff.1 hB1).1
      clear hT hB hm1 H
      go_wp2_with fail
      go_loopw [3, 4] (fun s i wr => ∃ (k : Nat) (t : List UInt8), k ≤ l.length ∧ i = .int .i64 k ∧ s = .string ⟨t.toArray⟩ ∧ Hid (t = Lib.join ((l.take k).map ruleWord) [44]) ∧ Mod (fun _ => False) w1 wr) (fun _ i _ => l.length - (intOf i).toNat)
      case atStart => exact ⟨0, [], by omega, rfl, rfl, rfl, Mod.refl _ _⟩
      case round =>
        obtain ⟨k, t, hk, rfl, rfl, hs, hM⟩ := hrel
        have hBr := hM.blk hB1 (fun f => f)
        have hr1 : w.heap.size < wr.heap.size := (Array.getElem?_eq_some_iff.1 hBr).1
        have sc0 := blk_cell hBr (j := 0) rfl
        have sz0 := blk_free hBr 0
        have ht400 : t.length ≤ 400 := by
          have := ruleJoin_length (l := l.take k) fun r hr => Hall.out r (List.mem_of_mem_take hr)
          rw [← hs.out] at this
          simp only [List.length_take] at this
          omega
        by_cases hlt : k < l.length
        · obtain ⟨b, o, x, r, rfl, hb, hbw, hx, hr, hrl, hc⟩ := (H1.out.flatKeep hM).get hlt
          obtain rfl : r = x.cells := hr
          have c0 := hc 0 _ rfl
          have c1 := hc 1 _ rfl
          have c2 := hc 2 _ rfl
          simp only [Nat.add_zero] at c0
          obtain ⟨b0, b1, b2⟩ := ruleIn_bounds (Hall.out x (List.mem_of_getElem? hx.out))
          have k0 := fun W => sdecimal_any x.room b0.1 b0.2 W
          have k1 := fun W => sdecimal_any x.wide b1.1 b1.2 W
          have k2 := fun W => sdecimal_any x.high b2.1 b2.2 W
          have l0 := Lib.itoa_length_le _ b0.1 b0.2
          have l1 := Lib.itoa_length_le _ b1.1 b1.2
          have l2 := Lib.itoa_length_le _ b2.1 b2.2
          have q0 := hold (W := wr) sc0
          have q1 := hold c0
          have q2 := hold c1
          have q3 := hold c2
          clear hc hrl b0 b1 b2 c0 c1 c2
          by_cases hk0 : k = 0
          · have hk1 : k ≤ 0 := by omega
            have Hk0 := hid hk0
            clear hk0
            go_wp2
            refine wp_region_mod_tail 27 (by kernel_rfl) (by kernel_rfl) (by kernel_rfl) ?_
            simp only [List.take_succ_cons, List.take_zero, List.drop_succ_cons, List.drop_zero]
            refine RM.const (v := ?_) (fun _ => rfl) (fun xq wq hSq => ?_) ?_; rotate_left; (focus (go_simp; (first | done | with_reducible rfl | ((split; (exfalso; omega)); with_reducible rfl)))); (try simp only [Act.put, List.setIfInBounds_toArray, List.set_cons_zero, List.set_cons_succ])
            refine RM.const (v := ?_) (fun _ => rfl) (fun xq wq hSq => ?_) ?_; rotate_left; (focus (go_simp; (first | done | with_reducible rfl | ((split; (exfalso; omega)); with_reducible rfl)))); (try simp only [Act.put, List.setIfInBounds_toArray, List.set_cons_zero, List.set_cons_succ])
            refine RM.const (v := ?_) (fun _ => rfl) (fun xq wq hSq => ?_) ?_; rotate_left; (focus (go_simp; (first | done | with_reducible rfl | ((split; (exfalso; omega)); with_reducible rfl)))); (try simp only [Act.put, List.setIfInBounds_toArray, List.set_cons_zero, List.set_cons_succ])
            refine RM.const (v := ?_) (fun _ => rfl) (fun xq wq hSq => ?_) ?_; rotate_left; (focus (go_simp; (first | done | with_reducible rfl | ((split; (exfalso; omega)); with_reducible rfl)))); (try simp only [Act.put, List.setIfInBounds_toArray, List.set_cons_zero, List.set_cons_succ])
            refine RM.const (v := ?_) (fun _ => rfl) (fun xq wq hSq => ?_) ?_; rotate_left; (focus (go_simp; (first | done | with_reducible rfl | ((split; (exfalso; omega)); with_reducible rfl)))); (try simp only [Act.put, List.setIfInBounds_toArray, List.set_cons_zero, List.set_cons_succ])
            refine RM.const (v := ?_) (fun _ => rfl) (fun xq wq hSq => ?_) ?_; rotate_left; (focus (go_simp; (first | done | with_reducible rfl | ((split; (exfalso; omega)); with_reducible rfl)))); (try simp only [Act.put, List.setIfInBounds_toArray, List.set_cons_zero, List.set_cons_succ])
            refine RM.const (v := ?_) (fun _ => rfl) (fun xq wq hSq => ?_) ?_; rotate_left; (focus (go_simp; (first | done | with_reducible rfl | ((split; (exfalso; omega)); with_reducible rfl)))); (try simp only [Act.put, List.setIfInBounds_toArray, List.set_cons_zero, List.set_cons_succ])
            refine RM.callc (v := ?_) (f := ?_) (args := ?_) (fun _ => rfl) (fun xq wq hSq => ?_) (fun wq hSq => ?_) ?_; rotate_left 3; (focus (go_simp; (refine ⟨?_, ?_⟩ <;> with_reducible rfl))); (focus (exact k0 _)); (try simp only [Act.put, List.setIfInBounds_toArray, List.set_cons_zero, List.set_cons_succ])
            refine RM.const (v := ?_) (fun _ => rfl) (fun xq wq hSq => ?_) ?_; rotate_left; (focus (go_simp; (first | done | with_reducible rfl | ((split; (exfalso; omega)); with_reducible rfl)))); (try simp only [Act.put, List.setIfInBounds_toArray, List.set_cons_zero, List.set_cons_succ])
            refine RM.const (v := ?_) (fun _ => rfl) (fun xq wq hSq => ?_) ?_; rotate_left; (focus (go_simp; (first | done | with_reducible rfl | ((split; (exfalso; omega)); with_reducible rfl)))); (try simp only [Act.put, List.setIfInBounds_toArray, List.set_cons_zero, List.set_cons_succ])
            refine RM.const (v := ?_) (fun _ => rfl) (fun xq wq hSq => ?_) ?_; rotate_left; (focus (go_simp; (first | done | with_reducible rfl | ((split; (exfalso; omega)); with_reducible rfl)))); (try simp only [Act.put, List.setIfInBounds_toArray, List.set_cons_zero, List.set_cons_succ])
            refine RM.const (v := ?_) (fun _ => rfl) (fun xq wq hSq => ?_) ?_; rotate_left; (focus (go_simp; (first | done | with_reducible rfl | ((split; (exfalso; omega)); with_reducible rfl)))); (try simp only [Act.put, List.setIfInBounds_toArray, List.set_cons_zero, List.set_cons_succ])
            refine RM.const (v := ?_) (fun _ => rfl) (fun xq wq hSq => ?_) ?_; rotate_left; (focus (go_simp; (first | done | with_reducible rfl | ((split; (exfalso; omega)); with_reducible rfl)))); (try simp only [Act.put, List.setIfInBounds_toArray, List.set_cons_zero, List.set_cons_succ])
            refine RM.const (v := ?_) (fun _ => rfl) (fun xq wq hSq => ?_) ?_; rotate_left; (focus (go_simp; (first | done | with_reducible rfl | ((split; (exfalso; omega)); with_reducible rfl)))); (try simp only [Act.put, List.setIfInBounds_toArray, List.set_cons_zero, List.set_cons_succ])
            refine RM.const (v := ?_) (fun _ => rfl) (fun xq wq hSq => ?_) ?_; rotate_left; (focus (go_simp; (first | done | with_reducible rfl | ((split; (exfalso; omega)); with_reducible rfl)))); (try simp only [Act.put, List.setIfInBounds_toArray, List.set_cons_zero, List.set_cons_succ])
            refine RM.const (v := ?_) (fun _ => rfl) (fun xq wq hSq => ?_) ?_; rotate_left; (focus (go_simp; (first | done | with_reducible rfl | ((split; (exfalso; omega)); with_reducible rfl)))); (try simp only [Act.put, List.setIfInBounds_toArray, List.set_cons_zero, List.set_cons_succ])
            refine RM.callc (v := ?_) (f := ?_) (args := ?_) (fun _ => rfl) (fun xq wq hSq => ?_) (fun wq hSq => ?_) ?_; rotate_left 3; (focus (go_simp; (refine ⟨?_, ?_⟩ <;> with_reducible rfl))); (focus (exact k1 _)); (try simp only [Act.put, List.setIfInBounds_toArray, List.set_cons_zero, List.set_cons_succ])
            refine RM.const (v := ?_) (fun _ => rfl) (fun xq wq hSq => ?_) ?_; rotate_left; (focus (go_simp; (first | done | with_reducible rfl | ((split; (exfalso; omega)); with_reducible rfl)))); (try simp only [Act.put, List.setIfInBounds_toArray, List.set_cons_zero, List.set_cons_succ])
            refine RM.const (v := ?_) (fun _ => rfl) (fun xq wq hSq => ?_) ?_; rotate_left; (focus (go_simp; (first | done | with_reducible rfl | ((split; (exfalso; omega)); with_reducible rfl)))); (try simp only [Act.put, List.setIfInBounds_toArray, List.set_cons_zero, List.set_cons_succ])
            refine RM.const (v := ?_) (fun _ => rfl) (fun xq wq hSq => ?_) ?_; rotate_left; (focus (go_simp; (first | done | with_reducible rfl | ((split; (exfalso; omega)); with_reducible rfl)))); (try simp only [Act.put, List.setIfInBounds_toArray, List.set_cons_zero, List.set_cons_succ])
            refine RM.const (v := ?_) (fun _ => rfl) (fun xq wq hSq => ?_) ?_; rotate_left; (focus (go_simp; (first | done | with_reducible rfl | ((split; (exfalso; omega)); with_reducible rfl)))); (try simp only [Act.put, List.setIfInBounds_toArray, List.set_cons_zero, List.set_cons_succ])
            refine RM.const (v := ?_) (fun _ => rfl) (fun xq wq hSq => ?_) ?_; rotate_left; (focus (go_simp; (first | done | with_reducible rfl | ((split; (exfalso; omega)); with_reducible rfl)))); (try simp only [Act.put, List.setIfInBounds_toArray, List.set_cons_zero, List.set_cons_succ])
            refine RM.const (v := ?_) (fun _ => rfl) (fun xq wq hSq => ?_) ?_; rotate_left; (focus (go_simp; (first | done | with_reducible rfl | ((split; (exfalso; omega)); with_reducible rfl)))); (try simp only [Act.put, List.setIfInBounds_toArray, List.set_cons_zero, List.set_cons_succ])
            refine RM.const (v := ?_) (fun _ => rfl) (fun xq wq hSq => ?_) ?_; rotate_left; (focus (go_simp; (first | done | with_reducible rfl | ((split; (exfalso; omega)); with_reducible rfl)))); (try simp only [Act.put, List.setIfInBounds_toArray, List.set_cons_zero, List.set_cons_succ])
            refine RM.const (v := ?_) (fun _ => rfl) (fun xq wq hSq => ?_) ?_; rotate_left; (focus (go_simp; (first | done | with_reducible rfl | ((split; (exfalso; omega)); with_reducible rfl)))); (try simp only [Act.put, List.setIfInBounds_toArray, List.set_cons_zero, List.set_cons_succ])
            refine RM.callc (v := ?_) (f := ?_) (args := ?_) (fun _ => rfl) (fun xq wq hSq => ?_) (fun wq hSq => ?_) ?_; rotate_left 3; (focus (go_simp; (refine ⟨?_, ?_⟩ <;> with_reducible rfl))); (focus (exact k2 _)); (try simp only [Act.put, List.setIfInBounds_toArray, List.set_cons_zero, List.set_cons_succ])
            refine RM.const (v := ?_) (fun _ => rfl) (fun xq wq hSq => ?_) ?_; rotate_left; (focus (go_simp; (first | done | with_reducible rfl | ((split; (exfalso; omega)); with_reducible rfl)))); (try simp only [Act.put, List.setIfInBounds_toArray, List.set_cons_zero, List.set_cons_succ])
            refine RM.done (fun xq wq hSq hUq => ?_)
            clear q0 q1 q2 q3
            go_wp2
            go_roundw
            case rel =>
              refine ⟨k + 1, t ++ ruleWord x, by omega, by go_num, ?_, ?_, hM.thenNone hSq⟩
              · simp only [ByteArray.mk_append_mk, ruleWord]
                simp [List.append_assoc]
              · have hk0 := Hk0.out
                subst hk0
                rw [hs.out, List.take_add_one, hx.out]
                simp [Lib.join_one, Lib.join_nil, Hid]
            case measure => simp [intOf]; omega
          · have hk1 : 1 ≤ k := by omega
            go_wp2
            refine wp_region_mod_tail 27 (by kernel_rfl) (by kernel_rfl) (by kernel_rfl) ?_
            simp only [List.take_succ_cons, List.take_zero, List.drop_succ_cons, List.drop_zero]
            refine RM.const (v := ?_) (fun _ => rfl) (fun xq wq hSq => ?_) ?_; rotate_left; (focus (go_simp; (first | done | with_reducible rfl | ((split; (exfalso; omega)); with_reducible rfl)))); (try simp only [Act.put, List.setIfInBounds_toArray, List.set_cons_zero, List.set_cons_succ])
            refine RM.const (v := ?_) (fun _ => rfl) (fun xq wq hSq => ?_) ?_; rotate_left; (focus (go_simp; (first | done | with_reducible rfl | ((split; (exfalso; omega)); with_reducible rfl)))); (try simp only [Act.put, List.setIfInBounds_toArray, List.set_cons_zero, List.set_cons_succ])
            refine RM.const (v := ?_) (fun _ => rfl) (fun xq wq hSq => ?_) ?_; rotate_left; (focus (go_simp; (first | done | with_reducible rfl | ((split; (exfalso; omega)); with_reducible rfl)))); (try simp only [Act.put, List.setIfInBounds_toArray, List.set_cons_zero, List.set_cons_succ])
            refine RM.const (v := ?_) (fun _ => rfl) (fun xq wq hSq => ?_) ?_; rotate_left; (focus (go_simp; (first | done | with_reducible rfl | ((split; (exfalso; omega)); with_reducible rfl)))); (try simp only [Act.put, List.setIfInBounds_toArray, List.set_cons_zero, List.set_cons_succ])
            refine RM.const (v := ?_) (fun _ => rfl) (fun xq wq hSq => ?_) ?_; rotate_left; (focus (go_simp; (first | done | with_reducible rfl | ((split; (exfalso; omega)); with_reducible rfl)))); (try simp only [Act.put, List.setIfInBounds_toArray, List.set_cons_zero, List.set_cons_succ])
            refine RM.const (v := ?_) (fun _ => rfl) (fun xq wq hSq => ?_) ?_; rotate_left; (focus (go_simp; (first | done | with_reducible rfl | ((split; (exfalso; omega)); with_reducible rfl)))); (try simp only [Act.put, List.setIfInBounds_toArray, List.set_cons_zero, List.set_cons_succ])
            refine RM.const (v := ?_) (fun _ => rfl) (fun xq wq hSq => ?_) ?_; rotate_left; (focus (go_simp; (first | done | with_reducible rfl | ((split; (exfalso; omega)); with_reducible rfl)))); (try simp only [Act.put, List.setIfInBounds_toArray, List.set_cons_zero, List.set_cons_succ])
            refine RM.callc (v := ?_) (f := ?_) (args := ?_) (fun _ => rfl) (fun xq wq hSq => ?_) (fun wq hSq => ?_) ?_; rotate_left 3; (focus (go_simp; (refine ⟨?_, ?_⟩ <;> with_reducible rfl))); (focus (exact k0 _)); (try simp only [Act.put, List.setIfInBounds_toArray, List.set_cons_zero, List.set_cons_succ])
            refine RM.const (v := ?_) (fun _ => rfl) (fun xq wq hSq => ?_) ?_; rotate_left; (focus (go_simp; (first | done | with_reducible rfl | ((split; (exfalso; omega)); with_reducible rfl)))); (try simp only [Act.put, List.setIfInBounds_toArray, List.set_cons_zero, List.set_cons_succ])
            refine RM.const (v := ?_) (fun _ => rfl) (fun xq wq hSq => ?_) ?_; rotate_left; (focus (go_simp; (first | done | with_reducible rfl | ((split; (exfalso; omega)); with_reducible rfl)))); (try simp only [Act.put, List.setIfInBounds_toArray, List.set_cons_zero, List.set_cons_succ])
            refine RM.const (v := ?_) (fun _ => rfl) (fun xq wq hSq => ?_) ?_; rotate_left; (focus (go_simp; (first | done | with_reducible rfl | ((split; (exfalso; omega)); with_reducible rfl)))); (try simp only [Act.put, List.setIfInBounds_toArray, List.set_cons_zero, List.set_cons_succ])
            refine RM.const (v := ?_) (fun _ => rfl) (fun xq wq hSq => ?_) ?_; rotate_left; (focus (go_simp; (first | done | with_reducible rfl | ((split; (exfalso; omega)); with_reducible rfl)))); (try simp only [Act.put, List.setIfInBounds_toArray, List.set_cons_zero, List.set_cons_succ])
            refine RM.const (v := ?_) (fun _ => rfl) (fun xq wq hSq => ?_) ?_; rotate_left; (focus (go_simp; (first | done | with_reducible rfl | ((split; (exfalso; omega)); with_reducible rfl)))); (try simp only [Act.put, List.setIfInBounds_toArray, List.set_cons_zero, List.set_cons_succ])
            refine RM.const (v := ?_) (fun _ => rfl) (fun xq wq hSq => ?_) ?_; rotate_left; (focus (go_simp; (first | done | with_reducible rfl | ((split; (exfalso; omega)); with_reducible rfl)))); (try simp only [Act.put, List.setIfInBounds_toArray, List.set_cons_zero, List.set_cons_succ])
            refine RM.const (v := ?_) (fun _ => rfl) (fun xq wq hSq => ?_) ?_; rotate_left; (focus (go_simp; (first | done | with_reducible rfl | ((split; (exfalso; omega)); with_reducible rfl)))); (try simp only [Act.put, List.setIfInBounds_toArray, List.set_cons_zero, List.set_cons_succ])
            refine RM.const (v := ?_) (fun _ => rfl) (fun xq wq hSq => ?_) ?_; rotate_left; (focus (go_simp; (first | done | with_reducible rfl | ((split; (exfalso; omega)); with_reducible rfl)))); (try simp only [Act.put, List.setIfInBounds_toArray, List.set_cons_zero, List.set_cons_succ])
            refine RM.callc (v := ?_) (f := ?_) (args := ?_) (fun _ => rfl) (fun xq wq hSq => ?_) (fun wq hSq => ?_) ?_; rotate_left 3; (focus (go_simp; (refine ⟨?_, ?_⟩ <;> with_reducible rfl))); (focus (exact k1 _)); (try simp only [Act.put, List.setIfInBounds_toArray, List.set_cons_zero, List.set_cons_succ])
            refine RM.const (v := ?_) (fun _ => rfl) (fun xq wq hSq => ?_) ?_; rotate_left; (focus (go_simp; (first | done | with_reducible rfl | ((split; (exfalso; omega)); with_reducible rfl)))); (try simp only [Act.put, List.setIfInBounds_toArray, List.set_cons_zero, List.set_cons_succ])
            refine RM.const (v := ?_) (fun _ => rfl) (fun xq wq hSq => ?_) ?_; rotate_left; (focus (go_simp; (first | done | with_reducible rfl | ((split; (exfalso; omega)); with_reducible rfl)))); (try simp only [Act.put, List.setIfInBounds_toArray, List.set_cons_zero, List.set_cons_succ])
            refine RM.const (v := ?_) (fun _ => rfl) (fun xq wq hSq => ?_) ?_; rotate_left; (focus (go_simp; (first | done | with_reducible rfl | ((split; (exfalso; omega)); with_reducible rfl)))); (try simp only [Act.put, List.setIfInBounds_toArray, List.set_cons_zero, List.set_cons_succ])
            refine RM.const (v := ?_) (fun _ => rfl) (fun xq wq hSq => ?_) ?_; rotate_left; (focus (go_simp; (first | done | with_reducible rfl | ((split; (exfalso; omega)); with_reducible rfl)))); (try simp only [Act.put, List.setIfInBounds_toArray, List.set_cons_zero, List.set_cons_succ])
            refine RM.const (v := ?_) (fun _ => rfl) (fun xq wq hSq => ?_) ?_; rotate_left; (focus (go_simp; (first | done | with_reducible rfl | ((split; (exfalso; omega)); with_reducible rfl)))); (try simp only [Act.put, List.setIfInBounds_toArray, List.set_cons_zero, List.set_cons_succ])
            refine RM.const (v := ?_) (fun _ => rfl) (fun xq wq hSq => ?_) ?_; rotate_left; (focus (go_simp; (first | done | with_reducible rfl | ((split; (exfalso; omega)); with_reducible rfl)))); (try simp only [Act.put, List.setIfInBounds_toArray, List.set_cons_zero, List.set_cons_succ])
            refine RM.const (v := ?_) (fun _ => rfl) (fun xq wq hSq => ?_) ?_; rotate_left; (focus (go_simp; (first | done | with_reducible rfl | ((split; (exfalso; omega)); with_reducible rfl)))); (try simp only [Act.put, List.setIfInBounds_toArray, List.set_cons_zero, List.set_cons_succ])
            refine RM.const (v := ?_) (fun _ => rfl) (fun xq wq hSq => ?_) ?_; rotate_left; (focus (go_simp; (first | done | with_reducible rfl | ((split; (exfalso; omega)); with_reducible rfl)))); (try simp only [Act.put, List.setIfInBounds_toArray, List.set_cons_zero, List.set_cons_succ])
            refine RM.callc (v := ?_) (f := ?_) (args := ?_) (fun _ => rfl) (fun xq wq hSq => ?_) (fun wq hSq => ?_) ?_; rotate_left 3; (focus (go_simp; (refine ⟨?_, ?_⟩ <;> with_reducible rfl))); (focus (exact k2 _)); (try simp only [Act.put, List.setIfInBounds_toArray, List.set_cons_zero, List.set_cons_succ])
            refine RM.const (v := ?_) (fun _ => rfl) (fun xq wq hSq => ?_) ?_; rotate_left; (focus (go_simp; (first | done | with_reducible rfl | ((split; (exfalso; omega)); with_reducible rfl)))); (try simp only [Act.put, List.setIfInBounds_toArray, List.set_cons_zero, List.set_cons_succ])
            refine RM.done (fun xq wq hSq hUq => ?_)
            clear q0 q1 q2 q3
            go_wp2
            go_roundw
            case rel =>
              refine ⟨k + 1, t ++ [44] ++ ruleWord x, by omega, by go_num, ?_, ?_, hM.thenNone hSq⟩
              · simp only [ByteArray.mk_append_mk, ruleWord]
                simp [List.append_assoc]
              · have hne : (l.take k).map ruleWord ≠ [] := by
                  intro h
                  have := congrArg List.length h
                  simp only [List.length_map, List.length_take, List.length_nil] at this
                  omega
                have := join_snoc hne (ruleWord x) [44]
                rw [List.take_add_one, hx.out, List.map_append]
                show _ = Lib.join ((l.take k).map ruleWord ++ [ruleWord x]) [44]
                rw [this, hs.out]
            case measure => simp [intOf]; omega
        · obtain rfl : k = l.length := by omega
          have hs' := hs.out
          rw [List.take_length] at hs'
          have Hs := hid hs'
          clear hs hs'
          go_wp2
          go_ret
          exact ⟨ret_string Hs.out, hM1.thenNone hM⟩

theorem ruleTail_join {w : World} {base n c : Nat} {a : Option Addr} {l : List Rule} (h : w.ownsRow base 9 1 (.slice a n c) n ((l.map ruleWord).map tcell).flatten) (hn : n = l.length) (hl : l.length ≤ 6) (hall : ∀ r ∈ l, ruleIn r = true) :
    Calls Tryz.prog 30 #[.slice a n c, .string ⟨#[44]⟩] w fun e w' => e = .returned (.string ⟨(Lib.join (l.map ruleWord) [44]).toArray⟩) ∧ Mod (fun _ => False) w w' :=
  join_own [44] h (by rw [List.length_map]; exact hn) (by rw [List.length_map]; omega) (by have := ruleJoin_length hall; omega)

set_option maxRecDepth 100000 in
set_option maxHeartbeats 4000000 in
theorem ruleText_any (l : List Rule) (a : Option Addr) (c : Nat) (R : Nat → Prop) (w : World) (hl : l.length ≤ 1048576) (h : SliceAt (Flat Rule.cells) 3 R w a l) (ht : Tab w) :
    Calls Tryz.prog 14 #[.agg #[.slice a l.length c]] w fun e w' => e = .returned (.string ⟨(ruleTextOf l).toArray⟩) ∧ Mod (fun _ => False) w w' := by
  have H := hid (h.flatKeep ((Mod.refl _ w).alloc (boxT a l.length c)))
  have Ht := hid ht
  clear h ht
  by_cases h0 : l.length = 0
  · have e : ruleTextOf l = [45] := by unfold ruleTextOf; rw [if_pos h0]
    rw [e, h0]
    clear e hl H h0
    go_enter Tryz.func14, Tryz.ntmps14
    go_wp2
    go_ret
    exact ⟨rfl, by (repeat (first | with_reducible exact Mod.refl _ _ | with_reducible refine Mod.drewN ?_ _ | with_reducible refine Mod.drew ?_ | with_reducible refine Mod.alloc ?_ _ | ((with_reducible refine Mod.setNew ?_ ?_ _ _ _); (rotate_left; omega)) | with_reducible refine Mod.setAt ?_ _ _ _ ))⟩
  · have hne : ((l.length : Int) == 0) = false := by simpa using h0
    have h1 : 1 ≤ l.length := by omega
    have hT := tableOk_any l a c _ _ hl H.out
    cases hok : tableOk l
    · have e : ruleTextOf l = [] := by unfold ruleTextOf; rw [if_neg h0, hok]; rfl
      rw [e]
      rw [hok] at hT
      clear e h0 hok
      go_enter Tryz.func14, Tryz.ntmps14
      go_wp2_with fail
      refine hT.mono ?_
      rintro e w1 ⟨rfl, hm1⟩
      clear hT
      go_wp2
      go_ret
      exact ⟨rfl, ((Mod.refl _ w).alloc _).thenNone hm1⟩
    · have e : ruleTextOf l = Lib.join (l.map ruleWord) [44] := by unfold ruleTextOf; rw [if_neg h0, hok]; rfl
      rw [e]
      rw [hok] at hT
      obtain ⟨hl6, hall⟩ := tableOk_parts hok
      have Hall := hid hall
      have hB := heap_alloc_new w (.cells [Value.slice a l.length c].toArray 26)
      obtain ⟨i0, hi, hz0, hz1, hz2⟩ := info_parts info_string
      have Hi := hid hi
      have Hz0 := hid hz0
      have Hz1 := hid hz1
      have Hz2 := hid hz2
      clear hi hz0 hz1 hz2
      clear e h0 hok hall
      go_enter Tryz.func14, Tryz.ntmps14
      go_wp2_with fail
      refine hT.mono ?_
      rintro e w1 ⟨rfl, hm1⟩
      have hM1 : Mod (fun _ => False) w w1 := ((Mod.refl _ w).alloc _).thenNone hm1
      have hB1 := hm1.blk hB (fun f => f)
      have H1 := hid (H.out.flatKeep hm1)
      have hr0 : w.heap.size < w1.heap.size := (Array.getElem?_eq_some_iff.1 hB1).1
      have Ht1 := hid (Ht.out.keep hM1)
      clear hT hB hm1 H Ht
      have sc0 := blk_cell hB1 (j := 0) rfl
      have sz0 := blk_free hB1 0
      go_wp2_with fail
      go_loopw [3, 16] (fun v i wr => ∃ (k : Nat) (a' : Option Addr) (c' : Nat), k ≤ l.length ∧ i = .int .i64 k ∧ v = .slice a' ((l.take k).map ruleWord).length c' ∧ wr.ownsRow w1.heap.size 9 1 (.slice a' ((l.take k).map ruleWord).length c') ((l.take k).map ruleWord).length (((l.take k).map ruleWord).map tcell).flatten ∧ Mod (fun _ => False) w1 wr) (fun _ i _ => l.length - (intOf i).toNat)
      case atStart => exact ⟨0, none, 0, by omega, rfl, rfl, World.ownsRow_nil _ _ _ _, Mod.refl _ _⟩
      case round =>
        obtain ⟨k, a', c', hk, rfl, rfl, hO, hM⟩ := hrel
        have hBr := hM.blk hB1 (fun f => f)
        have hr1 : w.heap.size < wr.heap.size := (Array.getElem?_eq_some_iff.1 hBr).1
        have sc0 := blk_cell hBr (j := 0) rfl
        have sz0 := blk_free hBr 0
        have hFl : ((l.take k).map ruleWord).length ≤ k := by rw [List.length_map, List.length_take]; omega
        by_cases hlt : k < l.length
        · obtain ⟨b, o, x, r, rfl, hb, hbw, hx, hr, hrl, hc⟩ := (H1.out.flatKeep hM).get hlt
          obtain rfl : r = x.cells := hr
          have c0 := hc 0 _ rfl
          have c1 := hc 1 _ rfl
          have c2 := hc 2 _ rfl
          simp only [Nat.add_zero] at c0
          obtain ⟨b0, b1, b2⟩ := ruleIn_bounds (Hall.out x (List.mem_of_getElem? hx.out))
          have Ht2 := hid (Ht1.out.keep (hM.alloc (.cells #[.int .i64 x.room, .int .i64 x.wide, .int .i64 x.high] 70)))
          have k0 := fun W hk => decimal_any x.room b0 W (Ht2.out.keep hk)
          have k1 := fun W hk => decimal_any x.wide b1 W (Ht2.out.keep hk)
          have k2 := fun W hk => decimal_any x.high b2 W (Ht2.out.keep hk)
          have l0 := Lib.itoa_length_le _ b0.1 b0.2
          have l1 := Lib.itoa_length_le _ b1.1 b1.2
          have l2 := Lib.itoa_length_le _ b2.1 b2.2
          have He : Hid ((l.take (k + 1)).map ruleWord = (l.take k).map ruleWord ++ [ruleWord x]) := by
            rw [List.take_add_one, hx.out, List.map_append]
            exact hid rfl
          have hX := heap_alloc_new wr (.cells [Value.int .i64 x.room, Value.int .i64 x.wide, Value.int .i64 x.high].toArray 70)
          have q1 := hold (blk_cell hX (j := 0) rfl)
          have q2 := hold (blk_cell hX (j := 1) rfl)
          have q3 := hold (blk_cell hX (j := 2) rfl)
          have hO' := own_mod hO ((Mod.refl (fun _ => False) wr).alloc (.cells #[.int .i64 x.room, .int .i64 x.wide, .int .i64 x.high] 70)) (fun _ _ f => f)
          generalize (l.take k).map ruleWord = F at He hFl hO hO' ⊢
          have h3 : F.length + 1 ≤ maxLen := by unfold maxLen; omega
          have h4 : (F.length + 1) * 16 ≤ 140737488355328 := by omega
          clear hc hrl b0 b1 b2 hX
          go_wp2
          clear c0 c1 c2
          refine wp_region_mod_tail 15 (by kernel_rfl) (by kernel_rfl) (by kernel_rfl) ?_
          simp only [List.take_succ_cons, List.take_zero, List.drop_succ_cons, List.drop_zero]
          refine RM.const (v := ?_) (fun _ => rfl) (fun xq wq hSq => ?_) ?_; rotate_left; (focus (go_simp; (first | done | with_reducible rfl | ((split; (exfalso; omega)); with_reducible rfl)))); (try simp only [Act.put, List.setIfInBounds_toArray, List.set_cons_zero, List.set_cons_succ])
          refine RM.const (v := ?_) (fun _ => rfl) (fun xq wq hSq => ?_) ?_; rotate_left; (focus (go_simp; (first | done | with_reducible rfl | ((split; (exfalso; omega)); with_reducible rfl)))); (try simp only [Act.put, List.setIfInBounds_toArray, List.set_cons_zero, List.set_cons_succ])
          refine RM.const (v := ?_) (fun _ => rfl) (fun xq wq hSq => ?_) ?_; rotate_left; (focus (go_simp; (first | done | with_reducible rfl | ((split; (exfalso; omega)); with_reducible rfl)))); (try simp only [Act.put, List.setIfInBounds_toArray, List.set_cons_zero, List.set_cons_succ])
          refine RM.callc (v := ?_) (f := ?_) (args := ?_) (fun _ => rfl) (fun xq wq hSq => ?_) (fun wq hSq => ?_) ?_; rotate_left 3; (focus (go_simp; (refine ⟨?_, ?_⟩ <;> with_reducible rfl))); (focus (exact k0 _ hSq)); (try simp only [Act.put, List.setIfInBounds_toArray, List.set_cons_zero, List.set_cons_succ])
          refine RM.const (v := ?_) (fun _ => rfl) (fun xq wq hSq => ?_) ?_; rotate_left; (focus (go_simp; (first | done | with_reducible rfl | ((split; (exfalso; omega)); with_reducible rfl)))); (try simp only [Act.put, List.setIfInBounds_toArray, List.set_cons_zero, List.set_cons_succ])
          refine RM.const (v := ?_) (fun _ => rfl) (fun xq wq hSq => ?_) ?_; rotate_left; (focus (go_simp; (first | done | with_reducible rfl | ((split; (exfalso; omega)); with_reducible rfl)))); (try simp only [Act.put, List.setIfInBounds_toArray, List.set_cons_zero, List.set_cons_succ])
          refine RM.const (v := ?_) (fun _ => rfl) (fun xq wq hSq => ?_) ?_; rotate_left; (focus (go_simp; (first | done | with_reducible rfl | ((split; (exfalso; omega)); with_reducible rfl)))); (try simp only [Act.put, List.setIfInBounds_toArray, List.set_cons_zero, List.set_cons_succ])
          refine RM.callc (v := ?_) (f := ?_) (args := ?_) (fun _ => rfl) (fun xq wq hSq => ?_) (fun wq hSq => ?_) ?_; rotate_left 3; (focus (go_simp; (refine ⟨?_, ?_⟩ <;> with_reducible rfl))); (focus (exact k1 _ hSq)); (try simp only [Act.put, List.setIfInBounds_toArray, List.set_cons_zero, List.set_cons_succ])
          refine RM.const (v := ?_) (fun _ => rfl) (fun xq wq hSq => ?_) ?_; rotate_left; (focus (go_simp; (first | done | with_reducible rfl | ((split; (exfalso; omega)); with_reducible rfl)))); (try simp only [Act.put, List.setIfInBounds_toArray, List.set_cons_zero, List.set_cons_succ])
          refine RM.const (v := ?_) (fun _ => rfl) (fun xq wq hSq => ?_) ?_; rotate_left; (focus (go_simp; (first | done | with_reducible rfl | ((split; (exfalso; omega)); with_reducible rfl)))); (try simp only [Act.put, List.setIfInBounds_toArray, List.set_cons_zero, List.set_cons_succ])
          refine RM.const (v := ?_) (fun _ => rfl) (fun xq wq hSq => ?_) ?_; rotate_left; (focus (go_simp; (first | done | with_reducible rfl | ((split; (exfalso; omega)); with_reducible rfl)))); (try simp only [Act.put, List.setIfInBounds_toArray, List.set_cons_zero, List.set_cons_succ])
          refine RM.const (v := ?_) (fun _ => rfl) (fun xq wq hSq => ?_) ?_; rotate_left; (focus (go_simp; (first | done | with_reducible rfl | ((split; (exfalso; omega)); with_reducible rfl)))); (try simp only [Act.put, List.setIfInBounds_toArray, List.set_cons_zero, List.set_cons_succ])
          refine RM.callc (v := ?_) (f := ?_) (args := ?_) (fun _ => rfl) (fun xq wq hSq => ?_) (fun wq hSq => ?_) ?_; rotate_left 3; (focus (go_simp; (refine ⟨?_, ?_⟩ <;> with_reducible rfl))); (focus (exact k2 _ hSq)); (try simp only [Act.put, List.setIfInBounds_toArray, List.set_cons_zero, List.set_cons_succ])
          refine RM.const (v := ?_) (fun _ => rfl) (fun xq wq hSq => ?_) ?_; rotate_left; (focus (go_simp; (first | done | with_reducible rfl | ((split; (exfalso; omega)); with_reducible rfl)))); (try simp only [Act.put, List.setIfInBounds_toArray, List.set_cons_zero, List.set_cons_succ])
          refine RM.lit (n := ?_) (vals := ?_) (e := ?_) (fun _ => rfl) (fun xq wq hSq => ?_) ?_; rotate_left 3; (focus (go_simp; (first | done | with_reducible rfl | (refine ⟨?_, ?_⟩ <;> with_reducible rfl)))); (try simp only [Act.put, List.setIfInBounds_toArray, List.set_cons_zero, List.set_cons_succ])
          refine RM.done (fun xq wq hSq hUq => ?_)
          clear q1 q2 q3 k0 k1 k2
          obtain ⟨g, hv, hg0, hg1, hcl⟩ := (hUq _ List.mem_cons_self).cells
          clear hUq
          simp only at hv
          have hO2 := own_mod hO' hSq (fun _ _ f => f)
          have hM2 : Mod (fun _ => False) w1 wq := (hM.alloc _).thenNone hSq
          have hroom : w1.heap.size ≤ wq.heap.size := hM2.size
          have hw' : ((⟨(Lib.itoa x.room).toArray⟩ : ByteArray) ++ ⟨#[58]⟩ ++ ⟨(Lib.itoa x.wide).toArray⟩ ++ ⟨#[58]⟩ ++ ⟨(Lib.itoa x.high).toArray⟩) = ⟨(ruleWord x).toArray⟩ := by
            simp only [ByteArray.mk_append_mk]
            rfl
          simp only [hv, hw'] at hcl ⊢
          clear hO hO' hSq l0 l1 l2 hw' hv hg0 hg1
          go_wp2_with (first | (at_builtin; refine wpList_append_own _ rfl _ _ 44 rfl w1.heap.size 9 i0 _ 1 16 Tryz.underlying44 Hi.out Hz0.out Hz1.out Hz2.out rfl (by decide) _ _ _ rfl hO2 ⟨g, 0, none⟩ 1 1 [.string ⟨(ruleWord x).toArray⟩] rfl rfl hcl (ones_of rfl) h3 h4 hroom ?_))
          intro v' w9 hown1 hgrow _
          obtain ⟨a1, c1', hv⟩ := own_form hown1
          rw [hv] at hown1 ⊢
          have hM3 := hM2.appendedAt hO2 (Nat.le_refl _) hgrow
          clear hv hgrow h3 h4
          go_wp2
          go_roundw
          case rel =>
            refine ⟨k + 1, a1, c1', by omega, by go_num, ?_, ?_, hM3⟩
            · rw [He.out, List.length_append]; rfl
            · rw [He.out, List.length_append, List.map_append, List.flatten_append]
              simpa [tcell] using hown1
          case measure => simp [intOf]; omega
        · obtain rfl : k = l.length := by omega
          rw [List.take_length] at hO ⊢
          have hj := ruleTail_join hO (by simp) hl6 Hall.out
          obtain ⟨T, hT⟩ : ∃ T, T = Lib.join (l.map ruleWord) [44] := ⟨_, rfl⟩
          have HT := hid hT
          rw [← hT] at hj
          have hj := hid hj
          clear hT
          generalize l.map ruleWord = F at hj hFl hO ⊢
          clear hO hFl
          go_wp2_with fail
          refine hj.out.mono ?_
          rintro e w9 ⟨rfl, hm9⟩
          clear hj
          go_wp2
          go_ret
          exact ⟨ret_string HT.out, (hM1.thenNone hM).thenNone hm9⟩

end Go.Proofs.YtkkjjhooamlljaaGreatDoor
namespace Go.Proofs.YtkkjjhooamlljaaGreatDoor
open Go.RowKit

set_option maxHeartbeats 1000000 in
theorem eqValue_any (x y : Val) (w : World) : Calls Tryz.prog 31 #[.agg #[.int .i64 x.kind, .int .i64 x.n], .agg #[.int .i64 y.kind, .int .i64 y.n]] w fun e w' => e = .returned (.bool (decide (x = y))) ∧ Mod (fun _ => False) w w' := by
  obtain ⟨x0, x1⟩ := x
  obtain ⟨y0, y1⟩ := y
  go_enter Tryz.func31, Tryz.ntmps31
  go_wp2
  all_goals
    go_ret
    refine ⟨ret_bool ?_, by (repeat (first | with_reducible exact Mod.refl _ _ | with_reducible refine Mod.drewN ?_ _ | with_reducible refine Mod.drew ?_ | with_reducible refine Mod.alloc ?_ _ | ((with_reducible refine Mod.setNew ?_ ?_ _ _ _); (rotate_left; omega)) | with_reducible refine Mod.setAt ?_ _ _ _ ))⟩
    simp_all

end Go.Proofs.YtkkjjhooamlljaaGreatDoor
namespace Go.Proofs.YtkkjjhooamlljaaGreatDoor
open Go.RowKit

structure Sides where
  left : Val
  top : Val
  right : Val
  bottom : Val
  start : Val
  stop : Val
  deriving DecidableEq, Inhabited
def Sides.cells (x : Sides) : List Value := [.int .i64 x.left.kind, .int .i64 x.left.n, .int .i64 x.top.kind, .int .i64 x.top.n, .int .i64 x.right.kind, .int .i64 x.right.n, .int .i64 x.bottom.kind, .int .i64 x.bottom.n, .int .i64 x.start.kind, .int .i64 x.start.n, .int .i64 x.stop.kind, .int .i64 x.stop.n]

structure Edges where
  left : Int
  top : Int
  right : Int
  bottom : Int
  deriving DecidableEq, Inhabited
def Edges.cells (x : Edges) : List Value := [.int .i64 x.left, .int .i64 x.top, .int .i64 x.right, .int .i64 x.bottom]

structure Style where
  dir : Int
  wrap : Int
  justify : Int
  items : Int
  self : Int
  content : Int
  apart : Bool
  hidden : Bool
  order : Int
  grow : Int
  shrink : Int
  basis : Val
  width : Val
  height : Val
  minWidth : Val
  minHeight : Val
  maxWidth : Val
  maxHeight : Val
  ratio : Int
  margin : Sides
  inset : Sides
  pad : Edges
  border : Edges
  rowGap : Int
  colGap : Int
  deriving DecidableEq, Inhabited
def Style.cells (x : Style) : List Value := [.int .i64 x.dir, .int .i64 x.wrap, .int .i64 x.justify, .int .i64 x.items, .int .i64 x.self, .int .i64 x.content, .bool x.apart, .bool x.hidden, .int .i64 x.order, .int .i64 x.grow, .int .i64 x.shrink, .int .i64 x.basis.kind, .int .i64 x.basis.n, .int .i64 x.width.kind, .int .i64 x.width.n, .int .i64 x.height.kind, .int .i64 x.height.n, .int .i64 x.minWidth.kind, .int .i64 x.minWidth.n, .int .i64 x.minHeight.kind, .int .i64 x.minHeight.n, .int .i64 x.maxWidth.kind, .int .i64 x.maxWidth.n, .int .i64 x.maxHeight.kind, .int .i64 x.maxHeight.n, .int .i64 x.ratio, .int .i64 x.margin.left.kind, .int .i64 x.margin.left.n, .int .i64 x.margin.top.kind, .int .i64 x.margin.top.n, .int .i64 x.margin.right.kind, .int .i64 x.margin.right.n, .int .i64 x.margin.bottom.kind, .int .i64 x.margin.bottom.n, .int .i64 x.margin.start.kind, .int .i64 x.margin.start.n, .int .i64 x.margin.stop.kind, .int .i64 x.margin.stop.n, .int .i64 x.inset.left.kind, .int .i64 x.inset.left.n, .int .i64 x.inset.top.kind, .int .i64 x.inset.top.n, .int .i64 x.inset.right.kind, .int .i64 x.inset.right.n, .int .i64 x.inset.bottom.kind, .int .i64 x.inset.bottom.n, .int .i64 x.inset.start.kind, .int .i64 x.inset.start.n, .int .i64 x.inset.stop.kind, .int .i64 x.inset.stop.n, .int .i64 x.pad.left, .int .i64 x.pad.top, .int .i64 x.pad.right, .int .i64 x.pad.bottom, .int .i64 x.border.left, .int .i64 x.border.top, .int .i64 x.border.right, .int .i64 x.border.bottom, .int .i64 x.rowGap, .int .i64 x.colGap]

end Go.Proofs.YtkkjjhooamlljaaGreatDoor
namespace Go.Proofs.YtkkjjhooamlljaaGreatDoor

def bitOf (b : Bool) : Int := if b then 1 else 0
def ioffs : List Nat := [0, 1, 2, 3, 4, 5, 6, 7, 8, 9, 10, 25, 58, 59, 50, 51, 52, 53, 54, 55, 56, 57]
def voffs : List Nat := [11, 13, 15, 17, 19, 21, 23, 26, 28, 30, 32, 34, 36, 38, 40, 42, 44, 46, 48]
def styleInts (s : Style) : List Int := [s.dir, s.wrap, s.justify, s.items, s.self, s.content, bitOf s.apart, bitOf s.hidden, s.order, s.grow, s.shrink, s.ratio, s.rowGap, s.colGap, s.pad.left, s.pad.top, s.pad.right, s.pad.bottom, s.border.left, s.border.top, s.border.right, s.border.bottom]
def styleVals (s : Style) : List Val := [s.basis, s.width, s.height, s.minWidth, s.minHeight, s.maxWidth, s.maxHeight, s.margin.left, s.margin.top, s.margin.right, s.margin.bottom, s.margin.start, s.margin.stop, s.inset.left, s.inset.top, s.inset.right, s.inset.bottom, s.inset.start, s.inset.stop]
def idxOf (l : List (List UInt8)) (k : List UInt8) : Option Nat := l.findIdx? (fun x => decide (x = k))
def keyOf (s : Style) (k : List UInt8) : Val × Bool :=
  match idxOf intTexts k with
  | some i => (⟨1, (styleInts s).getD i 0⟩, true)
  | none => match idxOf valueTexts k with
    | some i => ((styleVals s).getD i ⟨0, 0⟩, true)
    | none => (⟨0, 0⟩, false)
def iptr (k : List UInt8) : Nat × Bool :=
  match idxOf intTexts k with
  | some i => if i = 6 ∨ i = 7 then (8, false) else (ioffs.getD i 0, true)
  | none => (8, false)
def vptr (k : List UInt8) : Nat × Bool :=
  match idxOf valueTexts k with
  | some i => (voffs.getD i 0, true)
  | none => (11, false)
theorem idxOf_lt {l : List (List UInt8)} {k : List UInt8} {i : Nat} (h : idxOf l k = some i) : i < l.length := by
  unfold idxOf at h
  rw [List.findIdx?_eq_some_iff_findIdx_eq] at h
  exact h.1
theorem idxOf_at {l : List (List UInt8)} {k : List UInt8} {i : Nat} (h : idxOf l k = some i) : l[i]? = some k := by
  unfold idxOf at h
  rw [List.findIdx?_eq_some_iff_getElem] at h
  obtain ⟨h1, h2, _⟩ := h
  rw [List.getElem?_eq_getElem h1]
  simpa using h2
theorem int_at (s : Style) {i : Nat} (h : i < 22) (h6 : i ≠ 6) (h7 : i ≠ 7) : s.cells[ioffs.getD i 0]? = some (.int .i64 ((styleInts s).getD i 0)) := by
  obtain (rfl|rfl|rfl|rfl|rfl|rfl|rfl|rfl|rfl|rfl|rfl|rfl|rfl|rfl|rfl|rfl|rfl|rfl|rfl|rfl|rfl|rfl) : i = 0 ∨ i = 1 ∨ i = 2 ∨ i = 3 ∨ i = 4 ∨ i = 5 ∨ i = 6 ∨ i = 7 ∨ i = 8 ∨ i = 9 ∨ i = 10 ∨ i = 11 ∨ i = 12 ∨ i = 13 ∨ i = 14 ∨ i = 15 ∨ i = 16 ∨ i = 17 ∨ i = 18 ∨ i = 19 ∨ i = 20 ∨ i = 21 := by omega
  all_goals first | contradiction | rfl
theorem val_at (s : Style) {i : Nat} (h : i < 19) : (s.cells.drop (voffs.getD i 0)).take 2 = ((styleVals s).getD i ⟨0, 0⟩).cells ∧ voffs.getD i 0 + 2 ≤ 60 := by
  obtain (rfl|rfl|rfl|rfl|rfl|rfl|rfl|rfl|rfl|rfl|rfl|rfl|rfl|rfl|rfl|rfl|rfl|rfl|rfl) : i = 0 ∨ i = 1 ∨ i = 2 ∨ i = 3 ∨ i = 4 ∨ i = 5 ∨ i = 6 ∨ i = 7 ∨ i = 8 ∨ i = 9 ∨ i = 10 ∨ i = 11 ∨ i = 12 ∨ i = 13 ∨ i = 14 ∨ i = 15 ∨ i = 16 ∨ i = 17 ∨ i = 18 := by omega
  all_goals exact ⟨rfl, by decide⟩
end Go.Proofs.YtkkjjhooamlljaaGreatDoor
namespace Go.Proofs.YtkkjjhooamlljaaGreatDoor
open Go.RowKit
set_option linter.unusedVariables false
set_option linter.unusedSimpArgs false

def valOk (v : Val) : Bool := if v.kind = 0 ∨ v.kind = 3 then decide (v.n = 0) else if v.kind = 1 then inB v.n (-1048576) 1048576 else if v.kind = 2 then inB v.n (-1000) 1000 else false
def sizeOk (v : Val) : Bool := valOk v && decide (0 ≤ v.n)
set_option maxRecDepth 100000 in
set_option maxHeartbeats 4000000 in
theorem valueOk_any (v : Val) (w : World) : Calls Tryz.prog 43 #[.agg #[.int .i64 v.kind, .int .i64 v.n]] w fun e w' => e = .returned (.bool (valOk v)) ∧ Mod (fun _ => False) w w' := by
  refine calls_sx Tryz.func43 rfl rfl (fun a h1 h2 h3 => ((Fr.nil h1 h2).arg (h3 0 _ rfl))) ?_
  by_cases k0 : v.kind = 0
  · have hv : valOk v = decide (v.n = 0) := if_pos (.inl k0)
    repeat (first | refine SX.seq ?_ | refine SXl.nil ?_ | refine SX.region ?_ | refine SQ.thenNormal ?_ | refine SX.block ?_ | refine SX.skip ?_ | refine SX.condT rfl ?_ | (refine l_load ?_; (refine SXl.v (OpW.load 0 rfl rfl rfl) rfl ?_ ?_ ?_); rfl; rfl) | (refine l_fieldAddr ?_; (refine SXl.v (OpW.fieldAddr rfl) rfl ?_ ?_ ?_); rfl; rfl) | (refine l_assign ?_; (refine SXl.v (OpW.assign rfl) rfl ?_ ?_ ?_); rfl; rfl) | (refine l_eql ?_; (first | refine SXl.v (OpW.eqlT rfl rfl (by omega)) rfl ?_ ?_ ?_ | refine SXl.v (OpW.eql rfl rfl) rfl ?_ ?_ ?_); rfl; rfl) | (refine l_box ?_; refine SXl.box ?_ ?_ rfl rfl (fun g => ?_); rfl; rfl) | refine SX.ret ?_ | refine SQ.thenRet ?_ | refine SQ.blockRet ?_)
    refine SQ.body1 rfl rfl (fun w' hl => ⟨ret_bool hv.symm, hl.mod⟩)
  · by_cases k3 : v.kind = 3
    · have hv : valOk v = decide (v.n = 0) := if_pos (.inr k3)
      repeat (first | refine SX.seq ?_ | refine SXl.nil ?_ | refine SX.region ?_ | refine SQ.thenNormal ?_ | refine SX.block ?_ | refine SX.condT rfl ?_ | refine SX.condF rfl ?_ | (refine l_load ?_; (refine SXl.v (OpW.load 0 rfl rfl rfl) rfl ?_ ?_ ?_); rfl; rfl) | (refine l_fieldAddr ?_; (refine SXl.v (OpW.fieldAddr rfl) rfl ?_ ?_ ?_); rfl; rfl) | (refine l_assign ?_; (refine SXl.v (OpW.assign rfl) rfl ?_ ?_ ?_); rfl; rfl) | (refine l_eql ?_; (first | refine SXl.v (OpW.eqlT rfl rfl (by omega)) rfl ?_ ?_ ?_ | refine SXl.v (OpW.eqlF rfl rfl (by omega)) rfl ?_ ?_ ?_ | refine SXl.v (OpW.eql rfl rfl) rfl ?_ ?_ ?_); rfl; rfl) | (refine l_box ?_; refine SXl.box ?_ ?_ rfl rfl (fun g => ?_); rfl; rfl) | refine SX.ret ?_ | refine SQ.thenRet ?_ | refine SQ.blockRet ?_)
      refine SQ.body1 rfl rfl (fun w' hl => ⟨ret_bool hv.symm, hl.mod⟩)
    · by_cases k1 : v.kind = 1
      · have hv : valOk v = inB v.n (-1048576) 1048576 := (if_neg (by omega)).trans (if_pos k1)
        repeat (first | refine SX.seq ?_ | refine SXl.nil ?_ | refine SX.region ?_ | refine SQ.thenNormal ?_ | refine SX.block ?_ | refine SX.condT rfl ?_ | refine SX.condF rfl ?_ | (refine l_call ?_; (refine SXl.v (OpW.calls rfl (fun w _ => in_any _ _ _ _)) rfl ?_ ?_ ?_); rfl; rfl) | (refine l_load ?_; (refine SXl.v (OpW.load 0 rfl rfl rfl) rfl ?_ ?_ ?_); rfl; rfl) | (refine l_fieldAddr ?_; (refine SXl.v (OpW.fieldAddr rfl) rfl ?_ ?_ ?_); rfl; rfl) | (refine l_assign ?_; (refine SXl.v (OpW.assign rfl) rfl ?_ ?_ ?_); rfl; rfl) | (refine l_eql ?_; (first | refine SXl.v (OpW.eqlT rfl rfl (by omega)) rfl ?_ ?_ ?_ | refine SXl.v (OpW.eqlF rfl rfl (by omega)) rfl ?_ ?_ ?_); rfl; rfl) | (refine l_box ?_; refine SXl.box ?_ ?_ rfl rfl (fun g => ?_); rfl; rfl) | refine SX.ret ?_ | refine SQ.thenRet ?_ | refine SQ.blockRet ?_)
        refine SQ.body1 rfl rfl (fun w' hl => ⟨ret_bool hv.symm, hl.mod⟩)
      · by_cases k2 : v.kind = 2
        · have hv : valOk v = inB v.n (-1000) 1000 := (if_neg (by omega)).trans ((if_neg k1).trans (if_pos k2))
          repeat (first | refine SX.seq ?_ | refine SXl.nil ?_ | refine SX.region ?_ | refine SQ.thenNormal ?_ | refine SX.block ?_ | refine SX.condT rfl ?_ | refine SX.condF rfl ?_ | (refine l_call ?_; (refine SXl.v (OpW.calls rfl (fun w _ => in_any _ _ _ _)) rfl ?_ ?_ ?_); rfl; rfl) | (refine l_load ?_; (refine SXl.v (OpW.load 0 rfl rfl rfl) rfl ?_ ?_ ?_); rfl; rfl) | (refine l_fieldAddr ?_; (refine SXl.v (OpW.fieldAddr rfl) rfl ?_ ?_ ?_); rfl; rfl) | (refine l_assign ?_; (refine SXl.v (OpW.assign rfl) rfl ?_ ?_ ?_); rfl; rfl) | (refine l_eql ?_; (first | refine SXl.v (OpW.eqlT rfl rfl (by omega)) rfl ?_ ?_ ?_ | refine SXl.v (OpW.eqlF rfl rfl (by omega)) rfl ?_ ?_ ?_); rfl; rfl) | (refine l_box ?_; refine SXl.box ?_ ?_ rfl rfl (fun g => ?_); rfl; rfl) | refine SX.ret ?_ | refine SQ.thenRet ?_ | refine SQ.blockRet ?_)
          refine SQ.body1 rfl rfl (fun w' hl => ⟨ret_bool hv.symm, hl.mod⟩)
        · have hv : valOk v = false := (if_neg (by omega)).trans ((if_neg k1).trans (if_neg k2))
          repeat (first | refine SX.seq ?_ | refine SXl.nil ?_ | refine SX.region ?_ | refine SQ.thenNormal ?_ | refine SX.block ?_ | refine SX.skip ?_ | refine SX.condF rfl ?_ | (refine l_load ?_; (refine SXl.v (OpW.load 0 rfl rfl rfl) rfl ?_ ?_ ?_); rfl; rfl) | (refine l_fieldAddr ?_; (refine SXl.v (OpW.fieldAddr rfl) rfl ?_ ?_ ?_); rfl; rfl) | (refine l_assign ?_; (refine SXl.v (OpW.assign rfl) rfl ?_ ?_ ?_); rfl; rfl) | (refine l_eql ?_; (refine SXl.v (OpW.eqlF rfl rfl (by omega)) rfl ?_ ?_ ?_); rfl; rfl) | (refine l_box ?_; refine SXl.box ?_ ?_ rfl rfl (fun g => ?_); rfl; rfl) | refine SX.ret ?_ | refine SQ.blockNormal ?_)
          refine SQ.body1 rfl rfl (fun w' hl => ⟨ret_bool hv.symm, hl.mod⟩)

set_option maxRecDepth 100000 in
set_option maxHeartbeats 4000000 in
theorem svalueOk_any (v : Val) (w : World) : Calls Tryz.prog 64 #[.agg #[.int .i64 v.kind, .int .i64 v.n]] w fun e w' => e = .returned (.bool (valOk v)) ∧ Mod (fun _ => False) w w' := by
  refine calls_sx Tryz.func64 rfl rfl (fun a h1 h2 h3 => ((Fr.nil h1 h2).arg (h3 0 _ rfl))) ?_
  by_cases k0 : v.kind = 0
  · have hv : valOk v = decide (v.n = 0) := if_pos (.inl k0)
    repeat (first | refine SX.seq ?_ | refine SXl.nil ?_ | refine SX.region ?_ | refine SQ.thenNormal ?_ | refine SX.block ?_ | refine SX.skip ?_ | refine SX.condT rfl ?_ | (refine l_load ?_; (refine SXl.v (OpW.load 0 rfl rfl rfl) rfl ?_ ?_ ?_); rfl; rfl) | (refine l_fieldAddr ?_; (refine SXl.v (OpW.fieldAddr rfl) rfl ?_ ?_ ?_); rfl; rfl) | (refine l_assign ?_; (refine SXl.v (OpW.assign rfl) rfl ?_ ?_ ?_); rfl; rfl) | (refine l_eql ?_; (first | refine SXl.v (OpW.eqlT rfl rfl (by omega)) rfl ?_ ?_ ?_ | refine SXl.v (OpW.eql rfl rfl) rfl ?_ ?_ ?_); rfl; rfl) | (refine l_box ?_; refine SXl.box ?_ ?_ rfl rfl (fun g => ?_); rfl; rfl) | refine SX.ret ?_ | refine SQ.thenRet ?_ | refine SQ.blockRet ?_)
    refine SQ.body1 rfl rfl (fun w' hl => ⟨ret_bool hv.symm, hl.mod⟩)
  · by_cases k3 : v.kind = 3
    · have hv : valOk v = decide (v.n = 0) := if_pos (.inr k3)
      repeat (first | refine SX.seq ?_ | refine SXl.nil ?_ | refine SX.region ?_ | refine SQ.thenNormal ?_ | refine SX.block ?_ | refine SX.condT rfl ?_ | refine SX.condF rfl ?_ | (refine l_load ?_; (refine SXl.v (OpW.load 0 rfl rfl rfl) rfl ?_ ?_ ?_); rfl; rfl) | (refine l_fieldAddr ?_; (refine SXl.v (OpW.fieldAddr rfl) rfl ?_ ?_ ?_); rfl; rfl) | (refine l_assign ?_; (refine SXl.v (OpW.assign rfl) rfl ?_ ?_ ?_); rfl; rfl) | (refine l_eql ?_; (first | refine SXl.v (OpW.eqlT rfl rfl (by omega)) rfl ?_ ?_ ?_ | refine SXl.v (OpW.eqlF rfl rfl (by omega)) rfl ?_ ?_ ?_ | refine SXl.v (OpW.eql rfl rfl) rfl ?_ ?_ ?_); rfl; rfl) | (refine l_box ?_; refine SXl.box ?_ ?_ rfl rfl (fun g => ?_); rfl; rfl) | refine SX.ret ?_ | refine SQ.thenRet ?_ | refine SQ.blockRet ?_)
      refine SQ.body1 rfl rfl (fun w' hl => ⟨ret_bool hv.symm, hl.mod⟩)
    · by_cases k1 : v.kind = 1
      · have hv : valOk v = inB v.n (-1048576) 1048576 := (if_neg (by omega)).trans (if_pos k1)
        repeat (first | refine SX.seq ?_ | refine SXl.nil ?_ | refine SX.region ?_ | refine SQ.thenNormal ?_ | refine SX.block ?_ | refine SX.condT rfl ?_ | refine SX.condF rfl ?_ | (refine l_call ?_; (refine SXl.v (OpW.calls rfl (fun w _ => l01In_any _ _ _ _)) rfl ?_ ?_ ?_); rfl; rfl) | (refine l_load ?_; (refine SXl.v (OpW.load 0 rfl rfl rfl) rfl ?_ ?_ ?_); rfl; rfl) | (refine l_fieldAddr ?_; (refine SXl.v (OpW.fieldAddr rfl) rfl ?_ ?_ ?_); rfl; rfl) | (refine l_assign ?_; (refine SXl.v (OpW.assign rfl) rfl ?_ ?_ ?_); rfl; rfl) | (refine l_eql ?_; (first | refine SXl.v (OpW.eqlT rfl rfl (by omega)) rfl ?_ ?_ ?_ | refine SXl.v (OpW.eqlF rfl rfl (by omega)) rfl ?_ ?_ ?_); rfl; rfl) | (refine l_box ?_; refine SXl.box ?_ ?_ rfl rfl (fun g => ?_); rfl; rfl) | refine SX.ret ?_ | refine SQ.thenRet ?_ | refine SQ.blockRet ?_)
        refine SQ.body1 rfl rfl (fun w' hl => ⟨ret_bool hv.symm, hl.mod⟩)
      · by_cases k2 : v.kind = 2
        · have hv : valOk v = inB v.n (-1000) 1000 := (if_neg (by omega)).trans ((if_neg k1).trans (if_pos k2))
          repeat (first | refine SX.seq ?_ | refine SXl.nil ?_ | refine SX.region ?_ | refine SQ.thenNormal ?_ | refine SX.block ?_ | refine SX.condT rfl ?_ | refine SX.condF rfl ?_ | (refine l_call ?_; (refine SXl.v (OpW.calls rfl (fun w _ => l01In_any _ _ _ _)) rfl ?_ ?_ ?_); rfl; rfl) | (refine l_load ?_; (refine SXl.v (OpW.load 0 rfl rfl rfl) rfl ?_ ?_ ?_); rfl; rfl) | (refine l_fieldAddr ?_; (refine SXl.v (OpW.fieldAddr rfl) rfl ?_ ?_ ?_); rfl; rfl) | (refine l_assign ?_; (refine SXl.v (OpW.assign rfl) rfl ?_ ?_ ?_); rfl; rfl) | (refine l_eql ?_; (first | refine SXl.v (OpW.eqlT rfl rfl (by omega)) rfl ?_ ?_ ?_ | refine SXl.v (OpW.eqlF rfl rfl (by omega)) rfl ?_ ?_ ?_); rfl; rfl) | (refine l_box ?_; refine SXl.box ?_ ?_ rfl rfl (fun g => ?_); rfl; rfl) | refine SX.ret ?_ | refine SQ.thenRet ?_ | refine SQ.blockRet ?_)
          refine SQ.body1 rfl rfl (fun w' hl => ⟨ret_bool hv.symm, hl.mod⟩)
        · have hv : valOk v = false := (if_neg (by omega)).trans ((if_neg k1).trans (if_neg k2))
          repeat (first | refine SX.seq ?_ | refine SXl.nil ?_ | refine SX.region ?_ | refine SQ.thenNormal ?_ | refine SX.block ?_ | refine SX.skip ?_ | refine SX.condF rfl ?_ | (refine l_load ?_; (refine SXl.v (OpW.load 0 rfl rfl rfl) rfl ?_ ?_ ?_); rfl; rfl) | (refine l_fieldAddr ?_; (refine SXl.v (OpW.fieldAddr rfl) rfl ?_ ?_ ?_); rfl; rfl) | (refine l_assign ?_; (refine SXl.v (OpW.assign rfl) rfl ?_ ?_ ?_); rfl; rfl) | (refine l_eql ?_; (refine SXl.v (OpW.eqlF rfl rfl (by omega)) rfl ?_ ?_ ?_); rfl; rfl) | (refine l_box ?_; refine SXl.box ?_ ?_ rfl rfl (fun g => ?_); rfl; rfl) | refine SX.ret ?_ | refine SQ.blockNormal ?_)
          refine SQ.body1 rfl rfl (fun w' hl => ⟨ret_bool hv.symm, hl.mod⟩)


end Go.Proofs.YtkkjjhooamlljaaGreatDoor
namespace Go.Proofs.YtkkjjhooamlljaaGreatDoor
open Go.RowKit

theorem Style.len (s : Style) : s.cells.length = 60 := rfl
@[go_sem] theorem Style.set54 (s : Style) (v : Int) : s.cells.set 54 (.int .i64 v) = Style.cells { s with border := { s.border with left := v } } := rfl
@[go_sem] theorem Style.set55 (s : Style) (v : Int) : s.cells.set 55 (.int .i64 v) = Style.cells { s with border := { s.border with top := v } } := rfl
@[go_sem] theorem Style.set56 (s : Style) (v : Int) : s.cells.set 56 (.int .i64 v) = Style.cells { s with border := { s.border with right := v } } := rfl
@[go_sem] theorem Style.set57 (s : Style) (v : Int) : s.cells.set 57 (.int .i64 v) = Style.cells { s with border := { s.border with bottom := v } } := rfl
@[go_sem] theorem Style.set58 (s : Style) (v : Int) : s.cells.set 58 (.int .i64 v) = Style.cells { s with rowGap := v } := rfl
@[go_sem] theorem Style.set59 (s : Style) (v : Int) : s.cells.set 59 (.int .i64 v) = Style.cells { s with colGap := v } := rfl
end Go.Proofs.YtkkjjhooamlljaaGreatDoor
namespace Go.Proofs.YtkkjjhooamlljaaGreatDoor
open Go.RowKit

end Go.Proofs.YtkkjjhooamlljaaGreatDoor
namespace Go.Proofs.YtkkjjhooamlljaaGreatDoor
open Go.RowKit
set_option linter.unusedVariables false
set_option linter.unusedSimpArgs false

end Go.Proofs.YtkkjjhooamlljaaGreatDoor
namespace Go.Proofs.YtkkjjhooamlljaaGreatDoor
open Go.RowKit

def valText (v : Val) : List UInt8 := if valOk v then (if v.kind = 1 then Lib.itoa v.n else if v.kind = 2 then Lib.itoa v.n ++ [37] else if v.kind = 3 then [97, 117, 116, 111] else [110, 111, 110, 101]) else [63]
theorem valText_short (v : Val) (hb : I64 v.n) : (valText v).length ≤ 24 := by
  have h := Lib.itoa_length_le v.n hb.1 hb.2
  unfold valText
  split
  · split
    · omega
    · split
      · rw [List.length_append, List.length_singleton]; omega
      · split <;> simp
  · simp
set_option maxRecDepth 100000 in
set_option maxHeartbeats 4000000 in
theorem valueText_any (v : Val) (hb : I64 v.n) (w : World) (ht : Tab w) : Calls Tryz.prog 44 #[.agg v.cells.toArray] w fun e w' => e = .returned (.string ⟨(valText v).toArray⟩) ∧ Mod (fun _ => False) w w' := by
  refine calls_sx Tryz.func44 rfl rfl (fun a h1 h2 h3 => ((Fr.nil h1 h2).arg (h3 0 _ rfl))) ?_
  have hlen := Lib.itoa_length_le v.n hb.1 hb.2
  have hd := fun w h => decimal_any v.n hb w h
  cases hv : valOk v
  · have e : valText v = [63] := by simp [valText, hv]
    rw [e]
    repeat (first | refine SX.seq ?_ | refine SXl.nil ?_ | refine SX.region ?_ | refine SQ.thenNormal ?_ | refine SX.condT rfl ?_ | (refine l_call ?_; (refine SXl.v (OpW.call rfl (fun w hl => valueOk_any v _)) rfl ?_ ?_ ?_); rfl; rfl) | (refine l_load ?_; (refine SXl.v (OpW.loadAll 0 rfl rfl rfl) rfl ?_ ?_ ?_); rfl; rfl) | (refine l_assign ?_; (refine SXl.v (OpW.assign rfl) rfl ?_ ?_ ?_); rfl; rfl) | (refine l_not ?_; (refine SXl.v (OpW.not rfl) rfl ?_ ?_ ?_); rfl; rfl) | (refine l_box ?_; refine SXl.box ?_ ?_ rfl rfl (fun g => ?_); rfl; rfl) | (rw [hv]) | refine SX.ret ?_ | refine SQ.thenRet ?_)
    refine SQ.body1 rfl rfl (fun w' hl => ⟨rfl, hl.mod⟩)
  by_cases k1 : v.kind = 1
  · have e : valText v = Lib.itoa v.n := by simp [valText, hv, k1]
    rw [e]
    repeat (first | refine SX.seq ?_ | refine SXl.nil ?_ | refine SX.region ?_ | refine SQ.thenNormal ?_ | refine SX.block ?_ | refine SX.skip ?_ | refine SX.condT rfl ?_ | refine SX.condF rfl ?_ | (refine l_call ?_; (first | refine SXl.v (OpW.call rfl (fun w hl => valueOk_any v _)) rfl ?_ ?_ ?_ | refine SXl.v (OpW.call rfl (fun w hl => hd _ (ht.keep hl.mod))) rfl ?_ ?_ ?_); rfl; rfl) | (refine l_load ?_; (first | refine SXl.v (OpW.load 0 rfl rfl rfl) rfl ?_ ?_ ?_ | refine SXl.v (OpW.loadAll 0 rfl rfl rfl) rfl ?_ ?_ ?_); rfl; rfl) | (refine l_fieldAddr ?_; (refine SXl.v (OpW.fieldAddr rfl) rfl ?_ ?_ ?_); rfl; rfl) | (refine l_assign ?_; (refine SXl.v (OpW.assign rfl) rfl ?_ ?_ ?_); rfl; rfl) | (refine l_eql ?_; (refine SXl.v (OpW.eqlT rfl rfl (by omega)) rfl ?_ ?_ ?_); rfl; rfl) | (refine l_not ?_; (refine SXl.v (OpW.not rfl) rfl ?_ ?_ ?_); rfl; rfl) | (refine l_box ?_; refine SXl.box ?_ ?_ rfl rfl (fun g => ?_); rfl; rfl) | (rw [hv]) | refine SX.ret ?_ | refine SQ.thenRet ?_ | refine SQ.blockRet ?_)
    refine SQ.body1 rfl rfl (fun w' hl => ⟨rfl, hl.mod⟩)
  by_cases k2 : v.kind = 2
  · have e : valText v = Lib.itoa v.n ++ [37] := by simp [valText, hv, k2]
    rw [e]
    repeat (first | refine SX.seq ?_ | refine SXl.nil ?_ | refine SX.region ?_ | refine SQ.thenNormal ?_ | refine SX.block ?_ | refine SX.skip ?_ | refine SX.condT rfl ?_ | refine SX.condF rfl ?_ | (refine l_call ?_; (first | refine SXl.v (OpW.call rfl (fun w hl => valueOk_any v _)) rfl ?_ ?_ ?_ | refine SXl.v (OpW.call rfl (fun w hl => hd _ (ht.keep hl.mod))) rfl ?_ ?_ ?_); rfl; rfl) | (refine l_add ?_; (refine SXl.v ((OpW.cat (b := [37]) rfl rfl (by simp; omega))) rfl ?_ ?_ ?_); rfl; rfl) | (refine l_load ?_; (first | refine SXl.v (OpW.load 0 rfl rfl rfl) rfl ?_ ?_ ?_ | refine SXl.v (OpW.loadAll 0 rfl rfl rfl) rfl ?_ ?_ ?_); rfl; rfl) | (refine l_fieldAddr ?_; (refine SXl.v (OpW.fieldAddr rfl) rfl ?_ ?_ ?_); rfl; rfl) | (refine l_assign ?_; (refine SXl.v (OpW.assign rfl) rfl ?_ ?_ ?_); rfl; rfl) | (refine l_eql ?_; (first | refine SXl.v (OpW.eqlT rfl rfl (by omega)) rfl ?_ ?_ ?_ | refine SXl.v (OpW.eqlF rfl rfl (by omega)) rfl ?_ ?_ ?_); rfl; rfl) | (refine l_not ?_; (refine SXl.v (OpW.not rfl) rfl ?_ ?_ ?_); rfl; rfl) | (refine l_box ?_; refine SXl.box ?_ ?_ rfl rfl (fun g => ?_); rfl; rfl) | (rw [hv]) | refine SX.ret ?_ | refine SQ.thenRet ?_ | refine SQ.blockRet ?_)
    refine SQ.body1 rfl rfl (fun w' hl => ⟨rfl, hl.mod⟩)
  by_cases k3 : v.kind = 3
  · have e : valText v = [97, 117, 116, 111] := by simp [valText, hv, k3]
    rw [e]
    repeat (first | refine SX.seq ?_ | refine SXl.nil ?_ | refine SX.region ?_ | refine SQ.thenNormal ?_ | refine SX.block ?_ | refine SX.skip ?_ | refine SX.condT rfl ?_ | refine SX.condF rfl ?_ | (refine l_call ?_; (refine SXl.v (OpW.call rfl (fun w hl => valueOk_any v _)) rfl ?_ ?_ ?_); rfl; rfl) | (refine l_load ?_; (first | refine SXl.v (OpW.load 0 rfl rfl rfl) rfl ?_ ?_ ?_ | refine SXl.v (OpW.loadAll 0 rfl rfl rfl) rfl ?_ ?_ ?_); rfl; rfl) | (refine l_fieldAddr ?_; (refine SXl.v (OpW.fieldAddr rfl) rfl ?_ ?_ ?_); rfl; rfl) | (refine l_assign ?_; (refine SXl.v (OpW.assign rfl) rfl ?_ ?_ ?_); rfl; rfl) | (refine l_eql ?_; (first | refine SXl.v (OpW.eqlT rfl rfl (by omega)) rfl ?_ ?_ ?_ | refine SXl.v (OpW.eqlF rfl rfl (by omega)) rfl ?_ ?_ ?_); rfl; rfl) | (refine l_not ?_; (refine SXl.v (OpW.not rfl) rfl ?_ ?_ ?_); rfl; rfl) | (refine l_box ?_; refine SXl.box ?_ ?_ rfl rfl (fun g => ?_); rfl; rfl) | (rw [hv]) | refine SX.ret ?_ | refine SQ.thenRet ?_ | refine SQ.blockRet ?_)
    refine SQ.body1 rfl rfl (fun w' hl => ⟨rfl, hl.mod⟩)
  · have e : valText v = [110, 111, 110, 101] := by simp [valText, hv, k1, k2, k3]
    rw [e]
    repeat (first | refine SX.seq ?_ | refine SXl.nil ?_ | refine SX.region ?_ | refine SQ.thenNormal ?_ | refine SX.block ?_ | refine SX.skip ?_ | refine SX.condF rfl ?_ | (refine l_call ?_; (refine SXl.v (OpW.call rfl (fun w hl => valueOk_any v _)) rfl ?_ ?_ ?_); rfl; rfl) | (refine l_load ?_; (first | refine SXl.v (OpW.load 0 rfl rfl rfl) rfl ?_ ?_ ?_ | refine SXl.v (OpW.loadAll 0 rfl rfl rfl) rfl ?_ ?_ ?_); rfl; rfl) | (refine l_fieldAddr ?_; (refine SXl.v (OpW.fieldAddr rfl) rfl ?_ ?_ ?_); rfl; rfl) | (refine l_assign ?_; (refine SXl.v (OpW.assign rfl) rfl ?_ ?_ ?_); rfl; rfl) | (refine l_eql ?_; (refine SXl.v (OpW.eqlF rfl rfl (by omega)) rfl ?_ ?_ ?_); rfl; rfl) | (refine l_not ?_; (refine SXl.v (OpW.not rfl) rfl ?_ ?_ ?_); rfl; rfl) | (refine l_box ?_; refine SXl.box ?_ ?_ rfl rfl (fun g => ?_); rfl; rfl) | (rw [hv]) | refine SX.ret ?_ | refine SQ.blockNormal ?_)
    refine SQ.body1 rfl rfl (fun w' hl => ⟨rfl, hl.mod⟩)
set_option maxRecDepth 100000 in
set_option maxHeartbeats 4000000 in
theorem svalueText_any (v : Val) (hb : I64 v.n) (w : World) : Calls Tryz.prog 65 #[.agg v.cells.toArray] w fun e w' => e = .returned (.string ⟨(valText v).toArray⟩) ∧ Mod (fun _ => False) w w' := by
  refine calls_sx Tryz.func65 rfl rfl (fun a h1 h2 h3 => ((Fr.nil h1 h2).arg (h3 0 _ rfl))) ?_
  have hlen := Lib.itoa_length_le v.n hb.1 hb.2
  have hd := fun w => sdecimal_any v.n hb.1 hb.2 w
  cases hv : valOk v
  · have e : valText v = [63] := by simp [valText, hv]
    rw [e]
    repeat (first | refine SX.seq ?_ | refine SXl.nil ?_ | refine SX.region ?_ | refine SQ.thenNormal ?_ | refine SX.condT rfl ?_ | (refine l_call ?_; (refine SXl.v (OpW.call rfl (fun w hl => svalueOk_any v _)) rfl ?_ ?_ ?_); rfl; rfl) | (refine l_load ?_; (refine SXl.v (OpW.loadAll 0 rfl rfl rfl) rfl ?_ ?_ ?_); rfl; rfl) | (refine l_assign ?_; (refine SXl.v (OpW.assign rfl) rfl ?_ ?_ ?_); rfl; rfl) | (refine l_not ?_; (refine SXl.v (OpW.not rfl) rfl ?_ ?_ ?_); rfl; rfl) | (refine l_box ?_; refine SXl.box ?_ ?_ rfl rfl (fun g => ?_); rfl; rfl) | (rw [hv]) | refine SX.ret ?_ | refine SQ.thenRet ?_)
    refine SQ.body1 rfl rfl (fun w' hl => ⟨rfl, hl.mod⟩)
  by_cases k1 : v.kind = 1
  · have e : valText v = Lib.itoa v.n := by simp [valText, hv, k1]
    rw [e]
    repeat (first | refine SX.seq ?_ | refine SXl.nil ?_ | refine SX.region ?_ | refine SQ.thenNormal ?_ | refine SX.block ?_ | refine SX.skip ?_ | refine SX.condT rfl ?_ | refine SX.condF rfl ?_ | (refine l_call ?_; (first | refine SXl.v (OpW.call rfl (fun w hl => svalueOk_any v _)) rfl ?_ ?_ ?_ | refine SXl.v (OpW.call rfl (fun w hl => hd _)) rfl ?_ ?_ ?_); rfl; rfl) | (refine l_load ?_; (first | refine SXl.v (OpW.load 0 rfl rfl rfl) rfl ?_ ?_ ?_ | refine SXl.v (OpW.loadAll 0 rfl rfl rfl) rfl ?_ ?_ ?_); rfl; rfl) | (refine l_fieldAddr ?_; (refine SXl.v (OpW.fieldAddr rfl) rfl ?_ ?_ ?_); rfl; rfl) | (refine l_assign ?_; (refine SXl.v (OpW.assign rfl) rfl ?_ ?_ ?_); rfl; rfl) | (refine l_eql ?_; (refine SXl.v (OpW.eqlT rfl rfl (by omega)) rfl ?_ ?_ ?_); rfl; rfl) | (refine l_not ?_; (refine SXl.v (OpW.not rfl) rfl ?_ ?_ ?_); rfl; rfl) | (refine l_box ?_; refine SXl.box ?_ ?_ rfl rfl (fun g => ?_); rfl; rfl) | (rw [hv]) | refine SX.ret ?_ | refine SQ.thenRet ?_ | refine SQ.blockRet ?_)
    refine SQ.body1 rfl rfl (fun w' hl => ⟨rfl, hl.mod⟩)
  by_cases k2 : v.kind = 2
  · have e : valText v = Lib.itoa v.n ++ [37] := by simp [valText, hv, k2]
    rw [e]
    repeat (first | refine SX.seq ?_ | refine SXl.nil ?_ | refine SX.region ?_ | refine SQ.thenNormal ?_ | refine SX.block ?_ | refine SX.skip ?_ | refine SX.condT rfl ?_ | refine SX.condF rfl ?_ | (refine l_call ?_; (first | refine SXl.v (OpW.call rfl (fun w hl => svalueOk_any v _)) rfl ?_ ?_ ?_ | refine SXl.v (OpW.call rfl (fun w hl => hd _)) rfl ?_ ?_ ?_); rfl; rfl) | (refine l_add ?_; (refine SXl.v ((OpW.cat (b := [37]) rfl rfl (by simp; omega))) rfl ?_ ?_ ?_); rfl; rfl) | (refine l_load ?_; (first | refine SXl.v (OpW.load 0 rfl rfl rfl) rfl ?_ ?_ ?_ | refine SXl.v (OpW.loadAll 0 rfl rfl rfl) rfl ?_ ?_ ?_); rfl; rfl) | (refine l_fieldAddr ?_; (refine SXl.v (OpW.fieldAddr rfl) rfl ?_ ?_ ?_); rfl; rfl) | (refine l_assign ?_; (refine SXl.v (OpW.assign rfl) rfl ?_ ?_ ?_); rfl; rfl) | (refine l_eql ?_; (first | refine SXl.v (OpW.eqlT rfl rfl (by omega)) rfl ?_ ?_ ?_ | refine SXl.v (OpW.eqlF rfl rfl (by omega)) rfl ?_ ?_ ?_); rfl; rfl) | (refine l_not ?_; (refine SXl.v (OpW.not rfl) rfl ?_ ?_ ?_); rfl; rfl) | (refine l_box ?_; refine SXl.box ?_ ?_ rfl rfl (fun g => ?_); rfl; rfl) | (rw [hv]) | refine SX.ret ?_ | refine SQ.thenRet ?_ | refine SQ.blockRet ?_)
    refine SQ.body1 rfl rfl (fun w' hl => ⟨rfl, hl.mod⟩)
  by_cases k3 : v.kind = 3
  · have e : valText v = [97, 117, 116, 111] := by simp [valText, hv, k3]
    rw [e]
    repeat (first | refine SX.seq ?_ | refine SXl.nil ?_ | refine SX.region ?_ | refine SQ.thenNormal ?_ | refine SX.block ?_ | refine SX.skip ?_ | refine SX.condT rfl ?_ | refine SX.condF rfl ?_ | (refine l_call ?_; (refine SXl.v (OpW.call rfl (fun w hl => svalueOk_any v _)) rfl ?_ ?_ ?_); rfl; rfl) | (refine l_load ?_; (first | refine SXl.v (OpW.load 0 rfl rfl rfl) rfl ?_ ?_ ?_ | refine SXl.v (OpW.loadAll 0 rfl rfl rfl) rfl ?_ ?_ ?_); rfl; rfl) | (refine l_fieldAddr ?_; (refine SXl.v (OpW.fieldAddr rfl) rfl ?_ ?_ ?_); rfl; rfl) | (refine l_assign ?_; (refine SXl.v (OpW.assign rfl) rfl ?_ ?_ ?_); rfl; rfl) | (refine l_eql ?_; (first | refine SXl.v (OpW.eqlT rfl rfl (by omega)) rfl ?_ ?_ ?_ | refine SXl.v (OpW.eqlF rfl rfl (by omega)) rfl ?_ ?_ ?_); rfl; rfl) | (refine l_not ?_; (refine SXl.v (OpW.not rfl) rfl ?_ ?_ ?_); rfl; rfl) | (refine l_box ?_; refine SXl.box ?_ ?_ rfl rfl (fun g => ?_); rfl; rfl) | (rw [hv]) | refine SX.ret ?_ | refine SQ.thenRet ?_ | refine SQ.blockRet ?_)
    refine SQ.body1 rfl rfl (fun w' hl => ⟨rfl, hl.mod⟩)
  · have e : valText v = [110, 111, 110, 101] := by simp [valText, hv, k1, k2, k3]
    rw [e]
    repeat (first | refine SX.seq ?_ | refine SXl.nil ?_ | refine SX.region ?_ | refine SQ.thenNormal ?_ | refine SX.block ?_ | refine SX.skip ?_ | refine SX.condF rfl ?_ | (refine l_call ?_; (refine SXl.v (OpW.call rfl (fun w hl => svalueOk_any v _)) rfl ?_ ?_ ?_); rfl; rfl) | (refine l_load ?_; (first | refine SXl.v (OpW.load 0 rfl rfl rfl) rfl ?_ ?_ ?_ | refine SXl.v (OpW.loadAll 0 rfl rfl rfl) rfl ?_ ?_ ?_); rfl; rfl) | (refine l_fieldAddr ?_; (refine SXl.v (OpW.fieldAddr rfl) rfl ?_ ?_ ?_); rfl; rfl) | (refine l_assign ?_; (refine SXl.v (OpW.assign rfl) rfl ?_ ?_ ?_); rfl; rfl) | (refine l_eql ?_; (refine SXl.v (OpW.eqlF rfl rfl (by omega)) rfl ?_ ?_ ?_); rfl; rfl) | (refine l_not ?_; (refine SXl.v (OpW.not rfl) rfl ?_ ?_ ?_); rfl; rfl) | (refine l_box ?_; refine SXl.box ?_ ?_ rfl rfl (fun g => ?_); rfl; rfl) | (rw [hv]) | refine SX.ret ?_ | refine SQ.blockNormal ?_)
    refine SQ.body1 rfl rfl (fun w' hl => ⟨rfl, hl.mod⟩)

end Go.Proofs.YtkkjjhooamlljaaGreatDoor
namespace Go.Proofs.YtkkjjhooamlljaaGreatDoor
open Go.RowKit

/-- Where a key stands, or -1. -/
def keyI (l : List (List UInt8)) (k : List UInt8) : Int := match idxOf l k with
  | some i => (i : Nat)
  | none => -1
theorem idxOf_first {l : List (List UInt8)} {k : List UInt8} {i : Nat} (h : ∀ j x, j < i → l[j]? = some x → x ≠ k) (hi : l[i]? = some k) : idxOf l k = some i := by
  unfold idxOf
  rw [List.findIdx?_eq_some_iff_getElem]
  obtain ⟨h1, h2⟩ := List.getElem?_eq_some_iff.1 hi
  exact ⟨h1, by simpa using h2, fun j hj => by simpa using h j _ hj (List.getElem?_eq_getElem (by omega))⟩
theorem idxOf_none {l : List (List UInt8)} {k : List UInt8} (h : ∀ j x, j < l.length → l[j]? = some x → x ≠ k) : idxOf l k = none := by
  unfold idxOf
  rw [List.findIdx?_eq_none_iff]
  intro x hx
  obtain ⟨j, hj⟩ := List.mem_iff_getElem?.1 hx
  simpa using h j x (List.getElem?_eq_some_iff.1 hj).1 hj
theorem keyI_some {l : List (List UInt8)} {k : List UInt8} {i : Nat} (h : idxOf l k = some i) : keyI l k = (i : Nat) := by unfold keyI; rw [h]
theorem keyI_none {l : List (List UInt8)} {k : List UInt8} (h : idxOf l k = none) : keyI l k = -1 := by unfold keyI; rw [h]
theorem ne_succ {l : List (List UInt8)} {k x : List UInt8} {i : Nat} (h : ∀ j x, j < i → l[j]? = some x → x ≠ k) (hx : l[i]? = some x) (hn : x ≠ k) : ∀ j x, j < i + 1 → l[j]? = some x → x ≠ k := fun j y hj hy => by
  by_cases e : j = i
  · subst e; rw [hx] at hy; rw [← Option.some.inj hy]; exact hn
  · exact h j y (by omega) hy

set_option maxRecDepth 100000 in
set_option maxHeartbeats 4000000 in
theorem keyAt_any (l : List (List UInt8)) (k : List UInt8) (a : Option Addr) (c : Nat) (R : Nat → Prop) (w : World) (hlen : l.length ≤ 1048576) (h : TextSlice R w a l) :
    Calls Tryz.prog 41 #[.slice a l.length c, .string ⟨k.toArray⟩] w fun e w' => e = .returned (.int .i64 (keyI l k)) ∧ Mod (fun _ => False) w w' := by
  refine calls_sx Tryz.func41 rfl rfl (fun a h1 h2 h3 => ((Fr.nil h1 h2).arg (h3 1 _ rfl)).arg (h3 0 _ rfl)) ?_
  repeat (first | refine SX.seq ?_ | refine SXl.nil ?_ | refine SX.region ?_ | refine SQ.thenNormal ?_ | refine SX.block ?_ | (refine l_move ?_; (refine SXl.v (OpW.move rfl) rfl ?_ ?_ ?_); rfl; rfl) | (refine l_assign ?_; (refine SXl.v (OpW.assign rfl) rfl ?_ ?_ ?_); rfl; rfl) | (refine l_len ?_; (refine SXl.v (OpW.len rfl) rfl ?_ ?_ ?_); rfl; rfl))
  refine SX.loopi (fun i : Nat => i ≤ l.length ∧ ∀ j x, j < i → l[j]? = some x → x ≠ k) (fun i => l.length - i) (fun _ => []) (fun _ => []) (fun _ => []) (fun i => [(1, .string ⟨k.toArray⟩), (7, .slice a l.length c), (8, .int .i64 l.length), (9, .int .i64 i)]) 0 ⟨Nat.zero_le _, fun i x h => absurd h (Nat.not_lt_zero _)⟩ ?_ (fun _ hl => hl) ?_
  · (repeat (first | exact subF_nil _ | (refine subF_cons rfl ?_) | (refine subF_consv rfl (by rfl) ?_)))
  · rintro i ⟨hk, hs⟩
    by_cases hlt : i < l.length
    · obtain ⟨b1, o1, x, rfl, _, _, hxk, hc1⟩ := TextSlice.get h hlt
      by_cases e : x = k
      · subst e
        repeat (first | refine SX.seq ?_ | refine SXl.nil ?_ | refine SX.region ?_ | refine SQ.thenNormal ?_ | refine SX.block ?_ | refine SX.skip ?_ | refine SX.condT rfl ?_ | (refine l_load ?_; (refine SXl.v (OpW.loadOld rfl (by assumption) (fun h => h)) rfl ?_ ?_ ?_); rfl; rfl) | (refine l_move ?_; (refine SXl.v (OpW.move rfl) rfl ?_ ?_ ?_); rfl; rfl) | (refine l_assign ?_; (refine SXl.v (OpW.assign rfl) rfl ?_ ?_ ?_); rfl; rfl) | (refine l_eql ?_; (refine SXl.v (OpW.eqlStrT rfl rfl (by first | assumption | with_reducible rfl | decide)) rfl ?_ ?_ ?_); rfl; rfl) | (refine l_lss ?_; (refine SXl.v (OpW.lssT rfl rfl (by omega)) rfl ?_ ?_ ?_); rfl; rfl) | (refine l_indexAddr ?_; (refine SXl.v (OpW.indexAddr1 (by omega) rfl rfl) rfl ?_ ?_ ?_); rfl; rfl) | refine SX.ret ?_ | refine SQ.thenRet ?_ | refine SQ.blockRet ?_)
        refine SQ.body1 rfl rfl (fun w' hl => ⟨by rw [keyI_some (idxOf_first hs hxk.out)], hl.mod⟩)
      · repeat (first | refine SX.seq ?_ | refine SXl.nil ?_ | refine SX.region ?_ | refine SQ.thenNormal ?_ | refine SX.block ?_ | refine SX.skip ?_ | refine SX.condT rfl ?_ | refine SX.condF rfl ?_ | (refine l_load ?_; (refine SXl.v (OpW.loadOld rfl (by assumption) (fun h => h)) rfl ?_ ?_ ?_); rfl; rfl) | (refine l_move ?_; (refine SXl.v (OpW.move rfl) rfl ?_ ?_ ?_); rfl; rfl) | (refine l_assign ?_; (refine SXl.v (OpW.assign rfl) rfl ?_ ?_ ?_); rfl; rfl) | (refine l_add ?_; (refine SXl.v (OpW.succ rfl rfl (by omega)) rfl ?_ ?_ ?_); rfl; rfl) | (refine l_eql ?_; (refine SXl.v (OpW.eqlStrF rfl rfl (by first | assumption | with_reducible rfl | decide)) rfl ?_ ?_ ?_); rfl; rfl) | (refine l_lss ?_; (refine SXl.v (OpW.lssT rfl rfl (by omega)) rfl ?_ ?_ ?_); rfl; rfl) | (refine l_indexAddr ?_; (refine SXl.v (OpW.indexAddr1 (by omega) rfl rfl) rfl ?_ ?_ ?_); rfl; rfl) | refine SQ.blockNormal ?_)
        refine SQ.roundi (i + 1) ⟨by omega, ne_succ hs hxk.out e⟩ (by omega) ?_ (fun _ hl => hl)
        (repeat (first | exact subF_nil _ | (refine subF_cons rfl ?_) | (refine subF_consv rfl (by rfl) ?_)))
    · repeat (first | refine SX.seq ?_ | refine SXl.nil ?_ | refine SX.region ?_ | refine SQ.thenNormal ?_ | refine SX.condF rfl ?_ | (refine l_assign ?_; (refine SXl.v (OpW.assign rfl) rfl ?_ ?_ ?_); rfl; rfl) | (refine l_lss ?_; (refine SXl.v (OpW.lssF rfl rfl (by omega)) rfl ?_ ?_ ?_); rfl; rfl) | refine SX.ret ?_ | refine SX.exit ?_ | refine SQ.thenExit ?_ | refine SQ.blockExit ?_)
      refine SQ.body1 rfl rfl (fun w' hl => ⟨by rw [keyI_none (idxOf_none fun j x hj hx => hs j x (by omega) hx)], hl.mod⟩)

end Go.Proofs.YtkkjjhooamlljaaGreatDoor
namespace Go.Proofs.YtkkjjhooamlljaaGreatDoor
open Go.RowKit

set_option maxRecDepth 100000 in
set_option maxHeartbeats 4000000 in
theorem sl26Int_any (b : Nat) (k : List UInt8) (w : World) : Calls Tryz.prog 111 #[.pointer (some ⟨b, 0, none⟩), .string ⟨k.toArray⟩] w fun e w' => e = .returned (.tuple #[.pointer (some ⟨b, (iptr k).1, none⟩), .bool (iptr k).2]) ∧ Mod (fun _ => False) w w' := by
  refine calls_sx Tryz.func111 rfl rfl (fun a h1 h2 h3 => ((Fr.nil h1 h2).arg (h3 1 _ rfl)).arg (h3 0 _ rfl)) ?_
  by_cases k0 : k = [100, 105, 114]
  · subst k0
    repeat (first | refine SX.seq ?_ | refine SXl.nil ?_ | refine SX.region ?_ | refine SQ.thenNormal ?_ | refine SX.block ?_ | refine SX.condT rfl ?_ | (refine l_fieldAddr ?_; (refine SXl.v (OpW.fieldAddr rfl) rfl ?_ ?_ ?_); rfl; rfl) | (refine l_move ?_; (refine SXl.v (OpW.move rfl) rfl ?_ ?_ ?_); rfl; rfl) | (refine l_assign ?_; (refine SXl.v (OpW.assign rfl) rfl ?_ ?_ ?_); rfl; rfl) | (refine l_nilCheck ?_; (refine SXl.v (OpW.nilCheck rfl) rfl ?_ ?_ ?_); rfl; rfl) | (refine l_eql ?_; (refine SXl.v (OpW.eqlStrT rfl rfl (by first | assumption | with_reducible rfl | decide)) rfl ?_ ?_ ?_); rfl; rfl) | refine SX.ret ?_ | refine SQ.thenRet ?_ | refine SQ.blockRet ?_)
    refine SQ.body2 rfl rfl rfl (fun w' hl => ⟨by kernel_rfl, hl.mod⟩)
  by_cases k1 : k = [119, 114, 97, 112]
  · subst k1
    repeat (first | refine SX.seq ?_ | refine SXl.nil ?_ | refine SX.region ?_ | refine SQ.thenNormal ?_ | refine SX.block ?_ | refine SX.condT rfl ?_ | refine SX.condF rfl ?_ | (refine l_fieldAddr ?_; (refine SXl.v (OpW.fieldAddr rfl) rfl ?_ ?_ ?_); rfl; rfl) | (refine l_move ?_; (refine SXl.v (OpW.move rfl) rfl ?_ ?_ ?_); rfl; rfl) | (refine l_assign ?_; (refine SXl.v (OpW.assign rfl) rfl ?_ ?_ ?_); rfl; rfl) | (refine l_nilCheck ?_; (refine SXl.v (OpW.nilCheck rfl) rfl ?_ ?_ ?_); rfl; rfl) | (refine l_eql ?_; (first | refine SXl.v (OpW.eqlStrT rfl rfl (by first | assumption | with_reducible rfl | decide)) rfl ?_ ?_ ?_ | refine SXl.v (OpW.eqlStrF rfl rfl (by first | assumption | with_reducible rfl | decide)) rfl ?_ ?_ ?_); rfl; rfl) | refine SX.ret ?_ | refine SQ.thenRet ?_ | refine SQ.blockRet ?_)
    refine SQ.body2 rfl rfl rfl (fun w' hl => ⟨by kernel_rfl, hl.mod⟩)
  by_cases k2 : k = [106, 117, 115, 116, 105, 102, 121]
  · subst k2
    repeat (first | refine SX.seq ?_ | refine SXl.nil ?_ | refine SX.region ?_ | refine SQ.thenNormal ?_ | refine SX.block ?_ | refine SX.condT rfl ?_ | refine SX.condF rfl ?_ | (refine l_fieldAddr ?_; (refine SXl.v (OpW.fieldAddr rfl) rfl ?_ ?_ ?_); rfl; rfl) | (refine l_move ?_; (refine SXl.v (OpW.move rfl) rfl ?_ ?_ ?_); rfl; rfl) | (refine l_assign ?_; (refine SXl.v (OpW.assign rfl) rfl ?_ ?_ ?_); rfl; rfl) | (refine l_nilCheck ?_; (refine SXl.v (OpW.nilCheck rfl) rfl ?_ ?_ ?_); rfl; rfl) | (refine l_eql ?_; (first | refine SXl.v (OpW.eqlStrT rfl rfl (by first | assumption | with_reducible rfl | decide)) rfl ?_ ?_ ?_ | refine SXl.v (OpW.eqlStrF rfl rfl (by first | assumption | with_reducible rfl | decide)) rfl ?_ ?_ ?_); rfl; rfl) | refine SX.ret ?_ | refine SQ.thenRet ?_ | refine SQ.blockRet ?_)
    refine SQ.body2 rfl rfl rfl (fun w' hl => ⟨by kernel_rfl, hl.mod⟩)
  by_cases k3 : k = [105, 116, 101, 109, 115]
  · subst k3
    repeat (first | refine SX.seq ?_ | refine SXl.nil ?_ | refine SX.region ?_ | refine SQ.thenNormal ?_ | refine SX.block ?_ | refine SX.condT rfl ?_ | refine SX.condF rfl ?_ | (refine l_fieldAddr ?_; (refine SXl.v (OpW.fieldAddr rfl) rfl ?_ ?_ ?_); rfl; rfl) | (refine l_move ?_; (refine SXl.v (OpW.move rfl) rfl ?_ ?_ ?_); rfl; rfl) | (refine l_assign ?_; (refine SXl.v (OpW.assign rfl) rfl ?_ ?_ ?_); rfl; rfl) | (refine l_nilCheck ?_; (refine SXl.v (OpW.nilCheck rfl) rfl ?_ ?_ ?_); rfl; rfl) | (refine l_eql ?_; (first | refine SXl.v (OpW.eqlStrT rfl rfl (by first | assumption | with_reducible rfl | decide)) rfl ?_ ?_ ?_ | refine SXl.v (OpW.eqlStrF rfl rfl (by first | assumption | with_reducible rfl | decide)) rfl ?_ ?_ ?_); rfl; rfl) | refine SX.ret ?_ | refine SQ.thenRet ?_ | refine SQ.blockRet ?_)
    refine SQ.body2 rfl rfl rfl (fun w' hl => ⟨by kernel_rfl, hl.mod⟩)
  by_cases k4 : k = [115, 101, 108, 102]
  · subst k4
    repeat (first | refine SX.seq ?_ | refine SXl.nil ?_ | refine SX.region ?_ | refine SQ.thenNormal ?_ | refine SX.block ?_ | refine SX.condT rfl ?_ | refine SX.condF rfl ?_ | (refine l_fieldAddr ?_; (refine SXl.v (OpW.fieldAddr rfl) rfl ?_ ?_ ?_); rfl; rfl) | (refine l_move ?_; (refine SXl.v (OpW.move rfl) rfl ?_ ?_ ?_); rfl; rfl) | (refine l_assign ?_; (refine SXl.v (OpW.assign rfl) rfl ?_ ?_ ?_); rfl; rfl) | (refine l_nilCheck ?_; (refine SXl.v (OpW.nilCheck rfl) rfl ?_ ?_ ?_); rfl; rfl) | (refine l_eql ?_; (first | refine SXl.v (OpW.eqlStrT rfl rfl (by first | assumption | with_reducible rfl | decide)) rfl ?_ ?_ ?_ | refine SXl.v (OpW.eqlStrF rfl rfl (by first | assumption | with_reducible rfl | decide)) rfl ?_ ?_ ?_); rfl; rfl) | refine SX.ret ?_ | refine SQ.thenRet ?_ | refine SQ.blockRet ?_)
    refine SQ.body2 rfl rfl rfl (fun w' hl => ⟨by kernel_rfl, hl.mod⟩)
  by_cases k5 : k = [99, 111, 110, 116, 101, 110, 116]
  · subst k5
    repeat (first | refine SX.seq ?_ | refine SXl.nil ?_ | refine SX.region ?_ | refine SQ.thenNormal ?_ | refine SX.block ?_ | refine SX.condT rfl ?_ | refine SX.condF rfl ?_ | (refine l_fieldAddr ?_; (refine SXl.v (OpW.fieldAddr rfl) rfl ?_ ?_ ?_); rfl; rfl) | (refine l_move ?_; (refine SXl.v (OpW.move rfl) rfl ?_ ?_ ?_); rfl; rfl) | (refine l_assign ?_; (refine SXl.v (OpW.assign rfl) rfl ?_ ?_ ?_); rfl; rfl) | (refine l_nilCheck ?_; (refine SXl.v (OpW.nilCheck rfl) rfl ?_ ?_ ?_); rfl; rfl) | (refine l_eql ?_; (first | refine SXl.v (OpW.eqlStrT rfl rfl (by first | assumption | with_reducible rfl | decide)) rfl ?_ ?_ ?_ | refine SXl.v (OpW.eqlStrF rfl rfl (by first | assumption | with_reducible rfl | decide)) rfl ?_ ?_ ?_); rfl; rfl) | refine SX.ret ?_ | refine SQ.thenRet ?_ | refine SQ.blockRet ?_)
    refine SQ.body2 rfl rfl rfl (fun w' hl => ⟨by kernel_rfl, hl.mod⟩)
  by_cases k6 : k = [111, 114, 100, 101, 114]
  · subst k6
    repeat (first | refine SX.seq ?_ | refine SXl.nil ?_ | refine SX.region ?_ | refine SQ.thenNormal ?_ | refine SX.block ?_ | refine SX.condT rfl ?_ | refine SX.condF rfl ?_ | (refine l_fieldAddr ?_; (refine SXl.v (OpW.fieldAddr rfl) rfl ?_ ?_ ?_); rfl; rfl) | (refine l_move ?_; (refine SXl.v (OpW.move rfl) rfl ?_ ?_ ?_); rfl; rfl) | (refine l_assign ?_; (refine SXl.v (OpW.assign rfl) rfl ?_ ?_ ?_); rfl; rfl) | (refine l_nilCheck ?_; (refine SXl.v (OpW.nilCheck rfl) rfl ?_ ?_ ?_); rfl; rfl) | (refine l_eql ?_; (first | refine SXl.v (OpW.eqlStrT rfl rfl (by first | assumption | with_reducible rfl | decide)) rfl ?_ ?_ ?_ | refine SXl.v (OpW.eqlStrF rfl rfl (by first | assumption | with_reducible rfl | decide)) rfl ?_ ?_ ?_); rfl; rfl) | refine SX.ret ?_ | refine SQ.thenRet ?_ | refine SQ.blockRet ?_)
    refine SQ.body2 rfl rfl rfl (fun w' hl => ⟨by kernel_rfl, hl.mod⟩)
  by_cases k7 : k = [103, 114, 111, 119]
  · subst k7
    repeat (first | refine SX.seq ?_ | refine SXl.nil ?_ | refine SX.region ?_ | refine SQ.thenNormal ?_ | refine SX.block ?_ | refine SX.condT rfl ?_ | refine SX.condF rfl ?_ | (refine l_fieldAddr ?_; (refine SXl.v (OpW.fieldAddr rfl) rfl ?_ ?_ ?_); rfl; rfl) | (refine l_move ?_; (refine SXl.v (OpW.move rfl) rfl ?_ ?_ ?_); rfl; rfl) | (refine l_assign ?_; (refine SXl.v (OpW.assign rfl) rfl ?_ ?_ ?_); rfl; rfl) | (refine l_nilCheck ?_; (refine SXl.v (OpW.nilCheck rfl) rfl ?_ ?_ ?_); rfl; rfl) | (refine l_eql ?_; (first | refine SXl.v (OpW.eqlStrT rfl rfl (by first | assumption | with_reducible rfl | decide)) rfl ?_ ?_ ?_ | refine SXl.v (OpW.eqlStrF rfl rfl (by first | assumption | with_reducible rfl | decide)) rfl ?_ ?_ ?_); rfl; rfl) | refine SX.ret ?_ | refine SQ.thenRet ?_ | refine SQ.blockRet ?_)
    refine SQ.body2 rfl rfl rfl (fun w' hl => ⟨by kernel_rfl, hl.mod⟩)
  by_cases k8 : k = [115, 104, 114, 105, 110, 107]
  · subst k8
    repeat (first | refine SX.seq ?_ | refine SXl.nil ?_ | refine SX.region ?_ | refine SQ.thenNormal ?_ | refine SX.block ?_ | refine SX.condT rfl ?_ | refine SX.condF rfl ?_ | (refine l_fieldAddr ?_; (refine SXl.v (OpW.fieldAddr rfl) rfl ?_ ?_ ?_); rfl; rfl) | (refine l_move ?_; (refine SXl.v (OpW.move rfl) rfl ?_ ?_ ?_); rfl; rfl) | (refine l_assign ?_; (refine SXl.v (OpW.assign rfl) rfl ?_ ?_ ?_); rfl; rfl) | (refine l_nilCheck ?_; (refine SXl.v (OpW.nilCheck rfl) rfl ?_ ?_ ?_); rfl; rfl) | (refine l_eql ?_; (first | refine SXl.v (OpW.eqlStrT rfl rfl (by first | assumption | with_reducible rfl | decide)) rfl ?_ ?_ ?_ | refine SXl.v (OpW.eqlStrF rfl rfl (by first | assumption | with_reducible rfl | decide)) rfl ?_ ?_ ?_); rfl; rfl) | refine SX.ret ?_ | refine SQ.thenRet ?_ | refine SQ.blockRet ?_)
    refine SQ.body2 rfl rfl rfl (fun w' hl => ⟨by kernel_rfl, hl.mod⟩)
  by_cases k9 : k = [114, 97, 116, 105, 111]
  · subst k9
    repeat (first | refine SX.seq ?_ | refine SXl.nil ?_ | refine SX.region ?_ | refine SQ.thenNormal ?_ | refine SX.block ?_ | refine SX.condT rfl ?_ | refine SX.condF rfl ?_ | (refine l_fieldAddr ?_; (refine SXl.v (OpW.fieldAddr rfl) rfl ?_ ?_ ?_); rfl; rfl) | (refine l_move ?_; (refine SXl.v (OpW.move rfl) rfl ?_ ?_ ?_); rfl; rfl) | (refine l_assign ?_; (refine SXl.v (OpW.assign rfl) rfl ?_ ?_ ?_); rfl; rfl) | (refine l_nilCheck ?_; (refine SXl.v (OpW.nilCheck rfl) rfl ?_ ?_ ?_); rfl; rfl) | (refine l_eql ?_; (first | refine SXl.v (OpW.eqlStrT rfl rfl (by first | assumption | with_reducible rfl | decide)) rfl ?_ ?_ ?_ | refine SXl.v (OpW.eqlStrF rfl rfl (by first | assumption | with_reducible rfl | decide)) rfl ?_ ?_ ?_); rfl; rfl) | refine SX.ret ?_ | refine SQ.thenRet ?_ | refine SQ.blockRet ?_)
    refine SQ.body2 rfl rfl rfl (fun w' hl => ⟨by kernel_rfl, hl.mod⟩)
  by_cases k10 : k = [114, 111, 119, 45, 103, 97, 112]
  · subst k10
    repeat (first | refine SX.seq ?_ | refine SXl.nil ?_ | refine SX.region ?_ | refine SQ.thenNormal ?_ | refine SX.block ?_ | refine SX.condT rfl ?_ | refine SX.condF rfl ?_ | (refine l_fieldAddr ?_; (refine SXl.v (OpW.fieldAddr rfl) rfl ?_ ?_ ?_); rfl; rfl) | (refine l_move ?_; (refine SXl.v (OpW.move rfl) rfl ?_ ?_ ?_); rfl; rfl) | (refine l_assign ?_; (refine SXl.v (OpW.assign rfl) rfl ?_ ?_ ?_); rfl; rfl) | (refine l_nilCheck ?_; (refine SXl.v (OpW.nilCheck rfl) rfl ?_ ?_ ?_); rfl; rfl) | (refine l_eql ?_; (first | refine SXl.v (OpW.eqlStrT rfl rfl (by first | assumption | with_reducible rfl | decide)) rfl ?_ ?_ ?_ | refine SXl.v (OpW.eqlStrF rfl rfl (by first | assumption | with_reducible rfl | decide)) rfl ?_ ?_ ?_); rfl; rfl) | refine SX.ret ?_ | refine SQ.thenRet ?_ | refine SQ.blockRet ?_)
    refine SQ.body2 rfl rfl rfl (fun w' hl => ⟨by kernel_rfl, hl.mod⟩)
  by_cases k11 : k = [99, 111, 108, 45, 103, 97, 112]
  · subst k11
    repeat (first | refine SX.seq ?_ | refine SXl.nil ?_ | refine SX.region ?_ | refine SQ.thenNormal ?_ | refine SX.block ?_ | refine SX.condT rfl ?_ | refine SX.condF rfl ?_ | (refine l_fieldAddr ?_; (refine SXl.v (OpW.fieldAddr rfl) rfl ?_ ?_ ?_); rfl; rfl) | (refine l_move ?_; (refine SXl.v (OpW.move rfl) rfl ?_ ?_ ?_); rfl; rfl) | (refine l_assign ?_; (refine SXl.v (OpW.assign rfl) rfl ?_ ?_ ?_); rfl; rfl) | (refine l_nilCheck ?_; (refine SXl.v (OpW.nilCheck rfl) rfl ?_ ?_ ?_); rfl; rfl) | (refine l_eql ?_; (first | refine SXl.v (OpW.eqlStrT rfl rfl (by first | assumption | with_reducible rfl | decide)) rfl ?_ ?_ ?_ | refine SXl.v (OpW.eqlStrF rfl rfl (by first | assumption | with_reducible rfl | decide)) rfl ?_ ?_ ?_); rfl; rfl) | refine SX.ret ?_ | refine SQ.thenRet ?_ | refine SQ.blockRet ?_)
    refine SQ.body2 rfl rfl rfl (fun w' hl => ⟨by kernel_rfl, hl.mod⟩)
  by_cases k12 : k = [112, 97, 100, 45, 108, 101, 102, 116]
  · subst k12
    repeat (first | refine SX.seq ?_ | refine SXl.nil ?_ | refine SX.region ?_ | refine SQ.thenNormal ?_ | refine SX.block ?_ | refine SX.condT rfl ?_ | refine SX.condF rfl ?_ | (refine l_fieldAddr ?_; (refine SXl.v (OpW.fieldAddr rfl) rfl ?_ ?_ ?_); rfl; rfl) | (refine l_move ?_; (refine SXl.v (OpW.move rfl) rfl ?_ ?_ ?_); rfl; rfl) | (refine l_assign ?_; (refine SXl.v (OpW.assign rfl) rfl ?_ ?_ ?_); rfl; rfl) | (refine l_nilCheck ?_; (refine SXl.v (OpW.nilCheck rfl) rfl ?_ ?_ ?_); rfl; rfl) | (refine l_eql ?_; (first | refine SXl.v (OpW.eqlStrT rfl rfl (by first | assumption | with_reducible rfl | decide)) rfl ?_ ?_ ?_ | refine SXl.v (OpW.eqlStrF rfl rfl (by first | assumption | with_reducible rfl | decide)) rfl ?_ ?_ ?_); rfl; rfl) | refine SX.ret ?_ | refine SQ.thenRet ?_ | refine SQ.blockRet ?_)
    refine SQ.body2 rfl rfl rfl (fun w' hl => ⟨by kernel_rfl, hl.mod⟩)
  by_cases k13 : k = [112, 97, 100, 45, 116, 111, 112]
  · subst k13
    repeat (first | refine SX.seq ?_ | refine SXl.nil ?_ | refine SX.region ?_ | refine SQ.thenNormal ?_ | refine SX.block ?_ | refine SX.condT rfl ?_ | refine SX.condF rfl ?_ | (refine l_fieldAddr ?_; (refine SXl.v (OpW.fieldAddr rfl) rfl ?_ ?_ ?_); rfl; rfl) | (refine l_move ?_; (refine SXl.v (OpW.move rfl) rfl ?_ ?_ ?_); rfl; rfl) | (refine l_assign ?_; (refine SXl.v (OpW.assign rfl) rfl ?_ ?_ ?_); rfl; rfl) | (refine l_nilCheck ?_; (refine SXl.v (OpW.nilCheck rfl) rfl ?_ ?_ ?_); rfl; rfl) | (refine l_eql ?_; (first | refine SXl.v (OpW.eqlStrT rfl rfl (by first | assumption | with_reducible rfl | decide)) rfl ?_ ?_ ?_ | refine SXl.v (OpW.eqlStrF rfl rfl (by first | assumption | with_reducible rfl | decide)) rfl ?_ ?_ ?_); rfl; rfl) | refine SX.ret ?_ | refine SQ.thenRet ?_ | refine SQ.blockRet ?_)
    refine SQ.body2 rfl rfl rfl (fun w' hl => ⟨by kernel_rfl, hl.mod⟩)
  by_cases k14 : k = [112, 97, 100, 45, 114, 105, 103, 104, 116]
  · subst k14
    repeat (first | refine SX.seq ?_ | refine SXl.nil ?_ | refine SX.region ?_ | refine SQ.thenNormal ?_ | refine SX.block ?_ | refine SX.condT rfl ?_ | refine SX.condF rfl ?_ | (refine l_fieldAddr ?_; (refine SXl.v (OpW.fieldAddr rfl) rfl ?_ ?_ ?_); rfl; rfl) | (refine l_move ?_; (refine SXl.v (OpW.move rfl) rfl ?_ ?_ ?_); rfl; rfl) | (refine l_assign ?_; (refine SXl.v (OpW.assign rfl) rfl ?_ ?_ ?_); rfl; rfl) | (refine l_nilCheck ?_; (refine SXl.v (OpW.nilCheck rfl) rfl ?_ ?_ ?_); rfl; rfl) | (refine l_eql ?_; (first | refine SXl.v (OpW.eqlStrT rfl rfl (by first | assumption | with_reducible rfl | decide)) rfl ?_ ?_ ?_ | refine SXl.v (OpW.eqlStrF rfl rfl (by first | assumption | with_reducible rfl | decide)) rfl ?_ ?_ ?_); rfl; rfl) | refine SX.ret ?_ | refine SQ.thenRet ?_ | refine SQ.blockRet ?_)
    refine SQ.body2 rfl rfl rfl (fun w' hl => ⟨by kernel_rfl, hl.mod⟩)
  by_cases k15 : k = [112, 97, 100, 45, 98, 111, 116, 116, 111, 109]
  · subst k15
    repeat (first | refine SX.seq ?_ | refine SXl.nil ?_ | refine SX.region ?_ | refine SQ.thenNormal ?_ | refine SX.block ?_ | refine SX.condT rfl ?_ | refine SX.condF rfl ?_ | (refine l_fieldAddr ?_; (refine SXl.v (OpW.fieldAddr rfl) rfl ?_ ?_ ?_); rfl; rfl) | (refine l_move ?_; (refine SXl.v (OpW.move rfl) rfl ?_ ?_ ?_); rfl; rfl) | (refine l_assign ?_; (refine SXl.v (OpW.assign rfl) rfl ?_ ?_ ?_); rfl; rfl) | (refine l_nilCheck ?_; (refine SXl.v (OpW.nilCheck rfl) rfl ?_ ?_ ?_); rfl; rfl) | (refine l_eql ?_; (first | refine SXl.v (OpW.eqlStrT rfl rfl (by first | assumption | with_reducible rfl | decide)) rfl ?_ ?_ ?_ | refine SXl.v (OpW.eqlStrF rfl rfl (by first | assumption | with_reducible rfl | decide)) rfl ?_ ?_ ?_); rfl; rfl) | refine SX.ret ?_ | refine SQ.thenRet ?_ | refine SQ.blockRet ?_)
    refine SQ.body2 rfl rfl rfl (fun w' hl => ⟨by kernel_rfl, hl.mod⟩)
  by_cases k16 : k = [98, 111, 114, 100, 101, 114, 45, 108, 101, 102, 116]
  · subst k16
    repeat (first | refine SX.seq ?_ | refine SXl.nil ?_ | refine SX.region ?_ | refine SQ.thenNormal ?_ | refine SX.block ?_ | refine SX.condT rfl ?_ | refine SX.condF rfl ?_ | (refine l_fieldAddr ?_; (refine SXl.v (OpW.fieldAddr rfl) rfl ?_ ?_ ?_); rfl; rfl) | (refine l_move ?_; (refine SXl.v (OpW.move rfl) rfl ?_ ?_ ?_); rfl; rfl) | (refine l_assign ?_; (refine SXl.v (OpW.assign rfl) rfl ?_ ?_ ?_); rfl; rfl) | (refine l_nilCheck ?_; (refine SXl.v (OpW.nilCheck rfl) rfl ?_ ?_ ?_); rfl; rfl) | (refine l_eql ?_; (first | refine SXl.v (OpW.eqlStrT rfl rfl (by first | assumption | with_reducible rfl | decide)) rfl ?_ ?_ ?_ | refine SXl.v (OpW.eqlStrF rfl rfl (by first | assumption | with_reducible rfl | decide)) rfl ?_ ?_ ?_); rfl; rfl) | refine SX.ret ?_ | refine SQ.thenRet ?_ | refine SQ.blockRet ?_)
    refine SQ.body2 rfl rfl rfl (fun w' hl => ⟨by kernel_rfl, hl.mod⟩)
  by_cases k17 : k = [98, 111, 114, 100, 101, 114, 45, 116, 111, 112]
  · subst k17
    repeat (first | refine SX.seq ?_ | refine SXl.nil ?_ | refine SX.region ?_ | refine SQ.thenNormal ?_ | refine SX.block ?_ | refine SX.condT rfl ?_ | refine SX.condF rfl ?_ | (refine l_fieldAddr ?_; (refine SXl.v (OpW.fieldAddr rfl) rfl ?_ ?_ ?_); rfl; rfl) | (refine l_move ?_; (refine SXl.v (OpW.move rfl) rfl ?_ ?_ ?_); rfl; rfl) | (refine l_assign ?_; (refine SXl.v (OpW.assign rfl) rfl ?_ ?_ ?_); rfl; rfl) | (refine l_nilCheck ?_; (refine SXl.v (OpW.nilCheck rfl) rfl ?_ ?_ ?_); rfl; rfl) | (refine l_eql ?_; (first | refine SXl.v (OpW.eqlStrT rfl rfl (by first | assumption | with_reducible rfl | decide)) rfl ?_ ?_ ?_ | refine SXl.v (OpW.eqlStrF rfl rfl (by first | assumption | with_reducible rfl | decide)) rfl ?_ ?_ ?_); rfl; rfl) | refine SX.ret ?_ | refine SQ.thenRet ?_ | refine SQ.blockRet ?_)
    refine SQ.body2 rfl rfl rfl (fun w' hl => ⟨by kernel_rfl, hl.mod⟩)
  by_cases k18 : k = [98, 111, 114, 100, 101, 114, 45, 114, 105, 103, 104, 116]
  · subst k18
    repeat (first | refine SX.seq ?_ | refine SXl.nil ?_ | refine SX.region ?_ | refine SQ.thenNormal ?_ | refine SX.block ?_ | refine SX.condT rfl ?_ | refine SX.condF rfl ?_ | (refine l_fieldAddr ?_; (refine SXl.v (OpW.fieldAddr rfl) rfl ?_ ?_ ?_); rfl; rfl) | (refine l_move ?_; (refine SXl.v (OpW.move rfl) rfl ?_ ?_ ?_); rfl; rfl) | (refine l_assign ?_; (refine SXl.v (OpW.assign rfl) rfl ?_ ?_ ?_); rfl; rfl) | (refine l_nilCheck ?_; (refine SXl.v (OpW.nilCheck rfl) rfl ?_ ?_ ?_); rfl; rfl) | (refine l_eql ?_; (first | refine SXl.v (OpW.eqlStrT rfl rfl (by first | assumption | with_reducible rfl | decide)) rfl ?_ ?_ ?_ | refine SXl.v (OpW.eqlStrF rfl rfl (by first | assumption | with_reducible rfl | decide)) rfl ?_ ?_ ?_); rfl; rfl) | refine SX.ret ?_ | refine SQ.thenRet ?_ | refine SQ.blockRet ?_)
    refine SQ.body2 rfl rfl rfl (fun w' hl => ⟨by kernel_rfl, hl.mod⟩)
  by_cases k19 : k = [98, 111, 114, 100, 101, 114, 45, 98, 111, 116, 116, 111, 109]
  · subst k19
    repeat (first | refine SX.seq ?_ | refine SXl.nil ?_ | refine SX.region ?_ | refine SQ.thenNormal ?_ | refine SX.block ?_ | refine SX.condT rfl ?_ | refine SX.condF rfl ?_ | (refine l_fieldAddr ?_; (refine SXl.v (OpW.fieldAddr rfl) rfl ?_ ?_ ?_); rfl; rfl) | (refine l_move ?_; (refine SXl.v (OpW.move rfl) rfl ?_ ?_ ?_); rfl; rfl) | (refine l_assign ?_; (refine SXl.v (OpW.assign rfl) rfl ?_ ?_ ?_); rfl; rfl) | (refine l_nilCheck ?_; (refine SXl.v (OpW.nilCheck rfl) rfl ?_ ?_ ?_); rfl; rfl) | (refine l_eql ?_; (first | refine SXl.v (OpW.eqlStrT rfl rfl (by first | assumption | with_reducible rfl | decide)) rfl ?_ ?_ ?_ | refine SXl.v (OpW.eqlStrF rfl rfl (by first | assumption | with_reducible rfl | decide)) rfl ?_ ?_ ?_); rfl; rfl) | refine SX.ret ?_ | refine SQ.thenRet ?_ | refine SQ.blockRet ?_)
    refine SQ.body2 rfl rfl rfl (fun w' hl => ⟨by kernel_rfl, hl.mod⟩)
  · have e : iptr k = (8, false) := by
      unfold iptr
      by_cases h6 : k = [97, 112, 97, 114, 116]
      · subst h6; kernel_rfl
      by_cases h7 : k = [104, 105, 100, 100, 101, 110]
      · subst h7; kernel_rfl
      have : idxOf intTexts k = none := by
        unfold idxOf
        rw [List.findIdx?_eq_none_iff]
        intro x hx
        rw [decide_eq_false_iff_not]
        rintro rfl
        simp only [intTexts, List.mem_cons, List.not_mem_nil, or_false] at hx
        simp_all
      rw [this]
    repeat (first | refine SX.seq ?_ | refine SXl.nil ?_ | refine SX.region ?_ | refine SQ.thenNormal ?_ | refine SX.block ?_ | refine SX.skip ?_ | refine SX.condF rfl ?_ | (refine l_fieldAddr ?_; (refine SXl.v (OpW.fieldAddr rfl) rfl ?_ ?_ ?_); rfl; rfl) | (refine l_move ?_; (refine SXl.v (OpW.move rfl) rfl ?_ ?_ ?_); rfl; rfl) | (refine l_assign ?_; (refine SXl.v (OpW.assign rfl) rfl ?_ ?_ ?_); rfl; rfl) | (refine l_nilCheck ?_; (refine SXl.v (OpW.nilCheck rfl) rfl ?_ ?_ ?_); rfl; rfl) | (refine l_eql ?_; (refine SXl.v (OpW.eqlStrF rfl rfl (by first | assumption | with_reducible rfl | decide)) rfl ?_ ?_ ?_); rfl; rfl) | refine SX.ret ?_ | refine SQ.blockNormal ?_)
    exact SQ.body2 rfl rfl rfl (fun w' hl => ⟨by rw [e], hl.mod⟩)

set_option maxRecDepth 100000 in
set_option maxHeartbeats 4000000 in
theorem sl26Value_any (b : Nat) (k : List UInt8) (w : World) : Calls Tryz.prog 94 #[.pointer (some ⟨b, 0, none⟩), .string ⟨k.toArray⟩] w fun e w' => e = .returned (.tuple #[.pointer (some ⟨b, (vptr k).1, none⟩), .bool (vptr k).2]) ∧ Mod (fun _ => False) w w' := by
  refine calls_sx Tryz.func94 rfl rfl (fun a h1 h2 h3 => ((Fr.nil h1 h2).arg (h3 1 _ rfl)).arg (h3 0 _ rfl)) ?_
  by_cases k0 : k = [98, 97, 115, 105, 115]
  · subst k0
    repeat (first | refine SX.seq ?_ | refine SXl.nil ?_ | refine SX.region ?_ | refine SQ.thenNormal ?_ | refine SX.block ?_ | refine SX.condT rfl ?_ | (refine l_fieldAddr ?_; (refine SXl.v (OpW.fieldAddr rfl) rfl ?_ ?_ ?_); rfl; rfl) | (refine l_move ?_; (refine SXl.v (OpW.move rfl) rfl ?_ ?_ ?_); rfl; rfl) | (refine l_assign ?_; (refine SXl.v (OpW.assign rfl) rfl ?_ ?_ ?_); rfl; rfl) | (refine l_nilCheck ?_; (refine SXl.v (OpW.nilCheck rfl) rfl ?_ ?_ ?_); rfl; rfl) | (refine l_eql ?_; (refine SXl.v (OpW.eqlStrT rfl rfl (by first | assumption | with_reducible rfl | decide)) rfl ?_ ?_ ?_); rfl; rfl) | refine SX.ret ?_ | refine SQ.thenRet ?_ | refine SQ.blockRet ?_)
    refine SQ.body2 rfl rfl rfl (fun w' hl => ⟨by kernel_rfl, hl.mod⟩)
  by_cases k1 : k = [119, 105, 100, 116, 104]
  · subst k1
    repeat (first | refine SX.seq ?_ | refine SXl.nil ?_ | refine SX.region ?_ | refine SQ.thenNormal ?_ | refine SX.block ?_ | refine SX.condT rfl ?_ | refine SX.condF rfl ?_ | (refine l_fieldAddr ?_; (refine SXl.v (OpW.fieldAddr rfl) rfl ?_ ?_ ?_); rfl; rfl) | (refine l_move ?_; (refine SXl.v (OpW.move rfl) rfl ?_ ?_ ?_); rfl; rfl) | (refine l_assign ?_; (refine SXl.v (OpW.assign rfl) rfl ?_ ?_ ?_); rfl; rfl) | (refine l_nilCheck ?_; (refine SXl.v (OpW.nilCheck rfl) rfl ?_ ?_ ?_); rfl; rfl) | (refine l_eql ?_; (first | refine SXl.v (OpW.eqlStrT rfl rfl (by first | assumption | with_reducible rfl | decide)) rfl ?_ ?_ ?_ | refine SXl.v (OpW.eqlStrF rfl rfl (by first | assumption | with_reducible rfl | decide)) rfl ?_ ?_ ?_); rfl; rfl) | refine SX.ret ?_ | refine SQ.thenRet ?_ | refine SQ.blockRet ?_)
    refine SQ.body2 rfl rfl rfl (fun w' hl => ⟨by kernel_rfl, hl.mod⟩)
  by_cases k2 : k = [104, 101, 105, 103, 104, 116]
  · subst k2
    repeat (first | refine SX.seq ?_ | refine SXl.nil ?_ | refine SX.region ?_ | refine SQ.thenNormal ?_ | refine SX.block ?_ | refine SX.condT rfl ?_ | refine SX.condF rfl ?_ | (refine l_fieldAddr ?_; (refine SXl.v (OpW.fieldAddr rfl) rfl ?_ ?_ ?_); rfl; rfl) | (refine l_move ?_; (refine SXl.v (OpW.move rfl) rfl ?_ ?_ ?_); rfl; rfl) | (refine l_assign ?_; (refine SXl.v (OpW.assign rfl) rfl ?_ ?_ ?_); rfl; rfl) | (refine l_nilCheck ?_; (refine SXl.v (OpW.nilCheck rfl) rfl ?_ ?_ ?_); rfl; rfl) | (refine l_eql ?_; (first | refine SXl.v (OpW.eqlStrT rfl rfl (by first | assumption | with_reducible rfl | decide)) rfl ?_ ?_ ?_ | refine SXl.v (OpW.eqlStrF rfl rfl (by first | assumption | with_reducible rfl | decide)) rfl ?_ ?_ ?_); rfl; rfl) | refine SX.ret ?_ | refine SQ.thenRet ?_ | refine SQ.blockRet ?_)
    refine SQ.body2 rfl rfl rfl (fun w' hl => ⟨by kernel_rfl, hl.mod⟩)
  by_cases k3 : k = [109, 105, 110, 45, 119, 105, 100, 116, 104]
  · subst k3
    repeat (first | refine SX.seq ?_ | refine SXl.nil ?_ | refine SX.region ?_ | refine SQ.thenNormal ?_ | refine SX.block ?_ | refine SX.condT rfl ?_ | refine SX.condF rfl ?_ | (refine l_fieldAddr ?_; (refine SXl.v (OpW.fieldAddr rfl) rfl ?_ ?_ ?_); rfl; rfl) | (refine l_move ?_; (refine SXl.v (OpW.move rfl) rfl ?_ ?_ ?_); rfl; rfl) | (refine l_assign ?_; (refine SXl.v (OpW.assign rfl) rfl ?_ ?_ ?_); rfl; rfl) | (refine l_nilCheck ?_; (refine SXl.v (OpW.nilCheck rfl) rfl ?_ ?_ ?_); rfl; rfl) | (refine l_eql ?_; (first | refine SXl.v (OpW.eqlStrT rfl rfl (by first | assumption | with_reducible rfl | decide)) rfl ?_ ?_ ?_ | refine SXl.v (OpW.eqlStrF rfl rfl (by first | assumption | with_reducible rfl | decide)) rfl ?_ ?_ ?_); rfl; rfl) | refine SX.ret ?_ | refine SQ.thenRet ?_ | refine SQ.blockRet ?_)
    refine SQ.body2 rfl rfl rfl (fun w' hl => ⟨by kernel_rfl, hl.mod⟩)
  by_cases k4 : k = [109, 105, 110, 45, 104, 101, 105, 103, 104, 116]
  · subst k4
    repeat (first | refine SX.seq ?_ | refine SXl.nil ?_ | refine SX.region ?_ | refine SQ.thenNormal ?_ | refine SX.block ?_ | refine SX.condT rfl ?_ | refine SX.condF rfl ?_ | (refine l_fieldAddr ?_; (refine SXl.v (OpW.fieldAddr rfl) rfl ?_ ?_ ?_); rfl; rfl) | (refine l_move ?_; (refine SXl.v (OpW.move rfl) rfl ?_ ?_ ?_); rfl; rfl) | (refine l_assign ?_; (refine SXl.v (OpW.assign rfl) rfl ?_ ?_ ?_); rfl; rfl) | (refine l_nilCheck ?_; (refine SXl.v (OpW.nilCheck rfl) rfl ?_ ?_ ?_); rfl; rfl) | (refine l_eql ?_; (first | refine SXl.v (OpW.eqlStrT rfl rfl (by first | assumption | with_reducible rfl | decide)) rfl ?_ ?_ ?_ | refine SXl.v (OpW.eqlStrF rfl rfl (by first | assumption | with_reducible rfl | decide)) rfl ?_ ?_ ?_); rfl; rfl) | refine SX.ret ?_ | refine SQ.thenRet ?_ | refine SQ.blockRet ?_)
    refine SQ.body2 rfl rfl rfl (fun w' hl => ⟨by kernel_rfl, hl.mod⟩)
  by_cases k5 : k = [109, 97, 120, 45, 119, 105, 100, 116, 104]
  · subst k5
    repeat (first | refine SX.seq ?_ | refine SXl.nil ?_ | refine SX.region ?_ | refine SQ.thenNormal ?_ | refine SX.block ?_ | refine SX.condT rfl ?_ | refine SX.condF rfl ?_ | (refine l_fieldAddr ?_; (refine SXl.v (OpW.fieldAddr rfl) rfl ?_ ?_ ?_); rfl; rfl) | (refine l_move ?_; (refine SXl.v (OpW.move rfl) rfl ?_ ?_ ?_); rfl; rfl) | (refine l_assign ?_; (refine SXl.v (OpW.assign rfl) rfl ?_ ?_ ?_); rfl; rfl) | (refine l_nilCheck ?_; (refine SXl.v (OpW.nilCheck rfl) rfl ?_ ?_ ?_); rfl; rfl) | (refine l_eql ?_; (first | refine SXl.v (OpW.eqlStrT rfl rfl (by first | assumption | with_reducible rfl | decide)) rfl ?_ ?_ ?_ | refine SXl.v (OpW.eqlStrF rfl rfl (by first | assumption | with_reducible rfl | decide)) rfl ?_ ?_ ?_); rfl; rfl) | refine SX.ret ?_ | refine SQ.thenRet ?_ | refine SQ.blockRet ?_)
    refine SQ.body2 rfl rfl rfl (fun w' hl => ⟨by kernel_rfl, hl.mod⟩)
  by_cases k6 : k = [109, 97, 120, 45, 104, 101, 105, 103, 104, 116]
  · subst k6
    repeat (first | refine SX.seq ?_ | refine SXl.nil ?_ | refine SX.region ?_ | refine SQ.thenNormal ?_ | refine SX.block ?_ | refine SX.condT rfl ?_ | refine SX.condF rfl ?_ | (refine l_fieldAddr ?_; (refine SXl.v (OpW.fieldAddr rfl) rfl ?_ ?_ ?_); rfl; rfl) | (refine l_move ?_; (refine SXl.v (OpW.move rfl) rfl ?_ ?_ ?_); rfl; rfl) | (refine l_assign ?_; (refine SXl.v (OpW.assign rfl) rfl ?_ ?_ ?_); rfl; rfl) | (refine l_nilCheck ?_; (refine SXl.v (OpW.nilCheck rfl) rfl ?_ ?_ ?_); rfl; rfl) | (refine l_eql ?_; (first | refine SXl.v (OpW.eqlStrT rfl rfl (by first | assumption | with_reducible rfl | decide)) rfl ?_ ?_ ?_ | refine SXl.v (OpW.eqlStrF rfl rfl (by first | assumption | with_reducible rfl | decide)) rfl ?_ ?_ ?_); rfl; rfl) | refine SX.ret ?_ | refine SQ.thenRet ?_ | refine SQ.blockRet ?_)
    refine SQ.body2 rfl rfl rfl (fun w' hl => ⟨by kernel_rfl, hl.mod⟩)
  by_cases k7 : k = [109, 97, 114, 103, 105, 110, 45, 108, 101, 102, 116]
  · subst k7
    repeat (first | refine SX.seq ?_ | refine SXl.nil ?_ | refine SX.region ?_ | refine SQ.thenNormal ?_ | refine SX.block ?_ | refine SX.condT rfl ?_ | refine SX.condF rfl ?_ | (refine l_fieldAddr ?_; (refine SXl.v (OpW.fieldAddr rfl) rfl ?_ ?_ ?_); rfl; rfl) | (refine l_move ?_; (refine SXl.v (OpW.move rfl) rfl ?_ ?_ ?_); rfl; rfl) | (refine l_assign ?_; (refine SXl.v (OpW.assign rfl) rfl ?_ ?_ ?_); rfl; rfl) | (refine l_nilCheck ?_; (refine SXl.v (OpW.nilCheck rfl) rfl ?_ ?_ ?_); rfl; rfl) | (refine l_eql ?_; (first | refine SXl.v (OpW.eqlStrT rfl rfl (by first | assumption | with_reducible rfl | decide)) rfl ?_ ?_ ?_ | refine SXl.v (OpW.eqlStrF rfl rfl (by first | assumption | with_reducible rfl | decide)) rfl ?_ ?_ ?_); rfl; rfl) | refine SX.ret ?_ | refine SQ.thenRet ?_ | refine SQ.blockRet ?_)
    refine SQ.body2 rfl rfl rfl (fun w' hl => ⟨by kernel_rfl, hl.mod⟩)
  by_cases k8 : k = [109, 97, 114, 103, 105, 110, 45, 116, 111, 112]
  · subst k8
    repeat (first | refine SX.seq ?_ | refine SXl.nil ?_ | refine SX.region ?_ | refine SQ.thenNormal ?_ | refine SX.block ?_ | refine SX.condT rfl ?_ | refine SX.condF rfl ?_ | (refine l_fieldAddr ?_; (refine SXl.v (OpW.fieldAddr rfl) rfl ?_ ?_ ?_); rfl; rfl) | (refine l_move ?_; (refine SXl.v (OpW.move rfl) rfl ?_ ?_ ?_); rfl; rfl) | (refine l_assign ?_; (refine SXl.v (OpW.assign rfl) rfl ?_ ?_ ?_); rfl; rfl) | (refine l_nilCheck ?_; (refine SXl.v (OpW.nilCheck rfl) rfl ?_ ?_ ?_); rfl; rfl) | (refine l_eql ?_; (first | refine SXl.v (OpW.eqlStrT rfl rfl (by first | assumption | with_reducible rfl | decide)) rfl ?_ ?_ ?_ | refine SXl.v (OpW.eqlStrF rfl rfl (by first | assumption | with_reducible rfl | decide)) rfl ?_ ?_ ?_); rfl; rfl) | refine SX.ret ?_ | refine SQ.thenRet ?_ | refine SQ.blockRet ?_)
    refine SQ.body2 rfl rfl rfl (fun w' hl => ⟨by kernel_rfl, hl.mod⟩)
  by_cases k9 : k = [109, 97, 114, 103, 105, 110, 45, 114, 105, 103, 104, 116]
  · subst k9
    repeat (first | refine SX.seq ?_ | refine SXl.nil ?_ | refine SX.region ?_ | refine SQ.thenNormal ?_ | refine SX.block ?_ | refine SX.condT rfl ?_ | refine SX.condF rfl ?_ | (refine l_fieldAddr ?_; (refine SXl.v (OpW.fieldAddr rfl) rfl ?_ ?_ ?_); rfl; rfl) | (refine l_move ?_; (refine SXl.v (OpW.move rfl) rfl ?_ ?_ ?_); rfl; rfl) | (refine l_assign ?_; (refine SXl.v (OpW.assign rfl) rfl ?_ ?_ ?_); rfl; rfl) | (refine l_nilCheck ?_; (refine SXl.v (OpW.nilCheck rfl) rfl ?_ ?_ ?_); rfl; rfl) | (refine l_eql ?_; (first | refine SXl.v (OpW.eqlStrT rfl rfl (by first | assumption | with_reducible rfl | decide)) rfl ?_ ?_ ?_ | refine SXl.v (OpW.eqlStrF rfl rfl (by first | assumption | with_reducible rfl | decide)) rfl ?_ ?_ ?_); rfl; rfl) | refine SX.ret ?_ | refine SQ.thenRet ?_ | refine SQ.blockRet ?_)
    refine SQ.body2 rfl rfl rfl (fun w' hl => ⟨by kernel_rfl, hl.mod⟩)
  by_cases k10 : k = [109, 97, 114, 103, 105, 110, 45, 98, 111, 116, 116, 111, 109]
  · subst k10
    repeat (first | refine SX.seq ?_ | refine SXl.nil ?_ | refine SX.region ?_ | refine SQ.thenNormal ?_ | refine SX.block ?_ | refine SX.condT rfl ?_ | refine SX.condF rfl ?_ | (refine l_fieldAddr ?_; (refine SXl.v (OpW.fieldAddr rfl) rfl ?_ ?_ ?_); rfl; rfl) | (refine l_move ?_; (refine SXl.v (OpW.move rfl) rfl ?_ ?_ ?_); rfl; rfl) | (refine l_assign ?_; (refine SXl.v (OpW.assign rfl) rfl ?_ ?_ ?_); rfl; rfl) | (refine l_nilCheck ?_; (refine SXl.v (OpW.nilCheck rfl) rfl ?_ ?_ ?_); rfl; rfl) | (refine l_eql ?_; (first | refine SXl.v (OpW.eqlStrT rfl rfl (by first | assumption | with_reducible rfl | decide)) rfl ?_ ?_ ?_ | refine SXl.v (OpW.eqlStrF rfl rfl (by first | assumption | with_reducible rfl | decide)) rfl ?_ ?_ ?_); rfl; rfl) | refine SX.ret ?_ | refine SQ.thenRet ?_ | refine SQ.blockRet ?_)
    refine SQ.body2 rfl rfl rfl (fun w' hl => ⟨by kernel_rfl, hl.mod⟩)
  by_cases k11 : k = [109, 97, 114, 103, 105, 110, 45, 115, 116, 97, 114, 116]
  · subst k11
    repeat (first | refine SX.seq ?_ | refine SXl.nil ?_ | refine SX.region ?_ | refine SQ.thenNormal ?_ | refine SX.block ?_ | refine SX.condT rfl ?_ | refine SX.condF rfl ?_ | (refine l_fieldAddr ?_; (refine SXl.v (OpW.fieldAddr rfl) rfl ?_ ?_ ?_); rfl; rfl) | (refine l_move ?_; (refine SXl.v (OpW.move rfl) rfl ?_ ?_ ?_); rfl; rfl) | (refine l_assign ?_; (refine SXl.v (OpW.assign rfl) rfl ?_ ?_ ?_); rfl; rfl) | (refine l_nilCheck ?_; (refine SXl.v (OpW.nilCheck rfl) rfl ?_ ?_ ?_); rfl; rfl) | (refine l_eql ?_; (first | refine SXl.v (OpW.eqlStrT rfl rfl (by first | assumption | with_reducible rfl | decide)) rfl ?_ ?_ ?_ | refine SXl.v (OpW.eqlStrF rfl rfl (by first | assumption | with_reducible rfl | decide)) rfl ?_ ?_ ?_); rfl; rfl) | refine SX.ret ?_ | refine SQ.thenRet ?_ | refine SQ.blockRet ?_)
    refine SQ.body2 rfl rfl rfl (fun w' hl => ⟨by kernel_rfl, hl.mod⟩)
  by_cases k12 : k = [109, 97, 114, 103, 105, 110, 45, 101, 110, 100]
  · subst k12
    repeat (first | refine SX.seq ?_ | refine SXl.nil ?_ | refine SX.region ?_ | refine SQ.thenNormal ?_ | refine SX.block ?_ | refine SX.condT rfl ?_ | refine SX.condF rfl ?_ | (refine l_fieldAddr ?_; (refine SXl.v (OpW.fieldAddr rfl) rfl ?_ ?_ ?_); rfl; rfl) | (refine l_move ?_; (refine SXl.v (OpW.move rfl) rfl ?_ ?_ ?_); rfl; rfl) | (refine l_assign ?_; (refine SXl.v (OpW.assign rfl) rfl ?_ ?_ ?_); rfl; rfl) | (refine l_nilCheck ?_; (refine SXl.v (OpW.nilCheck rfl) rfl ?_ ?_ ?_); rfl; rfl) | (refine l_eql ?_; (first | refine SXl.v (OpW.eqlStrT rfl rfl (by first | assumption | with_reducible rfl | decide)) rfl ?_ ?_ ?_ | refine SXl.v (OpW.eqlStrF rfl rfl (by first | assumption | with_reducible rfl | decide)) rfl ?_ ?_ ?_); rfl; rfl) | refine SX.ret ?_ | refine SQ.thenRet ?_ | refine SQ.blockRet ?_)
    refine SQ.body2 rfl rfl rfl (fun w' hl => ⟨by kernel_rfl, hl.mod⟩)
  by_cases k13 : k = [105, 110, 115, 101, 116, 45, 108, 101, 102, 116]
  · subst k13
    repeat (first | refine SX.seq ?_ | refine SXl.nil ?_ | refine SX.region ?_ | refine SQ.thenNormal ?_ | refine SX.block ?_ | refine SX.condT rfl ?_ | refine SX.condF rfl ?_ | (refine l_fieldAddr ?_; (refine SXl.v (OpW.fieldAddr rfl) rfl ?_ ?_ ?_); rfl; rfl) | (refine l_move ?_; (refine SXl.v (OpW.move rfl) rfl ?_ ?_ ?_); rfl; rfl) | (refine l_assign ?_; (refine SXl.v (OpW.assign rfl) rfl ?_ ?_ ?_); rfl; rfl) | (refine l_nilCheck ?_; (refine SXl.v (OpW.nilCheck rfl) rfl ?_ ?_ ?_); rfl; rfl) | (refine l_eql ?_; (first | refine SXl.v (OpW.eqlStrT rfl rfl (by first | assumption | with_reducible rfl | decide)) rfl ?_ ?_ ?_ | refine SXl.v (OpW.eqlStrF rfl rfl (by first | assumption | with_reducible rfl | decide)) rfl ?_ ?_ ?_); rfl; rfl) | refine SX.ret ?_ | refine SQ.thenRet ?_ | refine SQ.blockRet ?_)
    refine SQ.body2 rfl rfl rfl (fun w' hl => ⟨by kernel_rfl, hl.mod⟩)
  by_cases k14 : k = [105, 110, 115, 101, 116, 45, 116, 111, 112]
  · subst k14
    repeat (first | refine SX.seq ?_ | refine SXl.nil ?_ | refine SX.region ?_ | refine SQ.thenNormal ?_ | refine SX.block ?_ | refine SX.condT rfl ?_ | refine SX.condF rfl ?_ | (refine l_fieldAddr ?_; (refine SXl.v (OpW.fieldAddr rfl) rfl ?_ ?_ ?_); rfl; rfl) | (refine l_move ?_; (refine SXl.v (OpW.move rfl) rfl ?_ ?_ ?_); rfl; rfl) | (refine l_assign ?_; (refine SXl.v (OpW.assign rfl) rfl ?_ ?_ ?_); rfl; rfl) | (refine l_nilCheck ?_; (refine SXl.v (OpW.nilCheck rfl) rfl ?_ ?_ ?_); rfl; rfl) | (refine l_eql ?_; (first | refine SXl.v (OpW.eqlStrT rfl rfl (by first | assumption | with_reducible rfl | decide)) rfl ?_ ?_ ?_ | refine SXl.v (OpW.eqlStrF rfl rfl (by first | assumption | with_reducible rfl | decide)) rfl ?_ ?_ ?_); rfl; rfl) | refine SX.ret ?_ | refine SQ.thenRet ?_ | refine SQ.blockRet ?_)
    refine SQ.body2 rfl rfl rfl (fun w' hl => ⟨by kernel_rfl, hl.mod⟩)
  by_cases k15 : k = [105, 110, 115, 101, 116, 45, 114, 105, 103, 104, 116]
  · subst k15
    repeat (first | refine SX.seq ?_ | refine SXl.nil ?_ | refine SX.region ?_ | refine SQ.thenNormal ?_ | refine SX.block ?_ | refine SX.condT rfl ?_ | refine SX.condF rfl ?_ | (refine l_fieldAddr ?_; (refine SXl.v (OpW.fieldAddr rfl) rfl ?_ ?_ ?_); rfl; rfl) | (refine l_move ?_; (refine SXl.v (OpW.move rfl) rfl ?_ ?_ ?_); rfl; rfl) | (refine l_assign ?_; (refine SXl.v (OpW.assign rfl) rfl ?_ ?_ ?_); rfl; rfl) | (refine l_nilCheck ?_; (refine SXl.v (OpW.nilCheck rfl) rfl ?_ ?_ ?_); rfl; rfl) | (refine l_eql ?_; (first | refine SXl.v (OpW.eqlStrT rfl rfl (by first | assumption | with_reducible rfl | decide)) rfl ?_ ?_ ?_ | refine SXl.v (OpW.eqlStrF rfl rfl (by first | assumption | with_reducible rfl | decide)) rfl ?_ ?_ ?_); rfl; rfl) | refine SX.ret ?_ | refine SQ.thenRet ?_ | refine SQ.blockRet ?_)
    refine SQ.body2 rfl rfl rfl (fun w' hl => ⟨by kernel_rfl, hl.mod⟩)
  by_cases k16 : k = [105, 110, 115, 101, 116, 45, 98, 111, 116, 116, 111, 109]
  · subst k16
    repeat (first | refine SX.seq ?_ | refine SXl.nil ?_ | refine SX.region ?_ | refine SQ.thenNormal ?_ | refine SX.block ?_ | refine SX.condT rfl ?_ | refine SX.condF rfl ?_ | (refine l_fieldAddr ?_; (refine SXl.v (OpW.fieldAddr rfl) rfl ?_ ?_ ?_); rfl; rfl) | (refine l_move ?_; (refine SXl.v (OpW.move rfl) rfl ?_ ?_ ?_); rfl; rfl) | (refine l_assign ?_; (refine SXl.v (OpW.assign rfl) rfl ?_ ?_ ?_); rfl; rfl) | (refine l_nilCheck ?_; (refine SXl.v (OpW.nilCheck rfl) rfl ?_ ?_ ?_); rfl; rfl) | (refine l_eql ?_; (first | refine SXl.v (OpW.eqlStrT rfl rfl (by first | assumption | with_reducible rfl | decide)) rfl ?_ ?_ ?_ | refine SXl.v (OpW.eqlStrF rfl rfl (by first | assumption | with_reducible rfl | decide)) rfl ?_ ?_ ?_); rfl; rfl) | refine SX.ret ?_ | refine SQ.thenRet ?_ | refine SQ.blockRet ?_)
    refine SQ.body2 rfl rfl rfl (fun w' hl => ⟨by kernel_rfl, hl.mod⟩)
  by_cases k17 : k = [105, 110, 115, 101, 116, 45, 115, 116, 97, 114, 116]
  · subst k17
    repeat (first | refine SX.seq ?_ | refine SXl.nil ?_ | refine SX.region ?_ | refine SQ.thenNormal ?_ | refine SX.block ?_ | refine SX.condT rfl ?_ | refine SX.condF rfl ?_ | (refine l_fieldAddr ?_; (refine SXl.v (OpW.fieldAddr rfl) rfl ?_ ?_ ?_); rfl; rfl) | (refine l_move ?_; (refine SXl.v (OpW.move rfl) rfl ?_ ?_ ?_); rfl; rfl) | (refine l_assign ?_; (refine SXl.v (OpW.assign rfl) rfl ?_ ?_ ?_); rfl; rfl) | (refine l_nilCheck ?_; (refine SXl.v (OpW.nilCheck rfl) rfl ?_ ?_ ?_); rfl; rfl) | (refine l_eql ?_; (first | refine SXl.v (OpW.eqlStrT rfl rfl (by first | assumption | with_reducible rfl | decide)) rfl ?_ ?_ ?_ | refine SXl.v (OpW.eqlStrF rfl rfl (by first | assumption | with_reducible rfl | decide)) rfl ?_ ?_ ?_); rfl; rfl) | refine SX.ret ?_ | refine SQ.thenRet ?_ | refine SQ.blockRet ?_)
    refine SQ.body2 rfl rfl rfl (fun w' hl => ⟨by kernel_rfl, hl.mod⟩)
  by_cases k18 : k = [105, 110, 115, 101, 116, 45, 101, 110, 100]
  · subst k18
    repeat (first | refine SX.seq ?_ | refine SXl.nil ?_ | refine SX.region ?_ | refine SQ.thenNormal ?_ | refine SX.block ?_ | refine SX.condT rfl ?_ | refine SX.condF rfl ?_ | (refine l_fieldAddr ?_; (refine SXl.v (OpW.fieldAddr rfl) rfl ?_ ?_ ?_); rfl; rfl) | (refine l_move ?_; (refine SXl.v (OpW.move rfl) rfl ?_ ?_ ?_); rfl; rfl) | (refine l_assign ?_; (refine SXl.v (OpW.assign rfl) rfl ?_ ?_ ?_); rfl; rfl) | (refine l_nilCheck ?_; (refine SXl.v (OpW.nilCheck rfl) rfl ?_ ?_ ?_); rfl; rfl) | (refine l_eql ?_; (first | refine SXl.v (OpW.eqlStrT rfl rfl (by first | assumption | with_reducible rfl | decide)) rfl ?_ ?_ ?_ | refine SXl.v (OpW.eqlStrF rfl rfl (by first | assumption | with_reducible rfl | decide)) rfl ?_ ?_ ?_); rfl; rfl) | refine SX.ret ?_ | refine SQ.thenRet ?_ | refine SQ.blockRet ?_)
    refine SQ.body2 rfl rfl rfl (fun w' hl => ⟨by kernel_rfl, hl.mod⟩)
  · have e : vptr k = (11, false) := by
      unfold vptr
      have : idxOf valueTexts k = none := by
        unfold idxOf
        rw [List.findIdx?_eq_none_iff]
        intro x hx
        rw [decide_eq_false_iff_not]
        rintro rfl
        simp only [valueTexts, List.mem_cons, List.not_mem_nil, or_false] at hx
        simp_all
      rw [this]
    repeat (first | refine SX.seq ?_ | refine SXl.nil ?_ | refine SX.region ?_ | refine SQ.thenNormal ?_ | refine SX.block ?_ | refine SX.skip ?_ | refine SX.condF rfl ?_ | (refine l_fieldAddr ?_; (refine SXl.v (OpW.fieldAddr rfl) rfl ?_ ?_ ?_); rfl; rfl) | (refine l_move ?_; (refine SXl.v (OpW.move rfl) rfl ?_ ?_ ?_); rfl; rfl) | (refine l_assign ?_; (refine SXl.v (OpW.assign rfl) rfl ?_ ?_ ?_); rfl; rfl) | (refine l_nilCheck ?_; (refine SXl.v (OpW.nilCheck rfl) rfl ?_ ?_ ?_); rfl; rfl) | (refine l_eql ?_; (refine SXl.v (OpW.eqlStrF rfl rfl (by first | assumption | with_reducible rfl | decide)) rfl ?_ ?_ ?_); rfl; rfl) | refine SX.ret ?_ | refine SQ.blockNormal ?_)
    exact SQ.body2 rfl rfl rfl (fun w' hl => ⟨by rw [e], hl.mod⟩)
end Go.Proofs.YtkkjjhooamlljaaGreatDoor
namespace Go.Proofs.YtkkjjhooamlljaaGreatDoor
open Go.RowKit

theorem bitOf_any (b : Bool) (w : World) : Calls Tryz.prog 110 #[.bool b] w fun e w' => e = .returned (.int .i64 (bitOf b)) ∧ Mod (fun _ => False) w w' := by
  refine calls_sx Tryz.func110 rfl rfl (fun a h1 h2 h3 => ((Fr.nil h1 h2).arg (h3 0 _ rfl))) ?_
  cases b
  · repeat (first | refine SX.seq ?_ | refine SXl.nil ?_ | refine SX.region ?_ | refine SQ.thenNormal ?_ | refine SX.skip ?_ | refine SX.condF rfl ?_ | (refine l_move ?_; (refine SXl.v (OpW.move rfl) rfl ?_ ?_ ?_); rfl; rfl) | (refine l_assign ?_; (refine SXl.v (OpW.assign rfl) rfl ?_ ?_ ?_); rfl; rfl) | refine SX.ret ?_)
    refine SQ.body1 rfl rfl (fun w' hl => ⟨rfl, hl.mod⟩)
  · repeat (first | refine SX.seq ?_ | refine SXl.nil ?_ | refine SX.region ?_ | refine SQ.thenNormal ?_ | refine SX.condT rfl ?_ | (refine l_move ?_; (refine SXl.v (OpW.move rfl) rfl ?_ ?_ ?_); rfl; rfl) | (refine l_assign ?_; (refine SXl.v (OpW.assign rfl) rfl ?_ ?_ ?_); rfl; rfl) | refine SX.ret ?_ | refine SQ.thenRet ?_)
    refine SQ.body1 rfl rfl (fun w' hl => ⟨rfl, hl.mod⟩)
def numOf (s : Style) (k : List UInt8) : Int × Bool :=
  match idxOf intTexts k with
  | some i => ((styleInts s).getD i 0, true)
  | none => (0, false)
/-- A style's cells lie in block b. -/
def StyleAt (w : World) (b : Nat) (s : Style) : Prop := ∀ j v, s.cells[j]? = some v → w.cell? ⟨b, j, none⟩ = some v
set_option maxRecDepth 100000 in
set_option maxHeartbeats 4000000 in
theorem sl26Num_any (s : Style) (b : Nat) (k : List UInt8) (w : World) (hc : StyleAt w b s) : Calls Tryz.prog 93 #[.pointer (some ⟨b, 0, none⟩), .string ⟨k.toArray⟩] w fun e w' => e = .returned (.tuple #[.int .i64 (numOf s k).1, .bool (numOf s k).2]) ∧ Mod (fun _ => False) w w' := by
  refine calls_sx Tryz.func93 rfl rfl (fun a h1 h2 h3 => ((Fr.nil h1 h2).arg (h3 1 _ rfl)).arg (h3 0 _ rfl)) ?_
  by_cases k1 : k = [97, 112, 97, 114, 116]
  · subst k1
    have c6 := hc 6 _ rfl
    repeat (first | refine SX.seq ?_ | refine SXl.nil ?_ | refine SX.region ?_ | refine SQ.thenNormal ?_ | refine SX.block ?_ | refine SX.condT rfl ?_ | (refine l_call ?_; (refine SXl.v (OpW.call rfl (fun w hl => bitOf_any _ _)) rfl ?_ ?_ ?_); rfl; rfl) | (refine l_load ?_; (refine SXl.v (OpW.loadOld rfl (by assumption) (fun h => h)) rfl ?_ ?_ ?_); rfl; rfl) | (refine l_fieldAddr ?_; (refine SXl.v (OpW.fieldAddr rfl) rfl ?_ ?_ ?_); rfl; rfl) | (refine l_move ?_; (refine SXl.v (OpW.move rfl) rfl ?_ ?_ ?_); rfl; rfl) | (refine l_assign ?_; (refine SXl.v (OpW.assign rfl) rfl ?_ ?_ ?_); rfl; rfl) | (refine l_nilCheck ?_; (refine SXl.v (OpW.nilCheck rfl) rfl ?_ ?_ ?_); rfl; rfl) | (refine l_eql ?_; (refine SXl.v (OpW.eqlStrT rfl rfl (by first | assumption | with_reducible rfl | decide)) rfl ?_ ?_ ?_); rfl; rfl) | refine SX.ret ?_ | refine SQ.thenRet ?_ | refine SQ.blockRet ?_)
    refine SQ.body2 rfl rfl rfl (fun w' hl => ⟨rfl, hl.mod⟩)
  by_cases k2 : k = [104, 105, 100, 100, 101, 110]
  · subst k2
    have c7 := hc 7 _ rfl
    repeat (first | refine SX.seq ?_ | refine SXl.nil ?_ | refine SX.region ?_ | refine SQ.thenNormal ?_ | refine SX.block ?_ | refine SX.condT rfl ?_ | refine SX.condF rfl ?_ | (refine l_call ?_; (refine SXl.v (OpW.call rfl (fun w hl => bitOf_any _ _)) rfl ?_ ?_ ?_); rfl; rfl) | (refine l_load ?_; (refine SXl.v (OpW.loadOld rfl (by assumption) (fun h => h)) rfl ?_ ?_ ?_); rfl; rfl) | (refine l_fieldAddr ?_; (refine SXl.v (OpW.fieldAddr rfl) rfl ?_ ?_ ?_); rfl; rfl) | (refine l_move ?_; (refine SXl.v (OpW.move rfl) rfl ?_ ?_ ?_); rfl; rfl) | (refine l_assign ?_; (refine SXl.v (OpW.assign rfl) rfl ?_ ?_ ?_); rfl; rfl) | (refine l_nilCheck ?_; (refine SXl.v (OpW.nilCheck rfl) rfl ?_ ?_ ?_); rfl; rfl) | (refine l_eql ?_; (first | refine SXl.v (OpW.eqlStrT rfl rfl (by first | assumption | with_reducible rfl | decide)) rfl ?_ ?_ ?_ | refine SXl.v (OpW.eqlStrF rfl rfl (by first | assumption | with_reducible rfl | decide)) rfl ?_ ?_ ?_); rfl; rfl) | refine SX.ret ?_ | refine SQ.thenRet ?_ | refine SQ.blockRet ?_)
    refine SQ.body2 rfl rfl rfl (fun w' hl => ⟨rfl, hl.mod⟩)
  have hcall := sl26Int_any b k
  cases hi : idxOf intTexts k with
  | none =>
    have e1 : iptr k = (8, false) := by unfold iptr; rw [hi]
    have e2 : numOf s k = (0, false) := by unfold numOf; rw [hi]
    rw [e1] at hcall
    rw [e2]
    repeat (first | refine SX.seq ?_ | refine SXl.nil ?_ | refine SX.region ?_ | refine SQ.thenNormal ?_ | refine SX.block ?_ | refine SX.skip ?_ | refine SX.condT rfl ?_ | refine SX.condF rfl ?_ | (refine l_call ?_; (refine SXl.v (OpW.call rfl (fun w hl => hcall _)) rfl ?_ ?_ ?_); rfl; rfl) | (refine l_move ?_; (refine SXl.v (OpW.move rfl) rfl ?_ ?_ ?_); rfl; rfl) | (refine l_assign ?_; (refine SXl.v (OpW.assign rfl) rfl ?_ ?_ ?_); rfl; rfl) | (refine l_eql ?_; (refine SXl.v (OpW.eqlStrF rfl rfl (by first | assumption | with_reducible rfl | decide)) rfl ?_ ?_ ?_); rfl; rfl) | (refine l_not ?_; (refine SXl.v (OpW.not rfl) rfl ?_ ?_ ?_); rfl; rfl) | (refine l_extract ?_; (refine SXl.v (OpW.extract rfl rfl) rfl ?_ ?_ ?_); rfl; rfl) | refine SX.ret ?_ | refine SQ.thenRet ?_ | refine SQ.blockNormal ?_)
    refine SQ.body2 rfl rfl rfl (fun w' hl => ⟨rfl, hl.mod⟩)
  | some i =>
    have hlt : i < 22 := idxOf_lt hi
    have hat := idxOf_at hi
    have h6 : i ≠ 6 := fun e => by subst e; exact k1 (Option.some.inj hat).symm
    have h7 : i ≠ 7 := fun e => by subst e; exact k2 (Option.some.inj hat).symm
    have e1 : iptr k = (ioffs.getD i 0, true) := by unfold iptr; rw [hi]; simp [h6, h7]
    have e2 : numOf s k = ((styleInts s).getD i 0, true) := by unfold numOf; rw [hi]
    have hv := hc _ _ (int_at s hlt h6 h7)
    rw [e1] at hcall
    rw [e2]
    repeat (first | refine SX.seq ?_ | refine SXl.nil ?_ | refine SX.region ?_ | refine SQ.thenNormal ?_ | refine SX.block ?_ | refine SX.skip ?_ | refine SX.condF rfl ?_ | (refine l_call ?_; (refine SXl.v (OpW.call rfl (fun w hl => hcall _)) rfl ?_ ?_ ?_); rfl; rfl) | (refine l_load ?_; (refine SXl.v (OpW.loadOld rfl (by assumption) (fun h => h)) rfl ?_ ?_ ?_); rfl; rfl) | (refine l_move ?_; (refine SXl.v (OpW.move rfl) rfl ?_ ?_ ?_); rfl; rfl) | (refine l_assign ?_; (refine SXl.v (OpW.assign rfl) rfl ?_ ?_ ?_); rfl; rfl) | (refine l_nilCheck ?_; (refine SXl.v (OpW.nilCheck rfl) rfl ?_ ?_ ?_); rfl; rfl) | (refine l_eql ?_; (refine SXl.v (OpW.eqlStrF rfl rfl (by first | assumption | with_reducible rfl | decide)) rfl ?_ ?_ ?_); rfl; rfl) | (refine l_not ?_; (refine SXl.v (OpW.not rfl) rfl ?_ ?_ ?_); rfl; rfl) | (refine l_extract ?_; (refine SXl.v (OpW.extract rfl rfl) rfl ?_ ?_ ?_); rfl; rfl) | refine SX.ret ?_ | refine SQ.blockNormal ?_)
    refine SQ.body2 rfl rfl rfl (fun w' hl => ⟨rfl, hl.mod⟩)

set_option maxRecDepth 100000 in
set_option maxHeartbeats 4000000 in
theorem skeyOf_any (s : Style) (k : List UInt8) (w : World) : Calls Tryz.prog 63 #[.agg s.cells.toArray, .string ⟨k.toArray⟩] w fun e w' => e = .returned (.tuple #[.agg (keyOf s k).1.cells.toArray, .bool (keyOf s k).2]) ∧ Mod (fun _ => False) w w' := by
  refine calls_sx Tryz.func63 rfl rfl (fun a h1 h2 h3 => ((Fr.nil h1 h2).arg (h3 1 _ rfl)).arg (h3 0 _ rfl)) ?_
  have hnum := sl26Num_any s
  have hval := sl26Value_any
  cases hi : idxOf intTexts k with
  | some i =>
    have e2 : numOf s k = ((styleInts s).getD i 0, true) := by unfold numOf; rw [hi]
    have e3 : keyOf s k = (⟨1, (styleInts s).getD i 0⟩, true) := by unfold keyOf; rw [hi]
    rw [e3]
    replace hnum := fun b => hnum b k
    rw [e2] at hnum
    repeat (first | refine SX.seq ?_ | refine SXl.nil ?_ | refine SX.region ?_ | refine SQ.thenNormal ?_ | refine SX.condT rfl ?_ | (refine l_call ?_; (refine SXl.v (OpW.call rfl (fun w hl => hnum _ _ (fun j v hj => hl.cell (i := 1) rfl hj))) rfl ?_ ?_ ?_); rfl; rfl) | (refine l_move ?_; (refine SXl.v (OpW.move rfl) rfl ?_ ?_ ?_); rfl; rfl) | (refine l_assign ?_; (refine SXl.v (OpW.assign rfl) rfl ?_ ?_ ?_); rfl; rfl) | (refine l_build ?_; (refine SXl.v (OpW.build rfl rfl) rfl ?_ ?_ ?_); rfl; rfl) | (refine l_extract ?_; (refine SXl.v (OpW.extract rfl rfl) rfl ?_ ?_ ?_); rfl; rfl) | (refine l_alloc ?_; refine SXl.alloc ?_ ?_ (fun g => ?_); rfl; rfl) | (refine l_box ?_; refine SXl.box ?_ ?_ rfl rfl (fun g => ?_); rfl; rfl) | (refine l_store ?_; first | (refine SXl.storeAll 0 ?_ rfl rfl rfl rfl rfl rfl rfl ?_; rfl; simp only [List.set_cons_zero, List.set_cons_succ]) | (refine SXl.storeAll 1 ?_ rfl rfl rfl rfl rfl rfl rfl ?_; rfl; simp only [List.set_cons_zero, List.set_cons_succ]) | (refine SXl.storeAll 2 ?_ rfl rfl rfl rfl rfl rfl rfl ?_; rfl; simp only [List.set_cons_zero, List.set_cons_succ]) | (refine SXl.storeRow 0 ?_ rfl rfl rfl rfl rfl rfl rfl ?_; rfl; simp only [over, List.set_cons_zero, List.set_cons_succ]) | (refine SXl.storeRow 1 ?_ rfl rfl rfl rfl rfl rfl rfl ?_; rfl; simp only [over, List.set_cons_zero, List.set_cons_succ]) | (refine SXl.storeRow 2 ?_ rfl rfl rfl rfl rfl rfl rfl ?_; rfl; simp only [over, List.set_cons_zero, List.set_cons_succ])) | refine SX.ret ?_ | refine SQ.thenRet ?_)
    refine SQ.bodyCell2 0 rfl rfl rfl rfl rfl (fun w' hl => ⟨rfl, hl.mod⟩)
  | none =>
    have e2 : numOf s k = (0, false) := by unfold numOf; rw [hi]
    replace hnum := fun b => hnum b k
    rw [e2] at hnum
    cases hv : idxOf valueTexts k with
    | none =>
      have e1 : vptr k = (11, false) := by unfold vptr; rw [hv]
      have e3 : keyOf s k = (⟨0, 0⟩, false) := by unfold keyOf; rw [hi]; simp only; rw [hv]
      rw [e3]
      replace hval := fun b => hval b k
      rw [e1] at hval
      repeat (first | refine SX.seq ?_ | refine SXl.nil ?_ | refine SX.region ?_ | refine SQ.thenNormal ?_ | refine SX.skip ?_ | refine SX.condT rfl ?_ | refine SX.condF rfl ?_ | (refine l_call ?_; (first | refine SXl.v (OpW.call rfl (fun w hl => hnum _ _ (fun j v hj => hl.cell (i := 1) rfl hj))) rfl ?_ ?_ ?_ | refine SXl.v (OpW.call rfl (fun w hl => hval _ _)) rfl ?_ ?_ ?_); rfl; rfl) | (refine l_move ?_; (refine SXl.v (OpW.move rfl) rfl ?_ ?_ ?_); rfl; rfl) | (refine l_assign ?_; (refine SXl.v (OpW.assign rfl) rfl ?_ ?_ ?_); rfl; rfl) | (refine l_build ?_; (refine SXl.v (OpW.build rfl rfl) rfl ?_ ?_ ?_); rfl; rfl) | (refine l_not ?_; (refine SXl.v (OpW.not rfl) rfl ?_ ?_ ?_); rfl; rfl) | (refine l_extract ?_; (refine SXl.v (OpW.extract rfl rfl) rfl ?_ ?_ ?_); rfl; rfl) | (refine l_alloc ?_; refine SXl.alloc ?_ ?_ (fun g => ?_); rfl; rfl) | (refine l_box ?_; refine SXl.box ?_ ?_ rfl rfl (fun g => ?_); rfl; rfl) | (refine l_store ?_; first | (refine SXl.storeAll 0 ?_ rfl rfl rfl rfl rfl rfl rfl ?_; rfl; simp only [List.set_cons_zero, List.set_cons_succ]) | (refine SXl.storeAll 1 ?_ rfl rfl rfl rfl rfl rfl rfl ?_; rfl; simp only [List.set_cons_zero, List.set_cons_succ]) | (refine SXl.storeAll 2 ?_ rfl rfl rfl rfl rfl rfl rfl ?_; rfl; simp only [List.set_cons_zero, List.set_cons_succ]) | (refine SXl.storeRow 0 ?_ rfl rfl rfl rfl rfl rfl rfl ?_; rfl; simp only [over, List.set_cons_zero, List.set_cons_succ]) | (refine SXl.storeRow 1 ?_ rfl rfl rfl rfl rfl rfl rfl ?_; rfl; simp only [over, List.set_cons_zero, List.set_cons_succ]) | (refine SXl.storeRow 2 ?_ rfl rfl rfl rfl rfl rfl rfl ?_; rfl; simp only [over, List.set_cons_zero, List.set_cons_succ])) | refine SX.ret ?_ | refine SQ.thenRet ?_)
      refine SQ.bodyCell2 0 rfl rfl rfl rfl rfl (fun w' hl => ⟨rfl, hl.mod⟩)
    | some i =>
      have hlt : i < 19 := idxOf_lt hv
      obtain ⟨hr, hle⟩ := val_at s hlt
      have e1 : vptr k = (voffs.getD i 0, true) := by unfold vptr; rw [hv]
      have e3 : keyOf s k = ((styleVals s).getD i ⟨0, 0⟩, true) := by unfold keyOf; rw [hi]; simp only; rw [hv]
      rw [e3]
      replace hval := fun b => hval b k
      rw [e1] at hval
      repeat (first | refine SX.seq ?_ | refine SXl.nil ?_ | refine SX.region ?_ | refine SQ.thenNormal ?_ | refine SX.skip ?_ | refine SX.condF rfl ?_ | (refine l_call ?_; (first | refine SXl.v (OpW.call rfl (fun w hl => hnum _ _ (fun j v hj => hl.cell (i := 1) rfl hj))) rfl ?_ ?_ ?_ | refine SXl.v (OpW.call rfl (fun w hl => hval _ _)) rfl ?_ ?_ ?_); rfl; rfl) | (refine l_load ?_; (refine SXl.v (OpW.loadRow (cells := s.cells) 1 rfl rfl (Nat.ble_eq_true_of_le hle) hr) rfl ?_ ?_ ?_); rfl; rfl) | (refine l_move ?_; (refine SXl.v (OpW.move rfl) rfl ?_ ?_ ?_); rfl; rfl) | (refine l_assign ?_; (refine SXl.v (OpW.assign rfl) rfl ?_ ?_ ?_); rfl; rfl) | (refine l_nilCheck ?_; (refine SXl.v (OpW.nilCheck rfl) rfl ?_ ?_ ?_); rfl; rfl) | (refine l_not ?_; (refine SXl.v (OpW.not rfl) rfl ?_ ?_ ?_); rfl; rfl) | (refine l_extract ?_; (refine SXl.v (OpW.extract rfl rfl) rfl ?_ ?_ ?_); rfl; rfl) | (refine l_alloc ?_; refine SXl.alloc ?_ ?_ (fun g => ?_); rfl; rfl) | (refine l_box ?_; refine SXl.box ?_ ?_ rfl rfl (fun g => ?_); rfl; rfl) | (refine l_store ?_; first | (refine SXl.storeAll 0 ?_ rfl rfl rfl rfl rfl rfl rfl ?_; rfl; simp only [List.set_cons_zero, List.set_cons_succ]) | (refine SXl.storeAll 1 ?_ rfl rfl rfl rfl rfl rfl rfl ?_; rfl; simp only [List.set_cons_zero, List.set_cons_succ]) | (refine SXl.storeAll 2 ?_ rfl rfl rfl rfl rfl rfl rfl ?_; rfl; simp only [List.set_cons_zero, List.set_cons_succ]) | (refine SXl.storeRow 0 ?_ rfl rfl rfl rfl rfl rfl rfl ?_; rfl; simp only [over, List.set_cons_zero, List.set_cons_succ]) | (refine SXl.storeRow 1 ?_ rfl rfl rfl rfl rfl rfl rfl ?_; rfl; simp only [over, List.set_cons_zero, List.set_cons_succ]) | (refine SXl.storeRow 2 ?_ rfl rfl rfl rfl rfl rfl rfl ?_; rfl; simp only [over, List.set_cons_zero, List.set_cons_succ])) | refine SX.ret ?_)
      refine SQ.bodyCell2 0 rfl rfl rfl rfl rfl (fun w' hl => ⟨rfl, hl.mod⟩)

end Go.Proofs.YtkkjjhooamlljaaGreatDoor
namespace Go.Proofs.YtkkjjhooamlljaaGreatDoor
open Go.RowKit

/-- The keys' texts, where a call has laid them. -/
structure IntKept (q : SlP) (w : World) : Prop where
  h : (ownRes tcell 9 1 intTexts q).says w
structure ValKept (q : SlP) (w : World) : Prop where
  h : (ownRes tcell 9 1 valueTexts q).says w
end Go.Proofs.YtkkjjhooamlljaaGreatDoor
namespace Go.Proofs.YtkkjjhooamlljaaGreatDoor
open Go.RowKit

/-- What a block that a pointer names is. -/
def gOf (v : Value) : Nat := match v with
  | .pointer (some a) => a.block
  | _ => 0
/-- Only a new block of the cells z may turn, to the cells r. -/
def TQ (B T0 : Nat) (z r : List Value) (w w' : World) : Prop := Mod (fun k => B ≤ k ∧ w.heap[k]? = some (.cells z.toArray T0 (0, 0)) ∧ w'.heap[k]? = some (.cells r.toArray T0 (0, 0))) w w'
structure Far (W : World) (L : List Blk) (O : List Own) (E : List Res) (B : Nat) : Prop where
  old : W.heap.size ≤ B
  blk : ∀ b ∈ L, b.g < B
  own : ∀ o ∈ O, ∀ k, o.v.ownBlock = some k → k < B
  res : ∀ F ∈ E, ∀ k, F.foot k → k < B
section
variable {P : Program} {n : Nat} {W : World} {R : Rg W} {L : List Blk} {O : List Own} {E : List Res} {w w' : World} {B T0 : Nat} {z r : List Value}
theorem Loc.far (h : Loc W R L O E w) : Far W L O E w.heap.size := ⟨h.mod.size, fun b hb => h.blk_lt hb, fun o ho k hk => (ownBlock_lt (h.own o ho).1 hk).2, fun F hF k hk => (h.res F hF).2.1 k hk⟩
theorem Loc.keepQ (hf : Far W L O E B) (h : Loc W R L O E w) (hm : TQ B T0 z r w w') : Loc W R L O E w' :=
  h.frame hm (fun k hk hs => by have := hf.old; have := hs.1; omega) (fun b hb hs => by have := hf.blk b hb; have := hs.1; omega) (fun o ho k hk hs => by have := hf.own o ho k hk; have := hs.1; omega) (fun F hF k hk hs => by have := hf.res F hF k hk; have := hs.1; omega)
theorem Loc.addNew (hf : Far W L O E B) (h : Loc W R L O E w) {g : Nat} (hg : B ≤ g) (hb : w.heap[g]? = some (.cells r.toArray T0 (0, 0))) : Loc W R (⟨g, r, T0⟩ :: L) O E w where
  mod := h.mod
  inv := h.inv
  blk := fun b hbm => by
    rcases List.mem_cons.1 hbm with rfl | hbm
    · exact ⟨.inr (Nat.le_trans hf.old hg), hb⟩
    · exact h.blk b hbm
  apart := List.pairwise_cons.2 ⟨fun b hbm e => by have := hf.blk b hbm; simp only at e; omega, h.apart⟩
  own := fun o ho => ⟨(h.own o ho).1, fun b hbm e => by
    rcases List.mem_cons.1 hbm with rfl | hbm
    · have := hf.own o ho _ e; simp only at this; omega
    · exact (h.own o ho).2 b hbm e⟩
  ownApart := h.ownApart
  res := fun F hF => ⟨(h.res F hF).1, (h.res F hF).2.1, fun b hbm f => by
    rcases List.mem_cons.1 hbm with rfl | hbm
    · have := hf.res F hF _ f; simp only at this; omega
    · exact (h.res F hF).2.2.1 b hbm f, (h.res F hF).2.2.2⟩
  resNew := h.resNew
  resApart := h.resApart
/-- A pointer at a new block of the cells z or r. -/
def AV (B T0 : Nat) (z r : List Value) (w : World) (v : Value) : Prop := ∃ g, v = .pointer (some ⟨g, 0, none⟩) ∧ B ≤ g ∧ (w.heap[g]? = some (.cells z.toArray T0 (0, 0)) ∨ w.heap[g]? = some (.cells r.toArray T0 (0, 0)))
theorem AV.keep {v : Value} (h : AV B T0 z r w v) (hm : TQ B T0 z r w w') : AV B T0 z r w' v := by
  obtain ⟨g, h1, h2, h3⟩ := h
  refine ⟨g, h1, h2, ?_⟩
  by_cases hs : B ≤ g ∧ w.heap[g]? = some (.cells z.toArray T0 (0, 0)) ∧ w'.heap[g]? = some (.cells r.toArray T0 (0, 0))
  · exact .inr hs.2.2
  · have hlt : g < w.heap.size := by rcases h3 with h3 | h3 <;> exact (Array.getElem?_eq_some_iff.1 h3).1
    rw [hm.block g hlt hs]
    exact h3
/-- The block that operation ka made holds the cells r. -/
def SV (ka T0 : Nat) (r : List Value) (x : Nat → Value) (w : World) (_ : Value) : Prop := w.heap[gOf (x ka)]? = some (.cells r.toArray T0 (0, 0))
theorem SV.keep {ka : Nat} {x : Nat → Value} {v : Value} (h : SV ka T0 r x w v) (hm : TQ B T0 z r w w') : SV ka T0 r x w' v := by
  unfold SV at *
  by_cases hs : B ≤ gOf (x ka) ∧ w.heap[gOf (x ka)]? = some (.cells z.toArray T0 (0, 0)) ∧ w'.heap[gOf (x ka)]? = some (.cells r.toArray T0 (0, 0))
  · exact hs.2.2
  · rw [hm.block _ (Array.getElem?_eq_some_iff.1 h).1 hs]
    exact h
structure SXq (P : Program) (n : Nat) (W : World) (R : Rg W) (ops : Array Oper) (L : List Blk) (O : List Own) (E : List Res) (B T0 : Nat) (z r : List Value) (k : Nat) (U : List (Nat × ((Nat → Value) → World → Value → Prop))) (f : (Nat → Value) → List (Nat × Value)) (l : List Oper) (Q : Exit → Act → World → Prop) : Prop where
  run : ∀ F : (Nat → Value) → Act, (∀ x, Fr n (f x) (F x)) → RS P ops (TQ B T0 z r) (fun w => Loc W R L O E w ∧ B ≤ w.heap.size) Q k l F U
end
section
variable {P : Program} {n : Nat} {W : World} {R : Rg W} {L : List Blk} {O : List Own} {E : List Res} {U : List (Nat × ((Nat → Value) → World → Value → Prop))} {f : (Nat → Value) → List (Nat × Value)} {f0 : List (Nat × Value)} {Q : Exit → Act → World → Prop} {ops : Array Oper} {rest : List Oper} {k B T0 : Nat} {z r : List Value}
theorem SXq.v {o : Oper} {v : Value} {d : Nat} (hr : ∀ x, OpW P n W R L O E (f x) o v) (hdst : o.dst = some d) (hw : ∀ x, wantO ops (f x) o = some true) (hd : Nat.blt d n = true) (h : SXq P n W R ops L O E B T0 z r (k + 1) U (fun x => (d, v) :: f x) rest Q) : SXq P n W R ops L O E B T0 z r k U f (o :: rest) Q := ⟨fun F hF =>
  RS.val [] (fun _ => v) rfl (fun _ _ _ => rfl) (fun x => wanted_of (hF x) (hw x)) (fun x w hS _ => wp_never ((hr x).run _ w (hF x) hS.1) fun _ _ ⟨h1, h2⟩ => ⟨h1, ⟨hS.1.keep h2, Nat.le_trans hS.2 h2.size⟩, h2.mono fun _ _ f => f.elim⟩) (by rw [hdst]; exact h.run _ fun x => (hF x).put hd v)⟩
/-- The value of an operation that hangs on the block that operation ka handed back. -/
theorem SXq.vk {o : Oper} {d : Nat} (ka : Nat) (v : Value → Value) (hus : ([ka].all fun i => (reach ops ops.size k).contains i) = true) (hr : ∀ x, OpW P n W R L O E (f x) o (v (x ka))) (hdst : o.dst = some d) (hw : ∀ x, wantO ops (f x) o = some true) (hd : Nat.blt d n = true) (h : SXq P n W R ops L O E B T0 z r (k + 1) U (fun x => (d, v (x ka)) :: f x) rest Q) : SXq P n W R ops L O E B T0 z r k U f (o :: rest) Q := ⟨fun F hF =>
  RS.val [ka] (fun x => v (x ka)) hus (fun x y h => by rw [h ka List.mem_cons_self]) (fun x => wanted_of (hF x) (hw x)) (fun x w hS _ => wp_never ((hr x).run _ w (hF x) hS.1) fun _ _ ⟨h1, h2⟩ => ⟨h1, ⟨hS.1.keep h2, Nat.le_trans hS.2 h2.size⟩, h2.mono fun _ _ f => f.elim⟩) (by rw [hdst]; exact h.run _ fun x => (hF x).put hd (v (x ka)))⟩
theorem SXq.no {o : Oper} {d : Nat} (hw : ∀ x, wantO ops (f x) o = some false) (hdst : o.dst = some d) (hd : Nat.blt d n = true) (h : SXq P n W R ops L O E B T0 z r (k + 1) U (fun x => (d, undef) :: f x) rest Q) : SXq P n W R ops L O E B T0 z r k U f (o :: rest) Q := ⟨fun F hF =>
  RS.skip (fun x => wanted_of (hF x) (hw x)) (by rw [hdst]; exact h.run _ fun x => (hF x).put hd undef)⟩
variable {d m ka ks : Nat} {xo yo : Operand} {ty : TypeId} {pos : String} {af : Array Edge} {gd : Option (Nat × Bool)}
theorem SXq.alloc [t : TZero P T0 z] (hf : Far W L O E B) (hw : ∀ x, wantO ops (f x) ⟨some d, .alloc T0, ty, pos, af, gd⟩ = some true) (hd : Nat.blt d n = true)
    (h : SXq P n W R ops L O E B T0 z r (k + 1) ((k, fun _ => AV B T0 z r) :: U) (fun x => (d, .pointer (some ⟨gOf (x k), 0, none⟩)) :: f x) rest Q) : SXq P n W R ops L O E B T0 z r k U f (⟨some d, .alloc T0, ty, pos, af, gd⟩ :: rest) Q := ⟨fun F hF =>
  RS.new [] (AV B T0 z r) (fun v => .pointer (some ⟨gOf v, 0, none⟩)) (fun _ v ⟨g, hv, _⟩ => by subst hv; rfl) rfl (fun _ _ _ h hm => h.keep hm) (fun x => wanted_of (hF x) (hw x)) (fun x w hS _ => by
    obtain ⟨v, h1, h2⟩ := t.h
    obtain ⟨i, hi, hz⟩ := Option.map_eq_some_iff.1 h1
    have hrun : (execOp (F x).eval ⟨some d, .alloc T0, ty, pos, af, gd⟩).run P w = .ok (.value (.pointer (some ⟨w.heap.size, 0, none⟩))) (w.alloc (.cells z.toArray T0)) := by
      simp [execOp, Instr.alloc, zeroValue, typeInfo, hi, hz, newVar, newRow, h2]
    unfold Oper.wp
    rw [hrun, Oper.upon_value]
    have hm : Mod (fun _ => False) w (w.alloc (.cells z.toArray T0)) := (Mod.refl _ w).alloc _
    exact ⟨_, rfl, ⟨w.heap.size, rfl, hS.2, .inl (heap_alloc_new w _)⟩, ⟨hS.1.keep hm, Nat.le_trans hS.2 hm.size⟩, hm.mono fun _ _ f => f.elim⟩) (h.run _ fun x => (hF x).put hd _)⟩
theorem SXq.store (ka : Nat) [t : TRow P T0 m] (hf : Far W L O E B) (hus : ([ka].all fun i => (reach ops ops.size k).contains i) = true) (hU : (ka, fun _ => AV B T0 z r) ∈ U) (hw : ∀ x, wantO ops (f x) ⟨none, .store T0 xo yo, ty, pos, af, gd⟩ = some true) (hx : ∀ x, evO (f x) xo = some (.pointer (some ⟨gOf (x ka), 0, none⟩))) (hy : ∀ x, evO (f x) yo = some (.agg r.toArray)) (hr : r.length = m) (hz : z.length = m) (hv : r.all (·.oneCell') = true)
    (h : SXq P n W R ops L O E B T0 z r (k + 1) ((k, SV ka T0 r) :: U) f rest Q) : SXq P n W R ops L O E B T0 z r k U f (⟨none, .store T0 xo yo, ty, pos, af, gd⟩ :: rest) Q := ⟨fun F hF =>
  RS.newx [ka] (SV ka T0 r) id (fun _ _ _ _ => rfl) hus ⟨fun _ _ _ _ h hm => h.keep hm, fun x y w v hxy h => by unfold SV at *; rw [← hxy ka List.mem_cons_self]; exact h⟩ (fun x => wanted_of (hF x) (hw x)) (fun x w hS hK => by
    obtain ⟨_, h3⟩ := t.h
    obtain ⟨g, hg, hB, hc⟩ := hK _ hU List.mem_cons_self
    have eg : gOf (x ka) = g := by rw [hg]; rfl
    have hxx := hx x
    rw [eg] at hxx
    have key : ∀ cs : List Value, cs.length = m → w.heap[g]? = some (.cells cs.toArray T0 (0, 0)) → (execOp (F x).eval ⟨none, .store T0 xo yo, ty, pos, af, gd⟩).run P w = .ok .skip (w.setCells g 0 r) ∧ (w.setCells g 0 r).heap[g]? = some (.cells r.toArray T0 (0, 0)) := fun cs hcs hb => by
      have e := run_store_row (P := P) (ty := T0) h3 (w := w) (b := g) (o := 0) (S := r.toArray) (by simp [hasRow, hb, hcs]) (by simp [openRow, hb]) (by simpa using hr) (by simpa using hv)
      refine ⟨by simp [execOp, (hF x).eval hxx, (hF x).eval (hy x), e], ?_⟩
      rw [setCells_heap g r 0 w _ _ _ hb, spl_over]
      have := over_all r cs [] (by omega)
      simp only [List.nil_append, List.length_nil] at this
      rw [this]
    have hmm := mod_setCells g r 0 w
    have fin : (execOp (F x).eval ⟨none, .store T0 xo yo, ty, pos, af, gd⟩).run P w = .ok .skip (w.setCells g 0 r) ∧ (w.setCells g 0 r).heap[g]? = some (.cells r.toArray T0 (0, 0)) ∧ TQ B T0 z r w (w.setCells g 0 r) := by
      rcases hc with hc | hc
      · obtain ⟨k1, k2⟩ := key z hz hc
        exact ⟨k1, k2, hmm.mono fun k _ e => by subst e; exact ⟨hB, hc, k2⟩⟩
      · obtain ⟨k1, k2⟩ := key r hr hc
        exact ⟨k1, k2, hmm.os, hmm.tape, hmm.output, hmm.size, fun k hk hn => by
          by_cases e : k = g
          · subst e; rw [k2, hc]
          · exact hmm.block k hk e⟩
    obtain ⟨k1, k2, k3⟩ := fin
    unfold Oper.wp
    rw [k1, Oper.upon_skip]
    exact ⟨undef, rfl, by unfold SV; rw [eg]; exact k2, ⟨Loc.keepQ hf hS.1 k3, Nat.le_trans hS.2 k3.size⟩, k3⟩) (h.run _ hF)⟩
theorem SXq.nil (ka ks : Nat) (hf : Far W L O E B) (hA : (ka, fun _ => AV B T0 z r) ∈ U) (hS : (ks, SV ka T0 r) ∈ U) (h : ∀ x, SQ n W R (⟨gOf (x ka), r, T0⟩ :: L) O E (f x) .normal Q) : SXq P n W R ops L O E B T0 z r k U f [] Q := ⟨fun F hF => RS.done fun x w hSw hU => by
  obtain ⟨g, hg, hB, _⟩ := hU _ hA
  have hs := hU _ hS
  have eg : gOf (x ka) = g := by rw [hg]; rfl
  exact (h x).run _ w (hF x) (Loc.addNew hf hSw.1 (by rw [eg]; exact hB) hs)⟩
/-! A literal slice of one cell, made in the region's head. -/
def sOf (v : Value) : Nat := match v with
  | .slice (some a) _ _ => a.block
  | _ => 0
def BV (B e : Nat) (u : Value) (w : World) (v : Value) : Prop := ∃ g, v = .slice (some ⟨g, 0, none⟩) 1 1 ∧ B ≤ g ∧ w.heap[g]? = some (.cells #[u] e (0, 0))
theorem SX.drawnQT {id : Nat} {l : List Oper} (m : Nat) (T0 : Nat) (z r : List Value) (hm : P.follows .mixedOrders = true) (hc : regOkTo m l.toArray = true) (ht : tailOk l.toArray m = true) (h : ∀ B, Far W L O E B → SXq P n W R l.toArray L O E B T0 z r 0 [] (fun _ => f0) (l.take m) (fun _ a w => wpList P l.toArray Q (l.drop m) a w)) : SX P n W R L O E f0 (.region id l.toArray true) Q := ⟨fun a w hf hl =>
  wp_region_rs_tail m (fun w' => Loc W R L O E w' ∧ w.heap.size ≤ w'.heap.size) (TQ w.heap.size T0 z r) hm hc ht ⟨hl.keep ((Mod.refl _ w).drew), Nat.le_refl _⟩ ((h w.heap.size hl.far).run _ fun _ => hf)⟩
theorem SXq.lit1 {T e by_ : Nat} {zv u : Value} [t : TSl P T e 1] [te : TEl P e 1 by_ zv] (hf : Far W L O E B) (hw : ∀ x, wantO ops (f x) ⟨some d, .buildSlice T 1 #[(0, xo)], ty, pos, af, gd⟩ = some true) (hd : Nat.blt d n = true) (hx : ∀ x, evO (f x) xo = some u) (hv : u.cells = #[u]) (hz : zv.cells = #[zv])
    (h : SXq P n W R ops L O E B T0 [] r (k + 1) ((k, fun _ => BV B e u) :: U) (fun x => (d, .slice (some ⟨sOf (x k), 0, none⟩) 1 1) :: f x) rest Q) : SXq P n W R ops L O E B T0 [] r k U f (⟨some d, .buildSlice T 1 #[(0, xo)], ty, pos, af, gd⟩ :: rest) Q := ⟨fun F hF =>
  RS.new [] (BV B e u) (fun v => .slice (some ⟨sOf v, 0, none⟩) 1 1) (fun _ v ⟨g, hv, _⟩ => by subst hv; rfl) rfl (fun w w' v ⟨g, h1, h2, h3⟩ hm => ⟨g, h1, h2, by
    rw [hm.block g (Array.getElem?_eq_some_iff.1 h3).1 (fun hs => by have := hs.2.1; rw [h3] at this; simp at this)]
    exact h3⟩) (fun x => wanted_of (hF x) (hw x)) (fun x w hS _ => by
    obtain ⟨i0, q1, q2, q3, q4, q5, q6⟩ := te.h
    have hfill : Instr.fill (fun i => some (i, 1)) #[zv] [(0, u)] = some #[u] := by
      unfold Instr.fill
      simp [hv, Instr.fill, List.zipIdx]
      rw [hv]
      rfl
    have hrun : (execOp (F x).eval ⟨some d, .buildSlice T 1 #[(0, xo)], ty, pos, af, gd⟩).run P w = .ok (.value (.slice (some ⟨w.heap.size, 0, none⟩) 1 1)) (w.alloc (.cells #[u] e)) := by
      have e3 : (Array.range 1).map (fun _ => zv) = #[zv] := by
        apply Array.ext_getElem?
        intro i
        cases i <;> simp [Array.getElem?_map, Array.getElem?_range]
      simp only [execOp, Instr.buildSlice, Sem.run_bind, run_underlying t.h.1, Result.andThen_ok, sizeOf, typeInfo, run_program, q1, Sem.run_pure, q3, Nat.mul_one]
      simp [newRow, zeroValue, typeInfo, q1, q2, hz, Nat.mod_one, (hF x).eval (hx x), e3, hfill]
    unfold Oper.wp
    rw [hrun, Oper.upon_value]
    have hm : Mod (fun _ => False) w (w.alloc (.cells #[u] e)) := (Mod.refl _ w).alloc _
    exact ⟨_, rfl, ⟨w.heap.size, rfl, hS.2, heap_alloc_new w _⟩, ⟨hS.1.keep hm, Nat.le_trans hS.2 hm.size⟩, hm.mono fun _ _ f => f.elim⟩) (h.run _ fun x => (hF x).put hd _)⟩
def NB (B e len : Nat) (cells : List Value) (w : World) (v : Value) : Prop := ∃ g, v = .slice (some ⟨g, 0, none⟩) len len ∧ B ≤ g ∧ w.heap[g]? = some (.cells cells.toArray e (0, 0))
theorem SXq.callB {e len fn : Nat} {cells args : List Value} {ars : List Operand} {aT : Array TypeId} [TFun P fn] (hf : Far W L O E B) (hne : cells ≠ []) (hw : ∀ x, wantO ops (f x) ⟨some d, .call ⟨.value (.func fn), ars.toArray, aT⟩, ty, pos, af, gd⟩ = some true) (hd : Nat.blt d n = true) (ha : ∀ x, evL (f x) ars = some args)
    (hc : ∀ w, Loc W R L O E w → Calls P fn args.toArray w fun en w' => ∃ g, en = .returned (.slice (some ⟨g, 0, none⟩) len len) ∧ w.heap.size ≤ g ∧ w'.heap[g]? = some (.cells cells.toArray e (0, 0)) ∧ Mod (fun _ => False) w w')
    (h : SXq P n W R ops L O E B T0 [] r (k + 1) ((k, fun _ => NB B e len cells) :: U) (fun x => (d, .slice (some ⟨sOf (x k), 0, none⟩) len len) :: f x) rest Q) : SXq P n W R ops L O E B T0 [] r k U f (⟨some d, .call ⟨.value (.func fn), ars.toArray, aT⟩, ty, pos, af, gd⟩ :: rest) Q := ⟨fun F hF =>
  RS.new [] (NB B e len cells) (fun v => .slice (some ⟨sOf v, 0, none⟩) len len) (fun _ v ⟨g, hv, _⟩ => by subst hv; rfl) rfl (fun w w' v ⟨g, h1, h2, h3⟩ hm => ⟨g, h1, h2, by
    rw [hm.block g (Array.getElem?_eq_some_iff.1 h3).1 (fun hs => by
      have := hs.2.1
      rw [h3] at this
      simp only [Option.some.injEq, Obj.cells.injEq] at this
      exact hne (by simpa using this.1))]
    exact h3⟩) (fun x => wanted_of (hF x) (hw x)) (fun x w hS _ => by
    unfold Oper.wp
    rw [run_callop (hF x) (ha x) w _ _, Oper.upon_enter]
    refine (hc w hS.1).mono ?_
    rintro en w' ⟨g, rfl, hg, hb, hm⟩
    exact ⟨_, rfl, ⟨g, rfl, Nat.le_trans hS.2 hg, hb⟩, ⟨hS.1.keep hm, Nat.le_trans hS.2 hm.size⟩, hm.mono fun _ _ f => f.elim⟩) (h.run _ fun x => (hF x).put hd _)⟩
theorem SXq.loadB {e len o T : Nat} {cells : List Value} {v : Value} (ka : Nat) [t : TOne P T] (hus : ([ka].all fun i => (reach ops ops.size k).contains i) = true) (hU : (ka, fun _ => NB B e len cells) ∈ U) (hw : ∀ x, wantO ops (f x) ⟨some d, .load T xo, ty, pos, af, gd⟩ = some true) (hd : Nat.blt d n = true) (hx : ∀ x, evO (f x) xo = some (.pointer (some ⟨sOf (x ka), o, none⟩))) (hv : cells[o]? = some v)
    (h : SXq P n W R ops L O E B T0 z r (k + 1) U (fun x => (d, v) :: f x) rest Q) : SXq P n W R ops L O E B T0 z r k U f (⟨some d, .load T xo, ty, pos, af, gd⟩ :: rest) Q := ⟨fun F hF =>
  RS.val [ka] (fun _ => v) hus (fun _ _ _ => rfl) (fun x => wanted_of (hF x) (hw x)) (fun x w hS hK => by
    obtain ⟨g, hg, hB, hb⟩ := hK _ hU List.mem_cons_self
    have eg : sOf (x ka) = g := by rw [hg]; rfl
    have hxx := hx x
    rw [eg] at hxx
    have hcell : w.cell? ⟨g, o, none⟩ = some v := blk_cell hb hv
    unfold Oper.wp
    have hrun : (execOp (F x).eval ⟨some d, .load T xo, ty, pos, af, gd⟩).run P w = .ok (.value v) w := by simp [execOp, (hF x).eval hxx, run_load1 hcell]
    rw [hrun, Oper.upon_value]
    exact ⟨rfl, hS, Mod.refl _ _⟩) (h.run _ fun x => (hF x).put hd v)⟩
theorem SXq.tail (h : ∀ x, SXl P n W R ops L O E (f x) rest Q) : SXq P n W R ops L O E B T0 z r k U f [] (fun _ a w => wpList P ops Q rest a w) := ⟨fun F hF => RS.done fun x w hSw _ => (h x).run _ w (hF x) hSw.1⟩
end
end Go.Proofs.YtkkjjhooamlljaaGreatDoor
namespace Go.Proofs.YtkkjjhooamlljaaGreatDoor
open Go.RowKit

/-- Only block g may turn, from the cells c to the cells c'. -/
def TP (g T : Nat) (c c' : List Value) (w w' : World) : Prop := Mod (fun k => k = g ∧ w.heap[k]? = some (.cells c.toArray T (0, 0)) ∧ w'.heap[k]? = some (.cells c'.toArray T (0, 0))) w w'
structure Near (W : World) (R : Rg W) (L : List Blk) (O : List Own) (E : List Res) (g : Nat) : Prop where
  new : R.q g ∨ W.heap.size ≤ g
  blk : ∀ b ∈ L, b.g ≠ g
  own : ∀ o ∈ O, o.v.ownBlock ≠ some g
  res : ∀ F ∈ E, ¬ F.foot g
/-- Block g holds c', told of operation ks. -/
def PV (g T : Nat) (c' : List Value) (_ : Nat → Value) (w : World) (_ : Value) : Prop := w.heap[g]? = some (.cells c'.toArray T (0, 0))
section
variable {P : Program} {n : Nat} {W : World} {R : Rg W} {L : List Blk} {O : List Own} {E : List Res} {w w' : World} {g T : Nat} {c c' : List Value}
theorem PV.keep {x : Nat → Value} {v : Value} (h : PV g T c' x w v) (hm : TP g T c c' w w') : PV g T c' x w' v := by
  unfold PV at *
  by_cases hs : g = g ∧ w.heap[g]? = some (.cells c.toArray T (0, 0)) ∧ w'.heap[g]? = some (.cells c'.toArray T (0, 0))
  · exact hs.2.2
  · rw [hm.block _ (Array.getElem?_eq_some_iff.1 h).1 hs]
    exact h
theorem Loc.erase {i : Nat} (h : Loc W R L O E w) : Loc W R (L.eraseIdx i) O E w where
  mod := h.mod
  inv := h.inv
  blk := fun b hb => h.blk b (List.mem_of_mem_eraseIdx hb)
  apart := h.apart.sublist (List.eraseIdx_sublist ..)
  own := fun o ho => ⟨(h.own o ho).1, fun b hb => (h.own o ho).2 b (List.mem_of_mem_eraseIdx hb)⟩
  ownApart := h.ownApart
  res := fun F hF => ⟨(h.res F hF).1, (h.res F hF).2.1, fun b hb => (h.res F hF).2.2.1 b (List.mem_of_mem_eraseIdx hb), (h.res F hF).2.2.2⟩
  resNew := h.resNew
  resApart := h.resApart
theorem Loc.near {i : Nat} (h : Loc W R L O E w) (hi : L[i]? = some ⟨g, c, T⟩) : Near W R (L.eraseIdx i) O E g := by
  have hm : (⟨g, c, T⟩ : Blk) ∈ L := List.mem_iff_getElem?.2 ⟨i, hi⟩
  refine ⟨(h.blk _ hm).1, fun b hb => ?_, fun o ho => (h.own o ho).2 _ hm, fun F hF => (h.res F hF).2.2.1 _ hm⟩
  obtain ⟨j, hj, hb⟩ := List.mem_eraseIdx_iff_getElem?.1 hb
  exact fun e => (pairwise_ne_of (fun _ _ h e => h e.symm) h.apart hb hi hj) e
theorem Loc.keepP (hf : Near W R L O E g) (h : Loc W R L O E w) {S : Nat → Prop} (hS : ∀ k, S k → k = g) (hm : Mod S w w') : Loc W R L O E w' :=
  h.frame hm (fun k hk hs => by have := hS k hs; subst this; rcases hf.new with h1 | h1; exact h1; omega) (fun b hb hs => hf.blk b hb (hS _ hs)) (fun o ho k hk hs => by have := hS k hs; subst this; exact hf.own o ho hk) (fun F hF k hk hs => by have := hS k hs; subst this; exact hf.res F hF hk)
theorem Loc.addP (hf : Near W R L O E g) (h : Loc W R L O E w) (hb : w.heap[g]? = some (.cells c'.toArray T (0, 0))) : Loc W R (⟨g, c', T⟩ :: L) O E w where
  mod := h.mod
  inv := h.inv
  blk := fun b hbm => by
    rcases List.mem_cons.1 hbm with rfl | hbm
    · exact ⟨hf.new, hb⟩
    · exact h.blk b hbm
  apart := List.pairwise_cons.2 ⟨fun b hbm e => hf.blk b hbm e.symm, h.apart⟩
  own := fun o ho => ⟨(h.own o ho).1, fun b hbm e => by
    rcases List.mem_cons.1 hbm with rfl | hbm
    · exact hf.own o ho e
    · exact (h.own o ho).2 b hbm e⟩
  ownApart := h.ownApart
  res := fun F hF => ⟨(h.res F hF).1, (h.res F hF).2.1, fun b hbm f => by
    rcases List.mem_cons.1 hbm with rfl | hbm
    · exact hf.res F hF f
    · exact (h.res F hF).2.2.1 b hbm f, (h.res F hF).2.2.2⟩
  resNew := h.resNew
  resApart := h.resApart
/-- Block g holds c or c'. -/
def Either (g T : Nat) (c c' : List Value) (w : World) : Prop := w.heap[g]? = some (.cells c.toArray T (0, 0)) ∨ w.heap[g]? = some (.cells c'.toArray T (0, 0))
theorem Either.keep (h : Either g T c c' w) (hm : Mod (fun _ => False) w w') : Either g T c c' w' := by
  rcases h with h | h
  · exact .inl (hm.blk h (fun f => f))
  · exact .inr (hm.blk h (fun f => f))
structure SXp (P : Program) (n : Nat) (W : World) (R : Rg W) (ops : Array Oper) (L : List Blk) (O : List Own) (E : List Res) (g T : Nat) (c c' : List Value) (k : Nat) (U : List (Nat × ((Nat → Value) → World → Value → Prop))) (f : List (Nat × Value)) (l : List Oper) (Q : Exit → Act → World → Prop) : Prop where
  run : ∀ F : Act, Fr n f F → RS P ops (TP g T c c') (fun w => Loc W R L O E w ∧ Either g T c c' w) Q k l (fun _ => F) U
end
section
variable {P : Program} {n : Nat} {W : World} {R : Rg W} {L L' : List Blk} {O : List Own} {E : List Res} {U : List (Nat × ((Nat → Value) → World → Value → Prop))} {f : List (Nat × Value)} {Q : Exit → Act → World → Prop} {ops : Array Oper} {rest : List Oper} {k g T : Nat} {c c' : List Value}
theorem SX.drawnPT {id : Nat} {l : List Oper} (m i : Nat) (c' : List Value) (hi : L[i]? = some ⟨g, c, T⟩) (hL : L.eraseIdx i = L') (hm : P.follows .mixedOrders = true) (hc : regOkTo m l.toArray = true) (ht : tailOk l.toArray m = true) (h : Near W R L' O E g → SXp P n W R l.toArray L' O E g T c c' 0 [] f (l.take m) (fun _ a w => wpList P l.toArray Q (l.drop m) a w)) : SX P n W R L O E f (.region id l.toArray true) Q := ⟨fun a w hf hl => by
  subst hL
  exact wp_region_rs_tail m (fun w' => Loc W R (L.eraseIdx i) O E w' ∧ Either g T c c' w') (TP g T c c') hm hc ht ⟨(hl.erase).keep ((Mod.refl _ w).drew), .inl ((hl.keep ((Mod.refl _ w).drew)).blk _ (List.mem_iff_getElem?.2 ⟨i, hi⟩)).2⟩ ((h (hl.near hi)).run _ hf)⟩
theorem SXp.v {o : Oper} {v : Value} {d : Nat} (hr : OpW P n W R L O E f o v) (hdst : o.dst = some d) (hw : wantO ops f o = some true) (hd : Nat.blt d n = true) (h : SXp P n W R ops L O E g T c c' (k + 1) U ((d, v) :: f) rest Q) : SXp P n W R ops L O E g T c c' k U f (o :: rest) Q := ⟨fun F hF =>
  RS.val [] (fun _ => v) rfl (fun _ _ _ => rfl) (fun _ => wanted_of hF hw) (fun _ w hS _ => wp_never (hr.run _ w hF hS.1) fun _ _ ⟨h1, h2⟩ => ⟨h1, ⟨hS.1.keep h2, hS.2.keep h2⟩, h2.mono fun _ _ f => f.elim⟩) (by rw [hdst]; exact h.run _ (hF.put hd v))⟩
theorem SXp.no {o : Oper} {d : Nat} (hw : wantO ops f o = some false) (hdst : o.dst = some d) (hd : Nat.blt d n = true) (h : SXp P n W R ops L O E g T c c' (k + 1) U ((d, undef) :: f) rest Q) : SXp P n W R ops L O E g T c c' k U f (o :: rest) Q := ⟨fun F hF =>
  RS.skip (fun _ => wanted_of hF hw) (by rw [hdst]; exact h.run _ (hF.put hd undef))⟩
variable {d m o T' : Nat} {xo yo : Operand} {ty : TypeId} {pos : String} {af : Array Edge} {gd : Option (Nat × Bool)} {v : Value}
theorem SXp.skips {o : Oper} (hf : Near W R L O E g) (hw : wantO ops f o = some true) (hdst : o.dst = none)
    (hrun : ∀ a w, Fr n f a → Either g T c c' w → ∃ w', (execOp a.eval o).run P w = .ok .skip w' ∧ w'.heap[g]? = some (.cells c'.toArray T (0, 0)) ∧ Mod (fun k => k = g) w w')
    (h : SXp P n W R ops L O E g T c c' (k + 1) ((k, PV g T c') :: U) f rest Q) : SXp P n W R ops L O E g T c c' k U f (o :: rest) Q := ⟨fun F hF =>
  RS.newx [] (PV g T c') id (fun _ _ _ _ => rfl) rfl ⟨fun _ _ _ _ h hm => h.keep hm, fun _ _ _ _ _ h => h⟩ (fun _ => wanted_of hF hw) (fun x w hS _ => by
    obtain ⟨w', h1, h2, h3⟩ := hrun F w hF hS.2
    have hT : TP g T c c' w w' := by
      rcases hS.2 with hc | hc
      · exact h3.mono fun k _ e => by subst e; exact ⟨rfl, hc, h2⟩
      · exact ⟨h3.os, h3.tape, h3.output, h3.size, fun k hk hn => by
          by_cases e : k = g
          · subst e; rw [h2, hc]
          · exact h3.block k hk e⟩
    unfold Oper.wp
    rw [h1, Oper.upon_skip, hdst]
    exact ⟨undef, rfl, h2, ⟨Loc.keepP hf hS.1 (fun k hk => hk) h3, .inr h2⟩, hT⟩) (by rw [hdst]; exact h.run _ hF)⟩
theorem SXp.store [TOne P T'] (hf : Near W R L O E g) (hw : wantO ops f ⟨none, .store T' xo yo, ty, pos, af, gd⟩ = some true) (hx : evO f xo = some (.pointer (some ⟨g, o, none⟩))) (hy : evO f yo = some v) (ho : Nat.blt o c.length = true) (hv : v.oneCell' = true) (hc : c.set o v = c')
    (h : SXp P n W R ops L O E g T c c' (k + 1) ((k, PV g T c') :: U) f rest Q) : SXp P n W R ops L O E g T c c' k U f (⟨none, .store T' xo yo, ty, pos, af, gd⟩ :: rest) Q :=
  SXp.skips hf hw rfl (fun a w hF hE => by
    have ho' : o < c.length := by simpa using ho
    have key : ∀ cs : List Value, cs.length = c.length → cs.set o v = c' → w.heap[g]? = some (.cells cs.toArray T (0, 0)) → ∃ w', (execOp a.eval ⟨none, .store T' xo yo, ty, pos, af, gd⟩).run P w = .ok .skip w' ∧ w'.heap[g]? = some (.cells c'.toArray T (0, 0)) ∧ Mod (fun k => k = g) w w' := fun cs hl hs hb => by
      obtain ⟨u, hu⟩ : ∃ u, cs[o]? = some u := ⟨_, List.getElem?_eq_getElem (by omega)⟩
      have h1 : w.cell? ⟨g, o, none⟩ = some u := by simp [World.cell?, hb, hu]
      have h2 : w.frozen? ⟨g, o, none⟩ = false := by simp [World.frozen?, hb]
      refine ⟨w.setCell ⟨g, o, none⟩ v, by simp [execOp, hF.eval hx, hF.eval hy, run_store1 h1 h2 hv], ?_, (Mod.refl _ w).setAt _ _ _⟩
      rw [← hs]
      simp [World.setCell, Array.getElem?_modify, hb]
    rcases hE with hE | hE
    · exact key c rfl hc hE
    · exact key c' (by rw [← hc, List.length_set]) (by rw [← hc, List.set_set]) hE) h
theorem over_over : ∀ (r c : List Value) (o : Nat), over (over c o r) o r = over c o r
  | [], _, _ => rfl
  | v :: r, c, o => by
    have comm : ∀ (r c : List Value) (p q : Nat) (u : Value), q < p → over (c.set q u) p r = (over c p r).set q u := by
      intro r
      induction r with
      | nil => intros; rfl
      | cons y r ih =>
        intro c p q u h
        simp only [over]
        rw [List.set_comm _ _ (by omega), ih _ _ _ _ (by omega)]
    simp only [over]
    rw [comm r _ _ _ _ (Nat.lt_succ_self o), comm r _ _ _ _ (Nat.lt_succ_self o), comm r _ _ _ _ (Nat.lt_succ_self o), over_over r, List.set_set]
theorem over_len : ∀ (r c : List Value) (o : Nat), (over c o r).length = c.length
  | [], _, _ => rfl
  | v :: r, c, o => by simp only [over]; rw [over_len, List.length_set]
theorem SXp.storeRow {r : List Value} [t : TRow P T' m] (hf : Near W R L O E g) (hw : wantO ops f ⟨none, .store T' xo yo, ty, pos, af, gd⟩ = some true) (hx : evO f xo = some (.pointer (some ⟨g, o, none⟩))) (hy : evO f yo = some (.agg r.toArray)) (ho : Nat.ble (o + m) c.length = true) (hm : r.length = m) (hv : r.all (·.oneCell') = true) (hc : over c o r = c')
    (h : SXp P n W R ops L O E g T c c' (k + 1) ((k, PV g T c') :: U) f rest Q) : SXp P n W R ops L O E g T c c' k U f (⟨none, .store T' xo yo, ty, pos, af, gd⟩ :: rest) Q :=
  SXp.skips hf hw rfl (fun a w hF hE => by
    have ho' : o + m ≤ c.length := Nat.le_of_ble_eq_true ho
    obtain ⟨_, h3⟩ := t.h
    have key : ∀ cs : List Value, cs.length = c.length → over cs o r = c' → w.heap[g]? = some (.cells cs.toArray T (0, 0)) → ∃ w', (execOp a.eval ⟨none, .store T' xo yo, ty, pos, af, gd⟩).run P w = .ok .skip w' ∧ w'.heap[g]? = some (.cells c'.toArray T (0, 0)) ∧ Mod (fun k => k = g) w w' := fun cs hl hs hb => by
      have e := run_store_row (P := P) (ty := T') h3 (w := w) (b := g) (o := o) (S := r.toArray) (by simp [hasRow, hb]; omega) (by simp [openRow, hb]) (by simpa using hm) (by simpa using hv)
      refine ⟨w.setCells g o r, by simp [execOp, hF.eval hx, hF.eval hy, e], ?_, mod_setCells g r o w⟩
      rw [setCells_heap g r o w _ _ _ hb, spl_over, hs]
    rcases hE with hE | hE
    · exact key c rfl hc hE
    · exact key c' (by rw [← hc, over_len]) (by rw [← hc, over_over]) hE) h
theorem SXp.nil (ks : Nat) (hf : Near W R L O E g) (hS : (ks, PV g T c') ∈ U) (h : SQ n W R (⟨g, c', T⟩ :: L) O E f .normal Q) : SXp P n W R ops L O E g T c c' k U f [] Q := ⟨fun F hF => RS.done fun x w hSw hU =>
  h.run _ w hF (Loc.addP hf hSw.1 (hU _ hS))⟩
theorem SXp.tail (ks : Nat) (hf : Near W R L O E g) (hS : (ks, PV g T c') ∈ U) (h : SXl P n W R ops (⟨g, c', T⟩ :: L) O E f rest Q) : SXp P n W R ops L O E g T c c' k U f [] (fun _ a w => wpList P ops Q rest a w) := ⟨fun F hF => RS.done fun x w hSw hU =>
  h.run _ w hF (Loc.addP hf hSw.1 (hU _ hS))⟩
end
end Go.Proofs.YtkkjjhooamlljaaGreatDoor
namespace Go.Proofs.YtkkjjhooamlljaaGreatDoor
open Go.RowKit

/-- Block g holds the i-th of the contents or a later one. -/
def From (g T : Nat) (cs : List (List Value)) (i : Nat) (w : World) : Prop := ∃ j c, i ≤ j ∧ cs[j]? = some c ∧ w.heap[g]? = some (.cells c.toArray T (0, 0))
/-- Only block g may turn, from one of the contents to a later one. -/
def TC2 (g T : Nat) (cs : List (List Value)) (w w' : World) : Prop := Mod (fun k => k = g ∧ ∀ i, From g T cs i w → From g T cs i w') w w'
def FV (g T : Nat) (cs : List (List Value)) (i : Nat) (_ : Nat → Value) (w : World) (_ : Value) : Prop := From g T cs i w
section
variable {P : Program} {n : Nat} {W : World} {R : Rg W} {L : List Blk} {O : List Own} {E : List Res} {w w' : World} {g T : Nat} {cs : List (List Value)}
theorem From.keepF {i : Nat} (h : From g T cs i w) (hm : Mod (fun _ => False) w w') : From g T cs i w' := by
  obtain ⟨j, c, h1, h2, h3⟩ := h
  exact ⟨j, c, h1, h2, hm.blk h3 (fun f => f)⟩
theorem From.keep {i : Nat} (h : From g T cs i w) (hm : TC2 g T cs w w') : From g T cs i w' := by
  by_cases hs : g = g ∧ ∀ i, From g T cs i w → From g T cs i w'
  · exact hs.2 i h
  · obtain ⟨j, c, h1, h2, h3⟩ := h
    exact ⟨j, c, h1, h2, by rw [hm.block _ (Array.getElem?_eq_some_iff.1 h3).1 hs]; exact h3⟩
structure SXc (P : Program) (n : Nat) (W : World) (R : Rg W) (ops : Array Oper) (L : List Blk) (O : List Own) (E : List Res) (g T : Nat) (cs : List (List Value)) (k : Nat) (U : List (Nat × ((Nat → Value) → World → Value → Prop))) (f : List (Nat × Value)) (l : List Oper) (Q : Exit → Act → World → Prop) : Prop where
  run : ∀ F : Act, Fr n f F → RS P ops (TC2 g T cs) (fun w => Loc W R L O E w ∧ From g T cs 0 w) Q k l (fun _ => F) U
end
section
variable {P : Program} {n : Nat} {W : World} {R : Rg W} {L L' : List Blk} {O : List Own} {E : List Res} {U : List (Nat × ((Nat → Value) → World → Value → Prop))} {f : List (Nat × Value)} {Q : Exit → Act → World → Prop} {ops : Array Oper} {rest : List Oper} {k g T : Nat} {c : List Value} {cs : List (List Value)}
theorem SX.drawnCT {id : Nat} {l : List Oper} (m i : Nat) (cs : List (List Value)) (hi : L[i]? = some ⟨g, c, T⟩) (h0 : cs[0]? = some c) (hL : L.eraseIdx i = L') (hm : P.follows .mixedOrders = true) (hc : regOkTo m l.toArray = true) (ht : tailOk l.toArray m = true) (h : Near W R L' O E g → SXc P n W R l.toArray L' O E g T cs 0 [] f (l.take m) (fun _ a w => wpList P l.toArray Q (l.drop m) a w)) : SX P n W R L O E f (.region id l.toArray true) Q := ⟨fun a w hf hl => by
  subst hL
  exact wp_region_rs_tail m (fun w' => Loc W R (L.eraseIdx i) O E w' ∧ From g T cs 0 w') (TC2 g T cs) hm hc ht ⟨(hl.erase).keep ((Mod.refl _ w).drew), ⟨0, c, Nat.le_refl _, h0, ((hl.keep ((Mod.refl _ w).drew)).blk _ (List.mem_iff_getElem?.2 ⟨i, hi⟩)).2⟩⟩ ((h (hl.near hi)).run _ hf)⟩
theorem SXc.v {o : Oper} {v : Value} {d : Nat} (hr : OpW P n W R L O E f o v) (hdst : o.dst = some d) (hw : wantO ops f o = some true) (hd : Nat.blt d n = true) (h : SXc P n W R ops L O E g T cs (k + 1) U ((d, v) :: f) rest Q) : SXc P n W R ops L O E g T cs k U f (o :: rest) Q := ⟨fun F hF =>
  RS.val [] (fun _ => v) rfl (fun _ _ _ => rfl) (fun _ => wanted_of hF hw) (fun _ w hS _ => wp_never (hr.run _ w hF hS.1) fun _ _ ⟨h1, h2⟩ => ⟨h1, ⟨hS.1.keep h2, hS.2.keepF h2⟩, h2.mono fun _ _ f => f.elim⟩) (by rw [hdst]; exact h.run _ (hF.put hd v))⟩
variable {d m o T' : Nat} {xo yo : Operand} {ty : TypeId} {pos : String} {af : Array Edge} {gd : Option (Nat × Bool)} {v : Value}
theorem SXc.storeAt [TOne P T'] (i : Nat) (us : List Nat) (hus : (us.all fun i => (reach ops ops.size k).contains i) = true) (hpre : ∀ x w, (∀ u ∈ U, u.1 ∈ us → u.2 x w (x u.1)) → From g T cs 0 w → From g T cs i w) (hf : Near W R L O E g) (hw : wantO ops f ⟨none, .store T' xo yo, ty, pos, af, gd⟩ = some true) (hx : evO f xo = some (.pointer (some ⟨g, o, none⟩))) (hy : evO f yo = some v) (ho : ∀ c ∈ cs, o < c.length) (hv : v.oneCell' = true) (hc : (cs.drop i).map (fun c => c.set o v) = (cs.drop (i + 1)).take 1 ++ cs.drop (i + 1))
    (h : SXc P n W R ops L O E g T cs (k + 1) ((k, FV g T cs (i + 1)) :: U) f rest Q) : SXc P n W R ops L O E g T cs k U f (⟨none, .store T' xo yo, ty, pos, af, gd⟩ :: rest) Q := ⟨fun F hF =>
  RS.newx us (FV g T cs (i + 1)) id (fun _ _ _ _ => rfl) hus ⟨fun _ _ _ _ h hm => h.keep hm, fun _ _ _ _ _ h => h⟩ (fun _ => wanted_of hF hw) (fun x w hS hK => by
    obtain ⟨j, c1, h1, h2, h3⟩ := hpre x w hK hS.2
    have hlt := ho c1 (List.mem_of_getElem? h2)
    obtain ⟨u, hu⟩ : ∃ u, c1[o]? = some u := ⟨_, List.getElem?_eq_getElem hlt⟩
    have q1 : w.cell? ⟨g, o, none⟩ = some u := by simp [World.cell?, h3, hu]
    have q2 : w.frozen? ⟨g, o, none⟩ = false := by simp [World.frozen?, h3]
    have hrun : (execOp F.eval ⟨none, .store T' xo yo, ty, pos, af, gd⟩).run P w = .ok .skip (w.setCell ⟨g, o, none⟩ v) := by simp [execOp, hF.eval hx, hF.eval hy, run_store1 q1 q2 hv]
    have hb : (w.setCell ⟨g, o, none⟩ v).heap[g]? = some (.cells (c1.set o v).toArray T (0, 0)) := by simp [World.setCell, Array.getElem?_modify, h3]
    have hmm : Mod (fun k => k = g) w (w.setCell ⟨g, o, none⟩ v) := (Mod.refl _ w).setAt _ _ _
    have hq : ∀ j, i ≤ j → cs[j]? = some c1 → cs[max j (i + 1)]? = some (c1.set o v) := fun j h1 h2 => by
      have e1 : ((cs.drop i).map (fun c => c.set o v))[j - i]? = some (c1.set o v) := by
        rw [List.getElem?_map, List.getElem?_drop, show i + (j - i) = j by omega, h2]; rfl
      rw [hc] at e1
      by_cases hd : (cs.drop (i + 1)) = []
      · rw [hd] at e1; simp at e1
      obtain ⟨y, ys, hy'⟩ := List.exists_cons_of_ne_nil hd
      by_cases hji : j = i
      · subst hji
        rw [show max j (j + 1) = j + 1 by omega]
        rw [Nat.sub_self, hy'] at e1
        have e2 : (cs.drop (j + 1))[0]? = cs[j + 1]? := by rw [List.getElem?_drop]
        rw [hy'] at e2
        simp at e1 e2
        rw [← e2, e1]
      · rw [show max j (i + 1) = j by omega]
        have e3 : (List.take 1 (cs.drop (i + 1)) ++ cs.drop (i + 1))[j - i]? = (cs.drop (i + 1))[j - i - 1]? := by
          rw [List.getElem?_append_right (by rw [hy']; simp; omega)]
          congr 1
          rw [hy']
          simp
        rw [e3, List.getElem?_drop, show i + 1 + (j - i - 1) = j by omega] at e1
        exact e1
    have hcs := hq j h1 h2
    have hF1 : From g T cs (i + 1) (w.setCell ⟨g, o, none⟩ v) := ⟨_, _, by omega, hcs, hb⟩
    have hT : TC2 g T cs w (w.setCell ⟨g, o, none⟩ v) := by
      refine hmm.mono fun k _ e => ⟨e, fun i' ⟨j2, c2, a1, a2, a3⟩ => ?_⟩
      have ec : c2 = c1 := by
        have := a3.symm.trans h3
        simpa using this
      subst ec
      by_cases hj2 : i ≤ j2
      · exact ⟨_, _, by omega, hq j2 hj2 a2, hb⟩
      · exact ⟨_, _, by omega, hcs, hb⟩
    unfold Oper.wp
    rw [hrun, Oper.upon_skip]
    exact ⟨undef, rfl, hF1, ⟨Loc.keepP hf hS.1 (fun k hk => hk) hmm, ⟨_, _, Nat.zero_le _, hcs, hb⟩⟩, hT⟩) (h.run _ hF)⟩
/-- The first write; one behind the write that operation kp was. -/
theorem SXc.store0 [TOne P T'] (hf : Near W R L O E g) (hw : wantO ops f ⟨none, .store T' xo yo, ty, pos, af, gd⟩ = some true) (hx : evO f xo = some (.pointer (some ⟨g, o, none⟩))) (hy : evO f yo = some v) (ho : ∀ c ∈ cs, o < c.length) (hv : v.oneCell' = true) (hc : (cs.drop 0).map (fun c => c.set o v) = (cs.drop 1).take 1 ++ cs.drop 1)
    (h : SXc P n W R ops L O E g T cs (k + 1) ((k, FV g T cs 1) :: U) f rest Q) : SXc P n W R ops L O E g T cs k U f (⟨none, .store T' xo yo, ty, pos, af, gd⟩ :: rest) Q := SXc.storeAt 0 [] rfl (fun _ _ _ h => h) hf hw hx hy ho hv hc h
theorem SXc.store [TOne P T'] (i kp : Nat) (hus : ([kp].all fun i => (reach ops ops.size k).contains i) = true) (hU : (kp, FV g T cs i) ∈ U) (hf : Near W R L O E g) (hw : wantO ops f ⟨none, .store T' xo yo, ty, pos, af, gd⟩ = some true) (hx : evO f xo = some (.pointer (some ⟨g, o, none⟩))) (hy : evO f yo = some v) (ho : ∀ c ∈ cs, o < c.length) (hv : v.oneCell' = true) (hc : (cs.drop i).map (fun c => c.set o v) = (cs.drop (i + 1)).take 1 ++ cs.drop (i + 1))
    (h : SXc P n W R ops L O E g T cs (k + 1) ((k, FV g T cs (i + 1)) :: U) f rest Q) : SXc P n W R ops L O E g T cs k U f (⟨none, .store T' xo yo, ty, pos, af, gd⟩ :: rest) Q := SXc.storeAt i [kp] hus (fun x w hK _ => hK _ hU List.mem_cons_self) hf hw hx hy ho hv hc h
theorem SXc.tail {c' : List Value} (ks i : Nat) (hf : Near W R L O E g) (hS : (ks, FV g T cs i) ∈ U) (hl : cs.length = i + 1) (hc : cs[i]? = some c') (h : SXl P n W R ops (⟨g, c', T⟩ :: L) O E f rest Q) : SXc P n W R ops L O E g T cs k U f [] (fun _ a w => wpList P ops Q rest a w) := ⟨fun F hF => RS.done fun x w hSw hU => by
  obtain ⟨j, c1, h1, h2, h3⟩ := hU _ hS
  have hlt := (List.getElem?_eq_some_iff.1 h2).1
  have : j = i := by omega
  subst this
  rw [hc] at h2
  cases h2
  exact h.run _ w hF (Loc.addP hf hSw.1 h3)⟩
end
end Go.Proofs.YtkkjjhooamlljaaGreatDoor
