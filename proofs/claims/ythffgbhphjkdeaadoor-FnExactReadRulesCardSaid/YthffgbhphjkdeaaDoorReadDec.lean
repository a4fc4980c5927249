/-
  PROVED: ReadDecimal, on both sides. Conditions: the library's table of powers and its syntax error lie as laid.
-/
import Derived.Test.YthffgbhphjkdeaaDoorSxt
import Derived.Test.YthffgbhphjkdeaaDoorText
import Derived.Test.YthffgbhphjkdeaaDoorOwn
import Derived.Test.YthffgbhphjkdeaaDoorReadMath
namespace Go.Proofs.YthffgbhphjkdeaaDoor
open Go.RowKit

section
variable {P : Program} {n : Nat} {W : World} {R : Rg W} {L : List Blk} {O : List Own} {E : List Res} {f : List (Nat × Value)} {Q : Exit → Go.Act → World → Prop} {ops : Array Oper} {rest : List Oper} {k : Nat}
variable {d : Option Nat} {c x y z : Operand} {ty T T' : TypeId} {pos : String} {af : Array Edge} {gd : Option (Nat × Bool)}
class TI64 (P : Program) (T : TypeId) : Prop where
  h : P.underlying T = some (.int .i64)
class TAny (P : Program) (T : TypeId) : Prop where
  h : ∃ d, P.underlying T = some d
class TIf (P : Program) (T : TypeId) : Prop where
  h : ∃ ms, P.underlying T = some (.interface ms)
theorem OpW.conv64 {k : IntKind} {m : Int} [s : TAny P T] [t : TI64 P T'] (hx : evO f x = some (.int k m)) (h0 : -9223372036854775808 ≤ m) (h1 : m ≤ 9223372036854775807) : OpW P n W R L O E f ⟨d, .convert T T' x, ty, pos, af, gd⟩ (.int .i64 m) :=
  OpW.of (fun a w hf _ => by
    obtain ⟨ds, hs⟩ := s.h
    simp [execOp, hf.eval hx, convert, run_underlying hs, run_underlying t.h, Conv.intToInt, wrap_in h0 h1])
theorem l_convert (h : SXl P n W R ops L O E f (⟨d, .convert T T' x, ty, pos, af, gd⟩ :: rest) Q) : SXl P n W R ops L O E f (⟨d, .convert T T' x, ty, pos, af, gd⟩ :: rest) Q := h
theorem run_eq_ifd [t : TIf P T] (dd : Nat) (w : World) : (Op.equalIn (dd + 1) T .nilIface .nilIface).run P w = .ok true w := by
  obtain ⟨e, h⟩ := t.h
  simp [Op.equalIn, run_underlying h]
theorem run_eq_ifn [t : TIf P T] (dd : Nat) (u : TypeId) (v : Value) (w : World) : (Op.equalIn (dd + 1) T (.iface u v) .nilIface).run P w = .ok false w := by
  obtain ⟨e, h⟩ := t.h
  simp [Op.equalIn, run_underlying h]
theorem OpW.neqI0 [t : TIf P T] (hx : evO f x = some .nilIface) : OpW P n W R L O E f ⟨d, .binOp .neq T x (.const .nilIface) T', ty, pos, af, gd⟩ (.bool false) :=
  OpW.bin (v := .nilIface) hx rfl (eqGuard_nil_constR ..) (fun w => by
    have := run_eq_ifd (P := P) (T := T) 9999 w
    simp only [binOp]
    simp [Op.equal, Op.maxDepth, this])
theorem OpW.neqI1 [t : TIf P T] {u : TypeId} {v : Value} (hx : evO f x = some (.iface u v)) : OpW P n W R L O E f ⟨d, .binOp .neq T x (.const .nilIface) T', ty, pos, af, gd⟩ (.bool true) :=
  OpW.bin (v := .nilIface) hx rfl rfl (fun w => by
    have := run_eq_ifn (P := P) (T := T) 9999 u v w
    simp only [binOp]
    simp [Op.equal, Op.maxDepth, this])
end
instance : TI64 Tryd.prog 3 := ⟨Tryd.underlying3⟩
instance : TAny Tryd.prog 5 := ⟨⟨_, Tryd.underlying5⟩⟩
instance : TIf Tryd.prog 166 := ⟨⟨_, Tryd.underlying166⟩⟩
instance : TFun Tryd.prog 137 := ⟨Tryd.f137, by kernel_rfl, by kernel_rfl, by kernel_rfl⟩
/-- The library's syntax error is an error. -/
def Syn (w : World) : Prop := ∃ tp p, w.var? Tryd.prog "strconv.ErrSyntax" = some #[.iface tp p]
theorem Syn.keep {w w' : World} (h : Syn w) (hm : Mod (fun _ => False) w w') : Syn w' := by
  obtain ⟨tp, p, h⟩ := h
  exact ⟨tp, p, var_keep hm h⟩
theorem mod_bytesWorld (w : World) (e : TypeId) (s : ByteArray) : Mod (fun _ => False) w (Lib.bytesWorld w e s) := by
  have h1 : Mod (fun _ => False) w (w.drew.alloc (.cells (Lib.bytesCells w e s) e)) := (Mod.refl _ w).drew.alloc _
  exact below_kept (Lib.below_freeze (p := ⟨w.heap.size, (Lib.bytesCells w e s).size, none⟩) (h1.below (Nat.le_refl _) fun _ _ h => h) (Nat.le_refl _) 1)
theorem atoi_ok (t : List UInt8) (v : Int) (hl : t.length ≤ 18) (h : Lib.atoi t = some v) (w : World) : Calls Tryd.prog 137 #[.string ⟨t.toArray⟩] w fun e w' => e = .returned (.tuple #[.int .i64 v, .nilIface]) ∧ Mod (fun _ => False) w w' :=
  (Tryd.strconv_Atoi ⟨t.toArray⟩ v (by show t.toArray.size ≤ 18; simpa using hl) h w).mono fun e w' ⟨he, t, hw⟩ => ⟨he, hw ▸ mod_bytesWorld w 5 t⟩

set_option maxRecDepth 100000 in
set_option maxHeartbeats 4000000 in
theorem sreadDecimal_any (t : List UInt8) (ht : t.length ≤ 1048576) (w : World) : Calls Tryd.prog 134 #[.string ⟨t.toArray⟩] w fun e w' => e = .returned (.tuple #[.int .i64 (readDec t).1, .bool (readDec t).2]) ∧ Mod (fun _ => False) w w' := by
  refine calls_sx Tryd.func134 rfl rfl (fun a h1 h2 h3 => ((Fr.nil h1 h2).arg (h3 0 _ rfl))) ?_
  by_cases hl : t.length ≤ 10
  rotate_left
  · have e : readDec t = (0, false) := readDec_false fun m _ _ h => hl h
    rw [e]
    repeat (first | refine SX.seq ?_ | refine SXl.nil ?_ | refine SX.region ?_ | refine SQ.thenNormal ?_ | refine SX.block ?_ | refine SX.skip ?_ | refine SX.condT rfl ?_ | refine SX.condF rfl ?_ | (refine SXl.no rfl rfl rfl ?_) | (refine l_move ?_; (first | refine SXl.v (OpW.move rfl) rfl ?_ ?_ ?_); rfl; rfl) | (refine l_assign ?_; (first | refine SXl.v (OpW.assign rfl) rfl ?_ ?_ ?_); rfl; rfl) | (refine l_len ?_; (first | refine SXl.v (OpW.lenStr rfl) rfl ?_ ?_ ?_); rfl; rfl) | (refine l_index ?_; (first | refine SXl.v (OpW.indexStr rfl rfl (by assumption)) rfl ?_ ?_ ?_); rfl; rfl) | (refine l_add ?_; (first | refine SXl.v (OpW.succ rfl rfl (by omega)) rfl ?_ ?_ ?_ | refine SXl.v (OpW.addi rfl rfl (by omega) (by omega)) rfl ?_ ?_ ?_ | refine SXl.v (OpW.add rfl rfl) rfl ?_ ?_ ?_); rfl; rfl) | (refine l_gtr ?_; (first | refine SXl.v (OpW.gtrT rfl rfl (by omega)) rfl ?_ ?_ ?_ | refine SXl.v (OpW.gtrF rfl rfl (by omega)) rfl ?_ ?_ ?_ | refine SXl.v (OpW.gtr rfl rfl) rfl ?_ ?_ ?_); rfl; rfl) | (refine l_lss ?_; (first | refine SXl.v (OpW.lssT rfl rfl (by omega)) rfl ?_ ?_ ?_ | refine SXl.v (OpW.lssF rfl rfl (by omega)) rfl ?_ ?_ ?_ | refine SXl.v (OpW.lss rfl rfl) rfl ?_ ?_ ?_); rfl; rfl) | (refine l_mul ?_; (first | refine SXl.v (OpW.muli rfl rfl (by omega) (by omega)) rfl ?_ ?_ ?_ | refine SXl.v (OpW.mul rfl rfl) rfl ?_ ?_ ?_); rfl; rfl) | (refine l_neq ?_; (first | refine SXl.v (OpW.neqStrT rfl rfl (by first | assumption | with_reducible rfl | decide)) rfl ?_ ?_ ?_ | refine SXl.v (OpW.neqStrF rfl rfl (by first | assumption | with_reducible rfl | decide)) rfl ?_ ?_ ?_); rfl; rfl) | (refine l_sub ?_; (first | refine SXl.v (OpW.subi rfl rfl (by omega) (by omega)) rfl ?_ ?_ ?_ | refine SXl.v (OpW.sub rfl rfl) rfl ?_ ?_ ?_); rfl; rfl) | (refine l_pick ?_; (first | refine SXl.v (OpW.pick rfl rfl rfl) rfl ?_ ?_ ?_); rfl; rfl) | refine SX.ret ?_ | refine SX.exit ?_ | refine SQ.thenRet ?_ | refine SQ.thenExit ?_ | refine SQ.blockNormal ?_ | refine SQ.blockRet ?_ | refine SQ.blockExit ?_ | refine SQ.blockOther rfl ?_)
    refine SQ.body2 rfl rfl rfl (fun w' hl => ⟨rfl, hl.mod⟩)
  repeat (first | refine SX.seq ?_ | refine SXl.nil ?_ | refine SX.region ?_ | refine SQ.thenNormal ?_ | refine SX.block ?_ | refine SX.skip ?_ | refine SX.condT rfl ?_ | refine SX.condF rfl ?_ | (refine SXl.no rfl rfl rfl ?_) | (refine l_move ?_; (first | refine SXl.v (OpW.move rfl) rfl ?_ ?_ ?_); rfl; rfl) | (refine l_assign ?_; (first | refine SXl.v (OpW.assign rfl) rfl ?_ ?_ ?_); rfl; rfl) | (refine l_len ?_; (first | refine SXl.v (OpW.lenStr rfl) rfl ?_ ?_ ?_); rfl; rfl) | (refine l_index ?_; (first | refine SXl.v (OpW.indexStr rfl rfl (by assumption)) rfl ?_ ?_ ?_); rfl; rfl) | (refine l_add ?_; (first | refine SXl.v (OpW.succ rfl rfl (by omega)) rfl ?_ ?_ ?_ | refine SXl.v (OpW.addi rfl rfl (by omega) (by omega)) rfl ?_ ?_ ?_ | refine SXl.v (OpW.add rfl rfl) rfl ?_ ?_ ?_); rfl; rfl) | (refine l_gtr ?_; (first | refine SXl.v (OpW.gtrT rfl rfl (by omega)) rfl ?_ ?_ ?_ | refine SXl.v (OpW.gtrF rfl rfl (by omega)) rfl ?_ ?_ ?_ | refine SXl.v (OpW.gtr rfl rfl) rfl ?_ ?_ ?_); rfl; rfl) | (refine l_lss ?_; (first | refine SXl.v (OpW.lssT rfl rfl (by omega)) rfl ?_ ?_ ?_ | refine SXl.v (OpW.lssF rfl rfl (by omega)) rfl ?_ ?_ ?_ | refine SXl.v (OpW.lss rfl rfl) rfl ?_ ?_ ?_); rfl; rfl) | (refine l_mul ?_; (first | refine SXl.v (OpW.muli rfl rfl (by omega) (by omega)) rfl ?_ ?_ ?_ | refine SXl.v (OpW.mul rfl rfl) rfl ?_ ?_ ?_); rfl; rfl) | (refine l_neq ?_; (first | refine SXl.v (OpW.neqStrT rfl rfl (by first | assumption | with_reducible rfl | decide)) rfl ?_ ?_ ?_ | refine SXl.v (OpW.neqStrF rfl rfl (by first | assumption | with_reducible rfl | decide)) rfl ?_ ?_ ?_); rfl; rfl) | (refine l_sub ?_; (first | refine SXl.v (OpW.subi rfl rfl (by omega) (by omega)) rfl ?_ ?_ ?_ | refine SXl.v (OpW.sub rfl rfl) rfl ?_ ?_ ?_); rfl; rfl) | (refine l_pick ?_; (first | refine SXl.v (OpW.pick rfl rfl rfl) rfl ?_ ?_ ?_); rfl; rfl) | refine SX.ret ?_ | refine SX.exit ?_ | refine SQ.thenRet ?_ | refine SQ.thenExit ?_ | refine SQ.blockNormal ?_ | refine SQ.blockRet ?_ | refine SQ.blockExit ?_ | refine SQ.blockOther rfl ?_)
  refine SX.loop3 (fun (k n : Nat) (_ : Unit) => k ≤ t.length ∧ Lib.decFrom 0 (t.take k) = some n) (fun k _ _ => t.length - k) (fun _ _ _ => []) (fun _ _ _ => []) (fun _ _ _ => []) (fun k n _ => [(0, .string ⟨t.toArray⟩), (4, .int .i64 n), (5, .int .i64 k)]) 0 0 () ⟨Nat.zero_le _, rfl⟩ ?_ (fun _ hl => hl) ?_
  · (repeat (first | exact subF_nil _ | (refine subF_cons rfl ?_) | (refine subF_consv rfl (by rfl) ?_)))
  rintro k n _ ⟨hk, hn⟩
  have hn17 := Lib.decFrom_take_lt hn (by omega)
  by_cases hlt : k < t.length
  · have hu : t[k]? = some t[k] := List.getElem?_eq_getElem hlt
    generalize t[k] = u at hu
    by_cases h48 : (u.toNat : Int) < 48
    · have e : readDec t = (0, false) := readDec_false fun m _ hm _ => by
        obtain ⟨dd, hd⟩ := Lib.digit_of_decFrom t 0 m (hm ▸ decFrom_digits m) k u hu
        unfold Lib.digitVal at hd
        rw [if_neg (by omega)] at hd
        cases hd
      rw [e]
      repeat (first | refine SX.seq ?_ | refine SXl.nil ?_ | refine SX.region ?_ | refine SQ.thenNormal ?_ | refine SX.block ?_ | refine SX.skip ?_ | refine SX.condT rfl ?_ | refine SX.condF rfl ?_ | (refine SXl.no rfl rfl rfl ?_) | (refine l_move ?_; (first | refine SXl.v (OpW.move rfl) rfl ?_ ?_ ?_); rfl; rfl) | (refine l_assign ?_; (first | refine SXl.v (OpW.assign rfl) rfl ?_ ?_ ?_); rfl; rfl) | (refine l_len ?_; (first | refine SXl.v (OpW.lenStr rfl) rfl ?_ ?_ ?_); rfl; rfl) | (refine l_index ?_; (first | refine SXl.v (OpW.indexStr rfl rfl (by assumption)) rfl ?_ ?_ ?_); rfl; rfl) | (refine l_add ?_; (first | refine SXl.v (OpW.succ rfl rfl (by omega)) rfl ?_ ?_ ?_ | refine SXl.v (OpW.addi rfl rfl (by omega) (by omega)) rfl ?_ ?_ ?_ | refine SXl.v (OpW.add rfl rfl) rfl ?_ ?_ ?_); rfl; rfl) | (refine l_gtr ?_; (first | refine SXl.v (OpW.gtrT rfl rfl (by omega)) rfl ?_ ?_ ?_ | refine SXl.v (OpW.gtrF rfl rfl (by omega)) rfl ?_ ?_ ?_ | refine SXl.v (OpW.gtr rfl rfl) rfl ?_ ?_ ?_); rfl; rfl) | (refine l_lss ?_; (first | refine SXl.v (OpW.lssT rfl rfl (by omega)) rfl ?_ ?_ ?_ | refine SXl.v (OpW.lssF rfl rfl (by omega)) rfl ?_ ?_ ?_ | refine SXl.v (OpW.lss rfl rfl) rfl ?_ ?_ ?_); rfl; rfl) | (refine l_mul ?_; (first | refine SXl.v (OpW.muli rfl rfl (by omega) (by omega)) rfl ?_ ?_ ?_ | refine SXl.v (OpW.mul rfl rfl) rfl ?_ ?_ ?_); rfl; rfl) | (refine l_neq ?_; (first | refine SXl.v (OpW.neqStrT rfl rfl (by first | assumption | with_reducible rfl | decide)) rfl ?_ ?_ ?_ | refine SXl.v (OpW.neqStrF rfl rfl (by first | assumption | with_reducible rfl | decide)) rfl ?_ ?_ ?_); rfl; rfl) | (refine l_sub ?_; (first | refine SXl.v (OpW.subi rfl rfl (by omega) (by omega)) rfl ?_ ?_ ?_ | refine SXl.v (OpW.sub rfl rfl) rfl ?_ ?_ ?_); rfl; rfl) | (refine l_pick ?_; (first | refine SXl.v (OpW.pick rfl rfl rfl) rfl ?_ ?_ ?_); rfl; rfl) | refine SX.ret ?_ | refine SX.exit ?_ | refine SQ.thenRet ?_ | refine SQ.thenExit ?_ | refine SQ.blockNormal ?_ | refine SQ.blockRet ?_ | refine SQ.blockExit ?_ | refine SQ.blockOther rfl ?_)
      refine SQ.body2 rfl rfl rfl (fun w' hl => ⟨rfl, hl.mod⟩)
    by_cases h57 : (57 : Int) < u.toNat
    · have e : readDec t = (0, false) := readDec_false fun m _ hm _ => by
        obtain ⟨dd, hd⟩ := Lib.digit_of_decFrom t 0 m (hm ▸ decFrom_digits m) k u hu
        unfold Lib.digitVal at hd
        rw [if_neg (by omega)] at hd
        cases hd
      rw [e]
      repeat (first | refine SX.seq ?_ | refine SXl.nil ?_ | refine SX.region ?_ | refine SQ.thenNormal ?_ | refine SX.block ?_ | refine SX.skip ?_ | refine SX.condT rfl ?_ | refine SX.condF rfl ?_ | (refine SXl.no rfl rfl rfl ?_) | (refine l_move ?_; (first | refine SXl.v (OpW.move rfl) rfl ?_ ?_ ?_); rfl; rfl) | (refine l_assign ?_; (first | refine SXl.v (OpW.assign rfl) rfl ?_ ?_ ?_); rfl; rfl) | (refine l_len ?_; (first | refine SXl.v (OpW.lenStr rfl) rfl ?_ ?_ ?_); rfl; rfl) | (refine l_index ?_; (first | refine SXl.v (OpW.indexStr rfl rfl (by assumption)) rfl ?_ ?_ ?_); rfl; rfl) | (refine l_add ?_; (first | refine SXl.v (OpW.succ rfl rfl (by omega)) rfl ?_ ?_ ?_ | refine SXl.v (OpW.addi rfl rfl (by omega) (by omega)) rfl ?_ ?_ ?_ | refine SXl.v (OpW.add rfl rfl) rfl ?_ ?_ ?_); rfl; rfl) | (refine l_gtr ?_; (first | refine SXl.v (OpW.gtrT rfl rfl (by omega)) rfl ?_ ?_ ?_ | refine SXl.v (OpW.gtrF rfl rfl (by omega)) rfl ?_ ?_ ?_ | refine SXl.v (OpW.gtr rfl rfl) rfl ?_ ?_ ?_); rfl; rfl) | (refine l_lss ?_; (first | refine SXl.v (OpW.lssT rfl rfl (by omega)) rfl ?_ ?_ ?_ | refine SXl.v (OpW.lssF rfl rfl (by omega)) rfl ?_ ?_ ?_ | refine SXl.v (OpW.lss rfl rfl) rfl ?_ ?_ ?_); rfl; rfl) | (refine l_mul ?_; (first | refine SXl.v (OpW.muli rfl rfl (by omega) (by omega)) rfl ?_ ?_ ?_ | refine SXl.v (OpW.mul rfl rfl) rfl ?_ ?_ ?_); rfl; rfl) | (refine l_neq ?_; (first | refine SXl.v (OpW.neqStrT rfl rfl (by first | assumption | with_reducible rfl | decide)) rfl ?_ ?_ ?_ | refine SXl.v (OpW.neqStrF rfl rfl (by first | assumption | with_reducible rfl | decide)) rfl ?_ ?_ ?_); rfl; rfl) | (refine l_sub ?_; (first | refine SXl.v (OpW.subi rfl rfl (by omega) (by omega)) rfl ?_ ?_ ?_ | refine SXl.v (OpW.sub rfl rfl) rfl ?_ ?_ ?_); rfl; rfl) | (refine l_pick ?_; (first | refine SXl.v (OpW.pick rfl rfl rfl) rfl ?_ ?_ ?_); rfl; rfl) | refine SX.ret ?_ | refine SX.exit ?_ | refine SQ.thenRet ?_ | refine SQ.thenExit ?_ | refine SQ.blockNormal ?_ | refine SQ.blockRet ?_ | refine SQ.blockExit ?_ | refine SQ.blockOther rfl ?_)
      refine SQ.body2 rfl rfl rfl (fun w' hl => ⟨rfl, hl.mod⟩)
    have hd : Lib.digitVal u = some (u.toNat - 48) := by
      unfold Lib.digitVal
      rw [if_pos ⟨by omega, by omega⟩]
    have hs := Lib.decFrom_take t k 0 n u (u.toNat - 48) hn hu hd
    have he : (10 * (n : Int) + (u.toNat : Int)) - 48 = ((n * 10 + (u.toNat - 48) : Nat) : Int) := by omega
    repeat (first | refine SX.seq ?_ | refine SXl.nil ?_ | refine SX.region ?_ | refine SQ.thenNormal ?_ | refine SX.block ?_ | refine SX.skip ?_ | refine SX.condT rfl ?_ | refine SX.condF rfl ?_ | (refine SXl.no rfl rfl rfl ?_) | (refine l_convert ?_; (first | refine SXl.v ((OpW.conv64 rfl (by omega) (by omega))) rfl ?_ ?_ ?_); rfl; rfl) | (refine l_move ?_; (first | refine SXl.v (OpW.move rfl) rfl ?_ ?_ ?_); rfl; rfl) | (refine l_assign ?_; (first | refine SXl.v (OpW.assign rfl) rfl ?_ ?_ ?_); rfl; rfl) | (refine l_len ?_; (first | refine SXl.v (OpW.lenStr rfl) rfl ?_ ?_ ?_); rfl; rfl) | (refine l_index ?_; (first | refine SXl.v (OpW.indexStr rfl rfl (by assumption)) rfl ?_ ?_ ?_); rfl; rfl) | (refine l_add ?_; (first | refine SXl.v (OpW.succ rfl rfl (by omega)) rfl ?_ ?_ ?_ | refine SXl.v (OpW.addi rfl rfl (by omega) (by omega)) rfl ?_ ?_ ?_ | refine SXl.v (OpW.add rfl rfl) rfl ?_ ?_ ?_); rfl; rfl) | (refine l_gtr ?_; (first | refine SXl.v (OpW.gtrT rfl rfl (by omega)) rfl ?_ ?_ ?_ | refine SXl.v (OpW.gtrF rfl rfl (by omega)) rfl ?_ ?_ ?_ | refine SXl.v (OpW.gtr rfl rfl) rfl ?_ ?_ ?_); rfl; rfl) | (refine l_lss ?_; (first | refine SXl.v (OpW.lssT rfl rfl (by omega)) rfl ?_ ?_ ?_ | refine SXl.v (OpW.lssF rfl rfl (by omega)) rfl ?_ ?_ ?_ | refine SXl.v (OpW.lss rfl rfl) rfl ?_ ?_ ?_); rfl; rfl) | (refine l_mul ?_; (first | refine SXl.v (OpW.muli rfl rfl (by omega) (by omega)) rfl ?_ ?_ ?_ | refine SXl.v (OpW.mul rfl rfl) rfl ?_ ?_ ?_); rfl; rfl) | (refine l_neq ?_; (first | refine SXl.v (OpW.neqStrT rfl rfl (by first | assumption | with_reducible rfl | decide)) rfl ?_ ?_ ?_ | refine SXl.v (OpW.neqStrF rfl rfl (by first | assumption | with_reducible rfl | decide)) rfl ?_ ?_ ?_); rfl; rfl) | (refine l_sub ?_; (first | refine SXl.v (OpW.subi rfl rfl (by omega) (by omega)) rfl ?_ ?_ ?_ | refine SXl.v (OpW.sub rfl rfl) rfl ?_ ?_ ?_); rfl; rfl) | (refine l_pick ?_; (first | refine SXl.v (OpW.pick rfl rfl rfl) rfl ?_ ?_ ?_); rfl; rfl) | refine SX.ret ?_ | refine SX.exit ?_ | refine SQ.thenRet ?_ | refine SQ.thenExit ?_ | refine SQ.blockNormal ?_ | refine SQ.blockRet ?_ | refine SQ.blockExit ?_ | refine SQ.blockOther rfl ?_)
    have hI : k + 1 ≤ t.length ∧ Lib.decFrom 0 (t.take (k + 1)) = some (n * 10 + (u.toNat - 48)) := ⟨by omega, hs⟩
    refine SQ.round3 (k + 1) (n * 10 + (u.toNat - 48)) () hI (by omega) ?_ (fun _ hl => hl)
    (repeat (first | exact subF_nil _ | (refine subF_cons rfl ?_) | (refine subF_consv rfl (by rw [he]) ?_)))
  · have hk' : k = t.length := by omega
    subst hk'
    rw [List.take_length] at hn
    have hdec := fun w => sdecimal_any (n : Int) (by omega) (by omega) w
    have hit := itoa_nat n
    by_cases h9 : (1000000000 : Int) < n
    · have e : readDec t = (0, false) := readDec_false fun m hm hd _ => by
        have := decFrom_digits m
        rw [hd, hn] at this
        have := Option.some.inj this
        omega
      rw [e]
      repeat (first | refine SX.seq ?_ | refine SXl.nil ?_ | refine SX.region ?_ | refine SQ.thenNormal ?_ | refine SX.block ?_ | refine SX.skip ?_ | refine SX.condT rfl ?_ | refine SX.condF rfl ?_ | (refine SXl.no rfl rfl rfl ?_) | (refine l_call ?_; (first | refine SXl.v (OpW.call rfl (fun w hl => hdec _)) rfl ?_ ?_ ?_); rfl; rfl) | (refine l_move ?_; (first | refine SXl.v (OpW.move rfl) rfl ?_ ?_ ?_); rfl; rfl) | (refine l_assign ?_; (first | refine SXl.v (OpW.assign rfl) rfl ?_ ?_ ?_); rfl; rfl) | (refine l_len ?_; (first | refine SXl.v (OpW.lenStr rfl) rfl ?_ ?_ ?_); rfl; rfl) | (refine l_index ?_; (first | refine SXl.v (OpW.indexStr rfl rfl (by assumption)) rfl ?_ ?_ ?_); rfl; rfl) | (refine l_add ?_; (first | refine SXl.v (OpW.succ rfl rfl (by omega)) rfl ?_ ?_ ?_ | refine SXl.v (OpW.addi rfl rfl (by omega) (by omega)) rfl ?_ ?_ ?_ | refine SXl.v (OpW.add rfl rfl) rfl ?_ ?_ ?_); rfl; rfl) | (refine l_gtr ?_; (first | refine SXl.v (OpW.gtrT rfl rfl (by omega)) rfl ?_ ?_ ?_ | refine SXl.v (OpW.gtrF rfl rfl (by omega)) rfl ?_ ?_ ?_ | refine SXl.v (OpW.gtr rfl rfl) rfl ?_ ?_ ?_); rfl; rfl) | (refine l_lss ?_; (first | refine SXl.v (OpW.lssT rfl rfl (by omega)) rfl ?_ ?_ ?_ | refine SXl.v (OpW.lssF rfl rfl (by omega)) rfl ?_ ?_ ?_ | refine SXl.v (OpW.lss rfl rfl) rfl ?_ ?_ ?_); rfl; rfl) | (refine l_mul ?_; (first | refine SXl.v (OpW.muli rfl rfl (by omega) (by omega)) rfl ?_ ?_ ?_ | refine SXl.v (OpW.mul rfl rfl) rfl ?_ ?_ ?_); rfl; rfl) | (refine l_neq ?_; (first | refine SXl.v (OpW.neqStrT rfl rfl (by first | assumption | with_reducible rfl | decide)) rfl ?_ ?_ ?_ | refine SXl.v (OpW.neqStrF rfl rfl (by first | assumption | with_reducible rfl | decide)) rfl ?_ ?_ ?_); rfl; rfl) | (refine l_sub ?_; (first | refine SXl.v (OpW.subi rfl rfl (by omega) (by omega)) rfl ?_ ?_ ?_ | refine SXl.v (OpW.sub rfl rfl) rfl ?_ ?_ ?_); rfl; rfl) | (refine l_pick ?_; (first | refine SXl.v (OpW.pick rfl rfl rfl) rfl ?_ ?_ ?_); rfl; rfl) | refine SX.ret ?_ | refine SX.exit ?_ | refine SQ.thenRet ?_ | refine SQ.thenExit ?_ | refine SQ.blockNormal ?_ | refine SQ.blockRet ?_ | refine SQ.blockExit ?_ | refine SQ.blockOther rfl ?_)
      refine SQ.body2 rfl rfl rfl (fun w' hl => ⟨rfl, hl.mod⟩)
    by_cases hi : Lib.itoa (n : Int) = t
    · have e : readDec t = ((n : Int), true) := readDec_of (hit.symm.trans hi) hl (by omega)
      rw [e]
      repeat (first | refine SX.seq ?_ | refine SXl.nil ?_ | refine SX.region ?_ | refine SQ.thenNormal ?_ | refine SX.block ?_ | refine SX.skip ?_ | refine SX.condT rfl ?_ | refine SX.condF rfl ?_ | (refine SXl.no rfl rfl rfl ?_) | (refine l_call ?_; (first | refine SXl.v (OpW.call rfl (fun w hl => hdec _)) rfl ?_ ?_ ?_); rfl; rfl) | (refine l_move ?_; (first | refine SXl.v (OpW.move rfl) rfl ?_ ?_ ?_); rfl; rfl) | (refine l_assign ?_; (first | refine SXl.v (OpW.assign rfl) rfl ?_ ?_ ?_); rfl; rfl) | (refine l_len ?_; (first | refine SXl.v (OpW.lenStr rfl) rfl ?_ ?_ ?_); rfl; rfl) | (refine l_index ?_; (first | refine SXl.v (OpW.indexStr rfl rfl (by assumption)) rfl ?_ ?_ ?_); rfl; rfl) | (refine l_add ?_; (first | refine SXl.v (OpW.succ rfl rfl (by omega)) rfl ?_ ?_ ?_ | refine SXl.v (OpW.addi rfl rfl (by omega) (by omega)) rfl ?_ ?_ ?_ | refine SXl.v (OpW.add rfl rfl) rfl ?_ ?_ ?_); rfl; rfl) | (refine l_gtr ?_; (first | refine SXl.v (OpW.gtrT rfl rfl (by omega)) rfl ?_ ?_ ?_ | refine SXl.v (OpW.gtrF rfl rfl (by omega)) rfl ?_ ?_ ?_ | refine SXl.v (OpW.gtr rfl rfl) rfl ?_ ?_ ?_); rfl; rfl) | (refine l_lss ?_; (first | refine SXl.v (OpW.lssT rfl rfl (by omega)) rfl ?_ ?_ ?_ | refine SXl.v (OpW.lssF rfl rfl (by omega)) rfl ?_ ?_ ?_ | refine SXl.v (OpW.lss rfl rfl) rfl ?_ ?_ ?_); rfl; rfl) | (refine l_mul ?_; (first | refine SXl.v (OpW.muli rfl rfl (by omega) (by omega)) rfl ?_ ?_ ?_ | refine SXl.v (OpW.mul rfl rfl) rfl ?_ ?_ ?_); rfl; rfl) | (refine l_neq ?_; (first | refine SXl.v (OpW.neqStrT rfl rfl (by first | assumption | with_reducible rfl | decide)) rfl ?_ ?_ ?_ | refine SXl.v (OpW.neqStrF rfl rfl (by first | assumption | with_reducible rfl | decide)) rfl ?_ ?_ ?_); rfl; rfl) | (refine l_sub ?_; (first | refine SXl.v (OpW.subi rfl rfl (by omega) (by omega)) rfl ?_ ?_ ?_ | refine SXl.v (OpW.sub rfl rfl) rfl ?_ ?_ ?_); rfl; rfl) | (refine l_pick ?_; (first | refine SXl.v (OpW.pick rfl rfl rfl) rfl ?_ ?_ ?_); rfl; rfl) | refine SX.ret ?_ | refine SX.exit ?_ | refine SQ.thenRet ?_ | refine SQ.thenExit ?_ | refine SQ.blockNormal ?_ | refine SQ.blockRet ?_ | refine SQ.blockExit ?_ | refine SQ.blockOther rfl ?_)
      refine SQ.body2 rfl rfl rfl (fun w' hl => ⟨rfl, hl.mod⟩)
    · have e : readDec t = (0, false) := readDec_false fun m hm hd _ => by
        have h1 := decFrom_digits m
        rw [hd, hn] at h1
        have h2 := Option.some.inj h1
        subst h2
        exact hi (hit.trans hd)
      rw [e]
      repeat (first | refine SX.seq ?_ | refine SXl.nil ?_ | refine SX.region ?_ | refine SQ.thenNormal ?_ | refine SX.block ?_ | refine SX.skip ?_ | refine SX.condT rfl ?_ | refine SX.condF rfl ?_ | (refine SXl.no rfl rfl rfl ?_) | (refine l_call ?_; (first | refine SXl.v (OpW.call rfl (fun w hl => hdec _)) rfl ?_ ?_ ?_); rfl; rfl) | (refine l_move ?_; (first | refine SXl.v (OpW.move rfl) rfl ?_ ?_ ?_); rfl; rfl) | (refine l_assign ?_; (first | refine SXl.v (OpW.assign rfl) rfl ?_ ?_ ?_); rfl; rfl) | (refine l_len ?_; (first | refine SXl.v (OpW.lenStr rfl) rfl ?_ ?_ ?_); rfl; rfl) | (refine l_index ?_; (first | refine SXl.v (OpW.indexStr rfl rfl (by assumption)) rfl ?_ ?_ ?_); rfl; rfl) | (refine l_add ?_; (first | refine SXl.v (OpW.succ rfl rfl (by omega)) rfl ?_ ?_ ?_ | refine SXl.v (OpW.addi rfl rfl (by omega) (by omega)) rfl ?_ ?_ ?_ | refine SXl.v (OpW.add rfl rfl) rfl ?_ ?_ ?_); rfl; rfl) | (refine l_gtr ?_; (first | refine SXl.v (OpW.gtrT rfl rfl (by omega)) rfl ?_ ?_ ?_ | refine SXl.v (OpW.gtrF rfl rfl (by omega)) rfl ?_ ?_ ?_ | refine SXl.v (OpW.gtr rfl rfl) rfl ?_ ?_ ?_); rfl; rfl) | (refine l_lss ?_; (first | refine SXl.v (OpW.lssT rfl rfl (by omega)) rfl ?_ ?_ ?_ | refine SXl.v (OpW.lssF rfl rfl (by omega)) rfl ?_ ?_ ?_ | refine SXl.v (OpW.lss rfl rfl) rfl ?_ ?_ ?_); rfl; rfl) | (refine l_mul ?_; (first | refine SXl.v (OpW.muli rfl rfl (by omega) (by omega)) rfl ?_ ?_ ?_ | refine SXl.v (OpW.mul rfl rfl) rfl ?_ ?_ ?_); rfl; rfl) | (refine l_neq ?_; (first | refine SXl.v (OpW.neqStrT rfl rfl (by first | assumption | with_reducible rfl | decide)) rfl ?_ ?_ ?_ | refine SXl.v (OpW.neqStrF rfl rfl (by first | assumption | with_reducible rfl | decide)) rfl ?_ ?_ ?_); rfl; rfl) | (refine l_sub ?_; (first | refine SXl.v (OpW.subi rfl rfl (by omega) (by omega)) rfl ?_ ?_ ?_ | refine SXl.v (OpW.sub rfl rfl) rfl ?_ ?_ ?_); rfl; rfl) | (refine l_pick ?_; (first | refine SXl.v (OpW.pick rfl rfl rfl) rfl ?_ ?_ ?_); rfl; rfl) | refine SX.ret ?_ | refine SX.exit ?_ | refine SQ.thenRet ?_ | refine SQ.thenExit ?_ | refine SQ.blockNormal ?_ | refine SQ.blockRet ?_ | refine SQ.blockExit ?_ | refine SQ.blockOther rfl ?_)
      refine SQ.body2 rfl rfl rfl (fun w' hl => ⟨rfl, hl.mod⟩)

theorem atoi_no (t : List UInt8) (hl : t.length ≤ 18) (h : Lib.atoi t = none) (w : World) (hv : Syn w) : Calls Tryd.prog 137 #[.string ⟨t.toArray⟩] w (NewR Nat (fun N => .tuple #[.int .i64 0, .iface 211 (.pointer (some ⟨N, 0, none⟩))]) (fun _ => deadRes) w) := by
  obtain ⟨tp, p, hv⟩ := hv
  exact (Tryd.strconv_Atoi_err_var ⟨t.toArray⟩ (by show t.toArray.size ≤ 18; simpa using hl) h tp p w hv).mono fun e w' ⟨N, he, _, _, hb⟩ => ⟨N, he, ⟨trivial, fun _ f => f.elim⟩, below_kept hb⟩

set_option maxRecDepth 100000 in
set_option maxHeartbeats 4000000 in
theorem readDecimal_any (t : List UInt8) (ht : t.length ≤ 1048576) (w : World) (htab : Tab w) (hsyn : Syn w) : Calls Tryd.prog 81 #[.string ⟨t.toArray⟩] w fun e w' => e = .returned (.tuple #[.int .i64 (readDec t).1, .bool (readDec t).2]) ∧ Mod (fun _ => False) w w' := by
  refine calls_sx Tryd.func81 rfl rfl (fun a h1 h2 h3 => ((Fr.nil h1 h2).arg (h3 0 _ rfl))) ?_
  by_cases hl : t.length ≤ 10
  rotate_left
  · have e : readDec t = (0, false) := readDec_false fun m _ _ h => hl h
    rw [e]
    repeat (first | refine SX.seq ?_ | refine SXl.nil ?_ | refine SX.region ?_ | refine SQ.thenNormal ?_ | refine SX.block ?_ | refine SX.skip ?_ | refine SX.condT rfl ?_ | refine SX.condF rfl ?_ | (refine SXl.no rfl rfl rfl ?_) | (refine l_move ?_; (first | refine SXl.v (OpW.move rfl) rfl ?_ ?_ ?_); rfl; rfl) | (refine l_assign ?_; (first | refine SXl.v (OpW.assign rfl) rfl ?_ ?_ ?_); rfl; rfl) | (refine l_len ?_; (first | refine SXl.v (OpW.lenStr rfl) rfl ?_ ?_ ?_); rfl; rfl) | (refine l_gtr ?_; (first | refine SXl.v (OpW.gtrT rfl rfl (by omega)) rfl ?_ ?_ ?_ | refine SXl.v (OpW.gtrF rfl rfl (by omega)) rfl ?_ ?_ ?_ | refine SXl.v (OpW.gtr rfl rfl) rfl ?_ ?_ ?_); rfl; rfl) | (refine l_lss ?_; (first | refine SXl.v (OpW.lssT rfl rfl (by omega)) rfl ?_ ?_ ?_ | refine SXl.v (OpW.lssF rfl rfl (by omega)) rfl ?_ ?_ ?_ | refine SXl.v (OpW.lss rfl rfl) rfl ?_ ?_ ?_); rfl; rfl) | (refine l_neq ?_; (first | refine SXl.v (OpW.neqStrT rfl rfl (by first | assumption | with_reducible rfl | decide)) rfl ?_ ?_ ?_ | refine SXl.v (OpW.neqStrF rfl rfl (by first | assumption | with_reducible rfl | decide)) rfl ?_ ?_ ?_); rfl; rfl) | (refine l_pick ?_; (first | refine SXl.v (OpW.pick rfl rfl rfl) rfl ?_ ?_ ?_); rfl; rfl) | (refine l_extract ?_; (first | refine SXl.v (OpW.extract rfl rfl) rfl ?_ ?_ ?_); rfl; rfl) | refine SX.ret ?_ | refine SX.exit ?_ | refine SQ.thenRet ?_ | refine SQ.thenExit ?_ | refine SQ.blockNormal ?_ | refine SQ.blockRet ?_ | refine SQ.blockExit ?_ | refine SQ.blockOther rfl ?_)
    refine SQ.body2 rfl rfl rfl (fun w' hl => ⟨rfl, hl.mod⟩)
  by_cases h1 : t.length < 1
  · have e : readDec t = (0, false) := readDec_false fun m _ hm _ => by
      have h2 := decDigits_ne m
      rw [hm] at h2
      cases t with
      | nil => exact h2 rfl
      | cons => simp at h1
    rw [e]
    repeat (first | refine SX.seq ?_ | refine SXl.nil ?_ | refine SX.region ?_ | refine SQ.thenNormal ?_ | refine SX.block ?_ | refine SX.skip ?_ | refine SX.condT rfl ?_ | refine SX.condF rfl ?_ | (refine SXl.no rfl rfl rfl ?_) | (refine l_move ?_; (first | refine SXl.v (OpW.move rfl) rfl ?_ ?_ ?_); rfl; rfl) | (refine l_assign ?_; (first | refine SXl.v (OpW.assign rfl) rfl ?_ ?_ ?_); rfl; rfl) | (refine l_len ?_; (first | refine SXl.v (OpW.lenStr rfl) rfl ?_ ?_ ?_); rfl; rfl) | (refine l_gtr ?_; (first | refine SXl.v (OpW.gtrT rfl rfl (by omega)) rfl ?_ ?_ ?_ | refine SXl.v (OpW.gtrF rfl rfl (by omega)) rfl ?_ ?_ ?_ | refine SXl.v (OpW.gtr rfl rfl) rfl ?_ ?_ ?_); rfl; rfl) | (refine l_lss ?_; (first | refine SXl.v (OpW.lssT rfl rfl (by omega)) rfl ?_ ?_ ?_ | refine SXl.v (OpW.lssF rfl rfl (by omega)) rfl ?_ ?_ ?_ | refine SXl.v (OpW.lss rfl rfl) rfl ?_ ?_ ?_); rfl; rfl) | (refine l_neq ?_; (first | refine SXl.v (OpW.neqStrT rfl rfl (by first | assumption | with_reducible rfl | decide)) rfl ?_ ?_ ?_ | refine SXl.v (OpW.neqStrF rfl rfl (by first | assumption | with_reducible rfl | decide)) rfl ?_ ?_ ?_); rfl; rfl) | (refine l_pick ?_; (first | refine SXl.v (OpW.pick rfl rfl rfl) rfl ?_ ?_ ?_); rfl; rfl) | (refine l_extract ?_; (first | refine SXl.v (OpW.extract rfl rfl) rfl ?_ ?_ ?_); rfl; rfl) | refine SX.ret ?_ | refine SX.exit ?_ | refine SQ.thenRet ?_ | refine SQ.thenExit ?_ | refine SQ.blockNormal ?_ | refine SQ.blockRet ?_ | refine SQ.blockExit ?_ | refine SQ.blockOther rfl ?_)
    refine SQ.body2 rfl rfl rfl (fun w' hl => ⟨rfl, hl.mod⟩)
  cases ha : Lib.atoi t with
  | none =>
    have e : readDec t = (0, false) := readDec_false fun m _ hm _ => by
      have := atoi_digits m
      rw [hm, ha] at this
      cases this
    rw [e]
    repeat (first | refine SX.seq ?_ | refine SXl.nil ?_ | refine SX.region ?_ | refine SQ.thenNormal ?_ | refine SX.block ?_ | refine SX.skip ?_ | refine SX.condT rfl ?_ | refine SX.condF rfl ?_ | (refine SXl.no rfl rfl rfl ?_) | (refine l_neq ?_; (first | refine SXl.v ((OpW.neqI1 rfl)) rfl ?_ ?_ ?_ | refine SXl.v (OpW.neqStrT rfl rfl (by first | assumption | with_reducible rfl | decide)) rfl ?_ ?_ ?_ | refine SXl.v (OpW.neqStrF rfl rfl (by first | assumption | with_reducible rfl | decide)) rfl ?_ ?_ ?_); rfl; rfl) | (refine l_move ?_; (first | refine SXl.v (OpW.move rfl) rfl ?_ ?_ ?_); rfl; rfl) | (refine l_assign ?_; (first | refine SXl.v (OpW.assign rfl) rfl ?_ ?_ ?_); rfl; rfl) | (refine l_len ?_; (first | refine SXl.v (OpW.lenStr rfl) rfl ?_ ?_ ?_); rfl; rfl) | (refine l_gtr ?_; (first | refine SXl.v (OpW.gtrT rfl rfl (by omega)) rfl ?_ ?_ ?_ | refine SXl.v (OpW.gtrF rfl rfl (by omega)) rfl ?_ ?_ ?_ | refine SXl.v (OpW.gtr rfl rfl) rfl ?_ ?_ ?_); rfl; rfl) | (refine l_lss ?_; (first | refine SXl.v (OpW.lssT rfl rfl (by omega)) rfl ?_ ?_ ?_ | refine SXl.v (OpW.lssF rfl rfl (by omega)) rfl ?_ ?_ ?_ | refine SXl.v (OpW.lss rfl rfl) rfl ?_ ?_ ?_); rfl; rfl) | (refine l_pick ?_; (first | refine SXl.v (OpW.pick rfl rfl rfl) rfl ?_ ?_ ?_); rfl; rfl) | (refine l_extract ?_; (first | refine SXl.v (OpW.extract rfl rfl) rfl ?_ ?_ ?_); rfl; rfl) | ((refine l_call ?_; refine SXl.calln1 ?_ ?_ rfl (fun w hl => atoi_no t (by omega) ha _ (hsyn.keep hl.mod)) (fun N => ?_); rfl; rfl)) | refine SX.ret ?_ | refine SX.exit ?_ | refine SQ.thenRet ?_ | refine SQ.thenExit ?_ | refine SQ.blockNormal ?_ | refine SQ.blockRet ?_ | refine SQ.blockExit ?_ | refine SQ.blockOther rfl ?_)
    refine SQ.body2 rfl rfl rfl (fun w' hl => ⟨rfl, hl.mod⟩)
  | some v =>
    have hok := fun w => atoi_ok t v (by omega) ha w
    by_cases h0 : v < 0
    · have e : readDec t = (0, false) := readDec_false fun m _ hm _ => by
        have := atoi_digits m
        rw [hm, ha] at this
        have := Option.some.inj this
        omega
      rw [e]
      repeat (first | refine SX.seq ?_ | refine SXl.nil ?_ | refine SX.region ?_ | refine SQ.thenNormal ?_ | refine SX.block ?_ | refine SX.skip ?_ | refine SX.condT rfl ?_ | refine SX.condF rfl ?_ | (refine SXl.no rfl rfl rfl ?_) | (refine l_call ?_; (first | refine SXl.v (OpW.call rfl (fun w hl => hok _)) rfl ?_ ?_ ?_); rfl; rfl) | (refine l_neq ?_; (first | refine SXl.v ((OpW.neqI0 rfl)) rfl ?_ ?_ ?_ | refine SXl.v (OpW.neqStrT rfl rfl (by first | assumption | with_reducible rfl | decide)) rfl ?_ ?_ ?_ | refine SXl.v (OpW.neqStrF rfl rfl (by first | assumption | with_reducible rfl | decide)) rfl ?_ ?_ ?_); rfl; rfl) | (refine l_move ?_; (first | refine SXl.v (OpW.move rfl) rfl ?_ ?_ ?_); rfl; rfl) | (refine l_assign ?_; (first | refine SXl.v (OpW.assign rfl) rfl ?_ ?_ ?_); rfl; rfl) | (refine l_len ?_; (first | refine SXl.v (OpW.lenStr rfl) rfl ?_ ?_ ?_); rfl; rfl) | (refine l_gtr ?_; (first | refine SXl.v (OpW.gtrT rfl rfl (by omega)) rfl ?_ ?_ ?_ | refine SXl.v (OpW.gtrF rfl rfl (by omega)) rfl ?_ ?_ ?_ | refine SXl.v (OpW.gtr rfl rfl) rfl ?_ ?_ ?_); rfl; rfl) | (refine l_lss ?_; (first | refine SXl.v (OpW.lssT rfl rfl (by omega)) rfl ?_ ?_ ?_ | refine SXl.v (OpW.lssF rfl rfl (by omega)) rfl ?_ ?_ ?_ | refine SXl.v (OpW.lss rfl rfl) rfl ?_ ?_ ?_); rfl; rfl) | (refine l_pick ?_; (first | refine SXl.v (OpW.pick rfl rfl rfl) rfl ?_ ?_ ?_); rfl; rfl) | (refine l_extract ?_; (first | refine SXl.v (OpW.extract rfl rfl) rfl ?_ ?_ ?_); rfl; rfl) | refine SX.ret ?_ | refine SX.exit ?_ | refine SQ.thenRet ?_ | refine SQ.thenExit ?_ | refine SQ.blockNormal ?_ | refine SQ.blockRet ?_ | refine SQ.blockExit ?_ | refine SQ.blockOther rfl ?_)
      refine SQ.body2 rfl rfl rfl (fun w' hl => ⟨rfl, hl.mod⟩)
    by_cases h9 : 1000000000 < v
    · have e : readDec t = (0, false) := readDec_false fun m _ hm _ => by
        have := atoi_digits m
        rw [hm, ha] at this
        have := Option.some.inj this
        omega
      rw [e]
      repeat (first | refine SX.seq ?_ | refine SXl.nil ?_ | refine SX.region ?_ | refine SQ.thenNormal ?_ | refine SX.block ?_ | refine SX.skip ?_ | refine SX.condT rfl ?_ | refine SX.condF rfl ?_ | (refine SXl.no rfl rfl rfl ?_) | (refine l_call ?_; (first | refine SXl.v (OpW.call rfl (fun w hl => hok _)) rfl ?_ ?_ ?_); rfl; rfl) | (refine l_neq ?_; (first | refine SXl.v ((OpW.neqI0 rfl)) rfl ?_ ?_ ?_ | refine SXl.v (OpW.neqStrT rfl rfl (by first | assumption | with_reducible rfl | decide)) rfl ?_ ?_ ?_ | refine SXl.v (OpW.neqStrF rfl rfl (by first | assumption | with_reducible rfl | decide)) rfl ?_ ?_ ?_); rfl; rfl) | (refine l_move ?_; (first | refine SXl.v (OpW.move rfl) rfl ?_ ?_ ?_); rfl; rfl) | (refine l_assign ?_; (first | refine SXl.v (OpW.assign rfl) rfl ?_ ?_ ?_); rfl; rfl) | (refine l_len ?_; (first | refine SXl.v (OpW.lenStr rfl) rfl ?_ ?_ ?_); rfl; rfl) | (refine l_gtr ?_; (first | refine SXl.v (OpW.gtrT rfl rfl (by omega)) rfl ?_ ?_ ?_ | refine SXl.v (OpW.gtrF rfl rfl (by omega)) rfl ?_ ?_ ?_ | refine SXl.v (OpW.gtr rfl rfl) rfl ?_ ?_ ?_); rfl; rfl) | (refine l_lss ?_; (first | refine SXl.v (OpW.lssT rfl rfl (by omega)) rfl ?_ ?_ ?_ | refine SXl.v (OpW.lssF rfl rfl (by omega)) rfl ?_ ?_ ?_ | refine SXl.v (OpW.lss rfl rfl) rfl ?_ ?_ ?_); rfl; rfl) | (refine l_pick ?_; (first | refine SXl.v (OpW.pick rfl rfl rfl) rfl ?_ ?_ ?_); rfl; rfl) | (refine l_extract ?_; (first | refine SXl.v (OpW.extract rfl rfl) rfl ?_ ?_ ?_); rfl; rfl) | refine SX.ret ?_ | refine SX.exit ?_ | refine SQ.thenRet ?_ | refine SQ.thenExit ?_ | refine SQ.blockNormal ?_ | refine SQ.blockRet ?_ | refine SQ.blockExit ?_ | refine SQ.blockOther rfl ?_)
      refine SQ.body2 rfl rfl rfl (fun w' hl => ⟨rfl, hl.mod⟩)
    have hdec := fun w h => decimal_any v ⟨by omega, by omega⟩ w h
    by_cases hi : Lib.itoa v = t
    · have e : readDec t = (v, true) := by
        have hv : v = (v.toNat : Int) := by omega
        have := readDec_of (m := v.toNat) (t := t) (by rw [← itoa_nat, ← hv]; exact hi) hl (by omega)
        rw [this, ← hv]
      rw [e]
      repeat (first | refine SX.seq ?_ | refine SXl.nil ?_ | refine SX.region ?_ | refine SQ.thenNormal ?_ | refine SX.block ?_ | refine SX.skip ?_ | refine SX.condT rfl ?_ | refine SX.condF rfl ?_ | (refine SXl.no rfl rfl rfl ?_) | (refine l_call ?_; (first | refine SXl.v (OpW.call rfl (fun w hl => hok _)) rfl ?_ ?_ ?_ | refine SXl.v (OpW.call rfl (fun w hl => hdec _ (htab.keep hl.mod))) rfl ?_ ?_ ?_); rfl; rfl) | (refine l_neq ?_; (first | refine SXl.v ((OpW.neqI0 rfl)) rfl ?_ ?_ ?_ | refine SXl.v (OpW.neqStrT rfl rfl (by first | assumption | with_reducible rfl | decide)) rfl ?_ ?_ ?_ | refine SXl.v (OpW.neqStrF rfl rfl (by first | assumption | with_reducible rfl | decide)) rfl ?_ ?_ ?_); rfl; rfl) | (refine l_move ?_; (first | refine SXl.v (OpW.move rfl) rfl ?_ ?_ ?_); rfl; rfl) | (refine l_assign ?_; (first | refine SXl.v (OpW.assign rfl) rfl ?_ ?_ ?_); rfl; rfl) | (refine l_len ?_; (first | refine SXl.v (OpW.lenStr rfl) rfl ?_ ?_ ?_); rfl; rfl) | (refine l_gtr ?_; (first | refine SXl.v (OpW.gtrT rfl rfl (by omega)) rfl ?_ ?_ ?_ | refine SXl.v (OpW.gtrF rfl rfl (by omega)) rfl ?_ ?_ ?_ | refine SXl.v (OpW.gtr rfl rfl) rfl ?_ ?_ ?_); rfl; rfl) | (refine l_lss ?_; (first | refine SXl.v (OpW.lssT rfl rfl (by omega)) rfl ?_ ?_ ?_ | refine SXl.v (OpW.lssF rfl rfl (by omega)) rfl ?_ ?_ ?_ | refine SXl.v (OpW.lss rfl rfl) rfl ?_ ?_ ?_); rfl; rfl) | (refine l_pick ?_; (first | refine SXl.v (OpW.pick rfl rfl rfl) rfl ?_ ?_ ?_); rfl; rfl) | (refine l_extract ?_; (first | refine SXl.v (OpW.extract rfl rfl) rfl ?_ ?_ ?_); rfl; rfl) | refine SX.ret ?_ | refine SX.exit ?_ | refine SQ.thenRet ?_ | refine SQ.thenExit ?_ | refine SQ.blockNormal ?_ | refine SQ.blockRet ?_ | refine SQ.blockExit ?_ | refine SQ.blockOther rfl ?_)
      refine SQ.body2 rfl rfl rfl (fun w' hl => ⟨rfl, hl.mod⟩)
    · have e : readDec t = (0, false) := readDec_false fun m _ hm _ => by
        have := atoi_digits m
        rw [hm, ha] at this
        have := Option.some.inj this
        subst this
        exact hi ((itoa_nat m).trans hm)
      rw [e]
      repeat (first | refine SX.seq ?_ | refine SXl.nil ?_ | refine SX.region ?_ | refine SQ.thenNormal ?_ | refine SX.block ?_ | refine SX.skip ?_ | refine SX.condT rfl ?_ | refine SX.condF rfl ?_ | (refine SXl.no rfl rfl rfl ?_) | (refine l_call ?_; (first | refine SXl.v (OpW.call rfl (fun w hl => hok _)) rfl ?_ ?_ ?_ | refine SXl.v (OpW.call rfl (fun w hl => hdec _ (htab.keep hl.mod))) rfl ?_ ?_ ?_); rfl; rfl) | (refine l_neq ?_; (first | refine SXl.v ((OpW.neqI0 rfl)) rfl ?_ ?_ ?_ | refine SXl.v (OpW.neqStrT rfl rfl (by first | assumption | with_reducible rfl | decide)) rfl ?_ ?_ ?_ | refine SXl.v (OpW.neqStrF rfl rfl (by first | assumption | with_reducible rfl | decide)) rfl ?_ ?_ ?_); rfl; rfl) | (refine l_move ?_; (first | refine SXl.v (OpW.move rfl) rfl ?_ ?_ ?_); rfl; rfl) | (refine l_assign ?_; (first | refine SXl.v (OpW.assign rfl) rfl ?_ ?_ ?_); rfl; rfl) | (refine l_len ?_; (first | refine SXl.v (OpW.lenStr rfl) rfl ?_ ?_ ?_); rfl; rfl) | (refine l_gtr ?_; (first | refine SXl.v (OpW.gtrT rfl rfl (by omega)) rfl ?_ ?_ ?_ | refine SXl.v (OpW.gtrF rfl rfl (by omega)) rfl ?_ ?_ ?_ | refine SXl.v (OpW.gtr rfl rfl) rfl ?_ ?_ ?_); rfl; rfl) | (refine l_lss ?_; (first | refine SXl.v (OpW.lssT rfl rfl (by omega)) rfl ?_ ?_ ?_ | refine SXl.v (OpW.lssF rfl rfl (by omega)) rfl ?_ ?_ ?_ | refine SXl.v (OpW.lss rfl rfl) rfl ?_ ?_ ?_); rfl; rfl) | (refine l_pick ?_; (first | refine SXl.v (OpW.pick rfl rfl rfl) rfl ?_ ?_ ?_); rfl; rfl) | (refine l_extract ?_; (first | refine SXl.v (OpW.extract rfl rfl) rfl ?_ ?_ ?_); rfl; rfl) | refine SX.ret ?_ | refine SX.exit ?_ | refine SQ.thenRet ?_ | refine SQ.thenExit ?_ | refine SQ.blockNormal ?_ | refine SQ.blockRet ?_ | refine SQ.blockExit ?_ | refine SQ.blockOther rfl ?_)
      refine SQ.body2 rfl rfl rfl (fun w' hl => ⟨rfl, hl.mod⟩)

end Go.Proofs.YthffgbhphjkdeaaDoor
