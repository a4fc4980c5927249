/-
  PROVED: contracts of functions and words on memory, several texts put together: what each says stands at its theorems. Conditions: as told there.
-/
import Derived.Test.YtkkjjhooamlljaaGreatDoorMBc
import Derived.Lib.Atoi
import Derived.Lib.AtoiErr
import Derived.Lib.Strings
import Derived.Lib.SplitLaws
import Derived.Lib.Join
set_option linter.unusedVariables false
set_option linter.unusedSimpArgs false
namespace Go.Proofs.YtkkjjhooamlljaaGreatDoor
open Go.RowKit
set_option linter.unusedVariables false
set_option linter.unusedSimpArgs false

theorem SXl.dropF {P : Program} {n : Nat} {W : World} {R : Rg W} {L : List Blk} {O : List Own} {E : List Res} {f : List (Nat × Value)} {Q : Exit → Go.Act → World → Prop} {ops : Array Oper} {rest : List Oper} {F : Res} (h : SXl P n W R ops L O E f rest Q) : SXl P n W R ops L O (F :: E) f rest Q := ⟨fun a w hf hl => h.run a w hf hl.dropE⟩
/-- An act whose table is the call's own. -/
structure ActQ where
  x : ActL
  a : Option Addr
  c : Nat
def ActQ.v (q : ActQ) : Value := .agg (q.x.row q.a q.c).toArray
def ActQ.o (q : ActQ) : Own := ⟨.slice q.a q.x.rules.length q.c, 70, 3, q.x.rules.length, (q.x.rules.map Rule.cells).flatten⟩
set_option maxRecDepth 100000 in
set_option maxHeartbeats 16000000 in
theorem l27Act_o (B gc : Nat) (w : World) (hc : Cur B 100 w gc) :
    Calls Tryz.prog 100 #[.pointer (some ⟨gc, 0, none⟩)] w (DrewO ActQ 100 B gc ActQ.v (fun q => [q.o]) (fun q => q.x.rules.length ≤ 3) w) := by
  have hgs := hc.size
  refine calls_draw (as_ := [.pointer (some ⟨gc, 0, none⟩)]) hc Tryz.func100 rfl rfl (fun a h1 h2 h3 => ((Fr.nil h1 h2).arg (h3 0 _ rfl))) ?_
  repeat (first | refine qap ?_ | refine qak ?_ | refine qaf ?_ | refine qab ?_ | (refine qau ?_; (refine qaa (qaj rfl) rfl ?_ ?_ ?_); rfl; rfl) | (refine qaT ?_; refine SXl.alloc ?_ ?_ (fun g => ?_); rfl; rfl))
  refine qaA ?_
  refine SXl.draw (ξ := Int) (v := fun x : Int => .int .i64 x) rfl rfl rfl (fun x => 0 ≤ x ∧ x < 5) (fun w hl => below_d B gc w hl.inv 5 (by decide) (by decide)) (fun kk hkk => ?_)
  repeat (first | refine qap ?_ | refine qak ?_ | refine qaf ?_ | refine qab ?_ | (refine qau ?_; (refine qaa (qaj rfl) rfl ?_ ?_ ?_); rfl; rfl) | (refine qai ?_; (refine qaa (qae rfl) rfl ?_ ?_ ?_); rfl; rfl) | (refine l_add ?_; (refine qaa (OpW.addi rfl rfl (by omega) (by omega)) rfl ?_ ?_ ?_); rfl; rfl))
  refine qaA ?_
  refine SXl.draw (ξ := Int) (v := fun x : Int => .int .i64 x) rfl rfl rfl (fun x => 0 ≤ x ∧ x < 14) (fun w hl => below_d B gc w hl.inv 14 (by decide) (by decide)) (fun y hy => ?_)
  by_cases y5 : y = 5
  · repeat (first | refine qap ?_ | refine qak ?_ | refine qaf ?_ | refine qab ?_ | refine SX.block ?_ | refine qao rfl ?_ | refine qas rfl ?_ | (refine qau ?_; (refine qaa (qaj rfl) rfl ?_ ?_ ?_); rfl; rfl) | (refine qai ?_; (refine qaa (qae rfl) rfl ?_ ?_ ?_); rfl; rfl) | (refine qaK ?_; (first | refine qaa (qaI rfl rfl (by omega)) rfl ?_ ?_ ?_ | refine qaa (qaH rfl rfl (by omega)) rfl ?_ ?_ ?_); rfl; rfl))
    refine qaA ?_
    refine SXl.drawOJ rfl rfl rfl (fun w hl => l09Table_o B gc w hl.inv) (fun q hq => ?_)
    repeat (first | refine qak ?_ | refine qab ?_ | (refine qaO ?_; (refine qaa ((qaz (vals := [(0, .int .i64 5), (1, .int .i64 (1 + kk)), (6, q.v)]) (cells := [.int .i64 5, .int .i64 (1 + kk), .int .i64 0, .int .i64 0, .string ⟨#[]⟩, .int .i64 0, .int .i64 0, .slice q.a q.l.length q.c, .int .i64 0, .int .i64 0, .bool false]) rfl (by kernel_rfl))) rfl ?_ ?_ ?_); rfl; rfl) | (refine qaD ?_; first | ((first | refine qad 0 ?_ rfl rfl rfl rfl rfl rfl rfl ?_ | refine qad 1 ?_ rfl rfl rfl rfl rfl rfl rfl ?_ | refine qad 2 ?_ rfl rfl rfl rfl rfl rfl rfl ?_); rfl; simp only [List.set_cons_zero, List.set_cons_succ]) | ((first | refine qac 0 ?_ rfl rfl rfl rfl rfl rfl rfl ?_ | refine qac 1 ?_ rfl rfl rfl rfl rfl rfl rfl ?_ | refine qac 2 ?_ rfl rfl rfl rfl rfl rfl rfl ?_); rfl; simp only [over, List.set_cons_zero, List.set_cons_succ])) | refine qav ?_ | refine qan ?_ | refine qaw ?_)
    refine qaN 0 rfl rfl rfl rfl (fun w' hl => ⟨⟨⟨5, 1 + kk, 0, 0, [], ⟨0, 0⟩, q.l, 0, 0, false⟩, q.a, q.c⟩, rfl, hq.2, hl.owns, hl.mod, hl.inv⟩)
  refine SXl.ownNil 70 3 ?_
  by_cases y0 : y = 0
  · repeat (first | refine qap ?_ | refine qak ?_ | refine qaf ?_ | refine qab ?_ | refine SX.block ?_ | refine qaE ?_ | refine qao rfl ?_ | (refine qaO ?_; (refine qaa ((qaz (vals := [(0, .int .i64 1)]) (cells := [.int .i64 1, .int .i64 0, .int .i64 0, .int .i64 0, .string ⟨#[]⟩, .int .i64 0, .int .i64 0, .slice none 0 0, .int .i64 0, .int .i64 0, .bool false]) rfl (by kernel_rfl))) rfl ?_ ?_ ?_); rfl; rfl) | (refine qai ?_; (refine qaa (qae rfl) rfl ?_ ?_ ?_); rfl; rfl) | (refine qaK ?_; (refine qaa (qaI rfl rfl (by omega)) rfl ?_ ?_ ?_); rfl; rfl) | (refine qaD ?_; first | ((first | refine qad 0 ?_ rfl rfl rfl rfl rfl rfl rfl ?_ | refine qad 1 ?_ rfl rfl rfl rfl rfl rfl rfl ?_ | refine qad 2 ?_ rfl rfl rfl rfl rfl rfl rfl ?_); rfl; simp only [List.set_cons_zero, List.set_cons_succ]) | ((first | refine qac 0 ?_ rfl rfl rfl rfl rfl rfl rfl ?_ | refine qac 1 ?_ rfl rfl rfl rfl rfl rfl rfl ?_ | refine qac 2 ?_ rfl rfl rfl rfl rfl rfl rfl ?_); rfl; simp only [over, List.set_cons_zero, List.set_cons_succ])) | refine qav ?_ | refine qan ?_ | refine qaw ?_)
    refine qaN 0 rfl rfl rfl rfl (fun w' hl => ⟨⟨⟨1, 0, 0, 0, [], ⟨0, 0⟩, [], 0, 0, false⟩, none, 0⟩, rfl, by simp, hl.owns, hl.mod, hl.inv⟩)
  by_cases y1 : y = 1
  · repeat (first | refine qap ?_ | refine qak ?_ | refine qaf ?_ | refine qab ?_ | refine SX.block ?_ | refine qao rfl ?_ | refine qas rfl ?_ | (refine qaO ?_; (refine qaa ((qaz (vals := [(0, .int .i64 1)]) (cells := [.int .i64 1, .int .i64 0, .int .i64 0, .int .i64 0, .string ⟨#[]⟩, .int .i64 0, .int .i64 0, .slice none 0 0, .int .i64 0, .int .i64 0, .bool false]) rfl (by kernel_rfl))) rfl ?_ ?_ ?_); rfl; rfl) | (refine qai ?_; (refine qaa (qae rfl) rfl ?_ ?_ ?_); rfl; rfl) | (refine qaK ?_; (first | refine qaa (qaI rfl rfl (by omega)) rfl ?_ ?_ ?_ | refine qaa (qaH rfl rfl (by omega)) rfl ?_ ?_ ?_); rfl; rfl) | (refine qaD ?_; first | ((first | refine qad 0 ?_ rfl rfl rfl rfl rfl rfl rfl ?_ | refine qad 1 ?_ rfl rfl rfl rfl rfl rfl rfl ?_ | refine qad 2 ?_ rfl rfl rfl rfl rfl rfl rfl ?_); rfl; simp only [List.set_cons_zero, List.set_cons_succ]) | ((first | refine qac 0 ?_ rfl rfl rfl rfl rfl rfl rfl ?_ | refine qac 1 ?_ rfl rfl rfl rfl rfl rfl rfl ?_ | refine qac 2 ?_ rfl rfl rfl rfl rfl rfl rfl ?_); rfl; simp only [over, List.set_cons_zero, List.set_cons_succ])) | refine qav ?_ | refine qan ?_ | refine qaw ?_)
    refine qaN 0 rfl rfl rfl rfl (fun w' hl => ⟨⟨⟨1, 0, 0, 0, [], ⟨0, 0⟩, [], 0, 0, false⟩, none, 0⟩, rfl, by simp, hl.owns, hl.mod, hl.inv⟩)
  by_cases y2 : y = 2
  · repeat (first | refine qap ?_ | refine qak ?_ | refine qaf ?_ | refine qab ?_ | refine SX.block ?_ | refine qaE ?_ | refine qao rfl ?_ | refine qas rfl ?_ | (refine qau ?_; (refine qaa (qaj rfl) rfl ?_ ?_ ?_); rfl; rfl) | (refine qai ?_; (refine qaa (qae rfl) rfl ?_ ?_ ?_); rfl; rfl) | (refine qaK ?_; (first | refine qaa (qaI rfl rfl (by omega)) rfl ?_ ?_ ?_ | refine qaa (qaH rfl rfl (by omega)) rfl ?_ ?_ ?_); rfl; rfl))
    refine qaA ?_
    refine SXl.draw (ξ := Int) (v := fun x : Int => .int .i64 x) rfl rfl rfl (fun x => 0 ≤ x ∧ x < 2) (fun w hl => below_d B gc w hl.inv 2 (by decide) (by decide)) (fun z hz => ?_)
    repeat (first | refine qak ?_ | refine qab ?_ | (refine qaO ?_; (refine qaa ((qaz (vals := [(0, .int .i64 2), (1, .int .i64 (1 + z)), (2, .int .i64 (1 + kk)), (3, .int .i64 0)]) (cells := [.int .i64 2, .int .i64 (1 + z), .int .i64 (1 + kk), .int .i64 0, .string ⟨#[]⟩, .int .i64 0, .int .i64 0, .slice none 0 0, .int .i64 0, .int .i64 0, .bool false]) rfl (by kernel_rfl))) rfl ?_ ?_ ?_); rfl; rfl) | (refine qau ?_; (refine qaa (qaj rfl) rfl ?_ ?_ ?_); rfl; rfl) | (refine l_add ?_; (refine qaa (OpW.addi rfl rfl (by omega) (by omega)) rfl ?_ ?_ ?_); rfl; rfl) | (refine qaD ?_; first | ((first | refine qad 0 ?_ rfl rfl rfl rfl rfl rfl rfl ?_ | refine qad 1 ?_ rfl rfl rfl rfl rfl rfl rfl ?_ | refine qad 2 ?_ rfl rfl rfl rfl rfl rfl rfl ?_); rfl; simp only [List.set_cons_zero, List.set_cons_succ]) | ((first | refine qac 0 ?_ rfl rfl rfl rfl rfl rfl rfl ?_ | refine qac 1 ?_ rfl rfl rfl rfl rfl rfl rfl ?_ | refine qac 2 ?_ rfl rfl rfl rfl rfl rfl rfl ?_); rfl; simp only [over, List.set_cons_zero, List.set_cons_succ])) | refine qav ?_ | refine qan ?_ | refine qaw ?_)
    refine qaN 0 rfl rfl rfl rfl (fun w' hl => ⟨⟨⟨2, 1 + z, 1 + kk, 0, [], ⟨0, 0⟩, [], 0, 0, false⟩, none, 0⟩, rfl, by simp, hl.owns, hl.mod, hl.inv⟩)
  by_cases y3 : y = 3
  · repeat (first | refine qap ?_ | refine qak ?_ | refine qaf ?_ | refine qab ?_ | refine SX.block ?_ | refine qao rfl ?_ | refine qas rfl ?_ | (refine qau ?_; (refine qaa (qaj rfl) rfl ?_ ?_ ?_); rfl; rfl) | (refine qai ?_; (refine qaa (qae rfl) rfl ?_ ?_ ?_); rfl; rfl) | (refine qaK ?_; (first | refine qaa (qaI rfl rfl (by omega)) rfl ?_ ?_ ?_ | refine qaa (qaH rfl rfl (by omega)) rfl ?_ ?_ ?_); rfl; rfl))
    refine qaA ?_
    refine SXl.draw (ξ := Int) (v := fun x : Int => .int .i64 x) rfl rfl rfl (fun x => 0 ≤ x ∧ x < 2) (fun w hl => below_d B gc w hl.inv 2 (by decide) (by decide)) (fun z hz => ?_)
    repeat (first | refine qak ?_ | refine qab ?_ | (refine qaO ?_; (refine qaa ((qaz (vals := [(0, .int .i64 2), (1, .int .i64 (1 + z)), (2, .int .i64 (1 + kk)), (3, .int .i64 0)]) (cells := [.int .i64 2, .int .i64 (1 + z), .int .i64 (1 + kk), .int .i64 0, .string ⟨#[]⟩, .int .i64 0, .int .i64 0, .slice none 0 0, .int .i64 0, .int .i64 0, .bool false]) rfl (by kernel_rfl))) rfl ?_ ?_ ?_); rfl; rfl) | (refine qau ?_; (refine qaa (qaj rfl) rfl ?_ ?_ ?_); rfl; rfl) | (refine l_add ?_; (refine qaa (OpW.addi rfl rfl (by omega) (by omega)) rfl ?_ ?_ ?_); rfl; rfl) | (refine qaD ?_; first | ((first | refine qad 0 ?_ rfl rfl rfl rfl rfl rfl rfl ?_ | refine qad 1 ?_ rfl rfl rfl rfl rfl rfl rfl ?_ | refine qad 2 ?_ rfl rfl rfl rfl rfl rfl rfl ?_); rfl; simp only [List.set_cons_zero, List.set_cons_succ]) | ((first | refine qac 0 ?_ rfl rfl rfl rfl rfl rfl rfl ?_ | refine qac 1 ?_ rfl rfl rfl rfl rfl rfl rfl ?_ | refine qac 2 ?_ rfl rfl rfl rfl rfl rfl rfl ?_); rfl; simp only [over, List.set_cons_zero, List.set_cons_succ])) | refine qav ?_ | refine qan ?_ | refine qaw ?_)
    refine qaN 0 rfl rfl rfl rfl (fun w' hl => ⟨⟨⟨2, 1 + z, 1 + kk, 0, [], ⟨0, 0⟩, [], 0, 0, false⟩, none, 0⟩, rfl, by simp, hl.owns, hl.mod, hl.inv⟩)
  by_cases y4 : y = 4
  · repeat (first | refine qap ?_ | refine qak ?_ | refine qaf ?_ | refine qab ?_ | refine SX.block ?_ | refine qao rfl ?_ | refine qas rfl ?_ | (refine qau ?_; (refine qaa (qaj rfl) rfl ?_ ?_ ?_); rfl; rfl) | (refine qai ?_; (refine qaa (qae rfl) rfl ?_ ?_ ?_); rfl; rfl) | (refine qaK ?_; (first | refine qaa (qaI rfl rfl (by omega)) rfl ?_ ?_ ?_ | refine qaa (qaH rfl rfl (by omega)) rfl ?_ ?_ ?_); rfl; rfl))
    refine qaA ?_
    refine SXl.draw (ξ := Int) (v := fun x : Int => .int .i64 x) rfl rfl rfl (fun x => 0 ≤ x ∧ x < 2) (fun w hl => below_d B gc w hl.inv 2 (by decide) (by decide)) (fun z hz => ?_)
    repeat (first | refine qak ?_ | refine qab ?_ | (refine qaO ?_; (refine qaa ((qaz (vals := [(0, .int .i64 3), (1, .int .i64 (1 + z)), (2, .int .i64 (1 + kk))]) (cells := [.int .i64 3, .int .i64 (1 + z), .int .i64 (1 + kk), .int .i64 0, .string ⟨#[]⟩, .int .i64 0, .int .i64 0, .slice none 0 0, .int .i64 0, .int .i64 0, .bool false]) rfl (by kernel_rfl))) rfl ?_ ?_ ?_); rfl; rfl) | (refine qau ?_; (refine qaa (qaj rfl) rfl ?_ ?_ ?_); rfl; rfl) | (refine l_add ?_; (refine qaa (OpW.addi rfl rfl (by omega) (by omega)) rfl ?_ ?_ ?_); rfl; rfl) | (refine qaD ?_; first | ((first | refine qad 0 ?_ rfl rfl rfl rfl rfl rfl rfl ?_ | refine qad 1 ?_ rfl rfl rfl rfl rfl rfl rfl ?_ | refine qad 2 ?_ rfl rfl rfl rfl rfl rfl rfl ?_); rfl; simp only [List.set_cons_zero, List.set_cons_succ]) | ((first | refine qac 0 ?_ rfl rfl rfl rfl rfl rfl rfl ?_ | refine qac 1 ?_ rfl rfl rfl rfl rfl rfl rfl ?_ | refine qac 2 ?_ rfl rfl rfl rfl rfl rfl rfl ?_); rfl; simp only [over, List.set_cons_zero, List.set_cons_succ])) | refine qav ?_ | refine qan ?_ | refine qaw ?_)
    refine qaN 0 rfl rfl rfl rfl (fun w' hl => ⟨⟨⟨3, 1 + z, 1 + kk, 0, [], ⟨0, 0⟩, [], 0, 0, false⟩, none, 0⟩, rfl, by simp, hl.owns, hl.mod, hl.inv⟩)
  by_cases y6 : y = 6
  · repeat (first | refine qap ?_ | refine qak ?_ | refine qaf ?_ | refine qab ?_ | refine SX.block ?_ | refine qao rfl ?_ | refine qas rfl ?_ | (refine qaO ?_; (refine qaa ((qaz (vals := [(0, .int .i64 6), (1, .int .i64 (1 + kk))]) (cells := [.int .i64 6, .int .i64 (1 + kk), .int .i64 0, .int .i64 0, .string ⟨#[]⟩, .int .i64 0, .int .i64 0, .slice none 0 0, .int .i64 0, .int .i64 0, .bool false]) rfl (by kernel_rfl))) rfl ?_ ?_ ?_); rfl; rfl) | (refine qau ?_; (refine qaa (qaj rfl) rfl ?_ ?_ ?_); rfl; rfl) | (refine qai ?_; (refine qaa (qae rfl) rfl ?_ ?_ ?_); rfl; rfl) | (refine qaK ?_; (first | refine qaa (qaI rfl rfl (by omega)) rfl ?_ ?_ ?_ | refine qaa (qaH rfl rfl (by omega)) rfl ?_ ?_ ?_); rfl; rfl) | (refine qaD ?_; first | ((first | refine qad 0 ?_ rfl rfl rfl rfl rfl rfl rfl ?_ | refine qad 1 ?_ rfl rfl rfl rfl rfl rfl rfl ?_ | refine qad 2 ?_ rfl rfl rfl rfl rfl rfl rfl ?_); rfl; simp only [List.set_cons_zero, List.set_cons_succ]) | ((first | refine qac 0 ?_ rfl rfl rfl rfl rfl rfl rfl ?_ | refine qac 1 ?_ rfl rfl rfl rfl rfl rfl rfl ?_ | refine qac 2 ?_ rfl rfl rfl rfl rfl rfl rfl ?_); rfl; simp only [over, List.set_cons_zero, List.set_cons_succ])) | refine qav ?_ | refine qan ?_ | refine qaw ?_)
    refine qaN 0 rfl rfl rfl rfl (fun w' hl => ⟨⟨⟨6, 1 + kk, 0, 0, [], ⟨0, 0⟩, [], 0, 0, false⟩, none, 0⟩, rfl, by simp, hl.owns, hl.mod, hl.inv⟩)
  by_cases y7 : y = 7
  · repeat (first | refine qap ?_ | refine qak ?_ | refine qaf ?_ | refine qab ?_ | refine SX.block ?_ | refine qaE ?_ | refine qao rfl ?_ | refine qas rfl ?_ | (refine qau ?_; (refine qaa (qaj rfl) rfl ?_ ?_ ?_); rfl; rfl) | (refine qai ?_; (refine qaa (qae rfl) rfl ?_ ?_ ?_); rfl; rfl) | (refine qaK ?_; (first | refine qaa (qaI rfl rfl (by omega)) rfl ?_ ?_ ?_ | refine qaa (qaH rfl rfl (by omega)) rfl ?_ ?_ ?_); rfl; rfl))
    refine qaG ?_
    refine SXl.lit (cells := ([-1, 640, 1000] : List Int).map (.int .i64)) (z := .int .i64 0) ?_ ?_ rfl (by decide) (by kernel_rfl) rfl (fun gl => ?_)
    rfl; rfl
    skip
    refine qaA ?_
    refine SXl.draw (ξ := Int) (v := fun x => .int .i64 x) rfl rfl rfl (fun x => x ∈ ([-1, 640, 1000] : List Int)) (fun w hl => pick_d (l := [-1, 640, 1000]) hl (by decide) (by decide)) (fun u hu => ?_)
    refine SXl.drop1 ?_
    repeat ((refine qau ?_; (refine qaa (qaj rfl) rfl ?_ ?_ ?_); rfl; rfl))
    refine qaG ?_
    refine SXl.lit (cells := ([-1, 640, 1000] : List Int).map (.int .i64)) (z := .int .i64 0) ?_ ?_ rfl (by decide) (by kernel_rfl) rfl (fun gl => ?_)
    rfl; rfl
    skip
    refine qaA ?_
    refine SXl.draw (ξ := Int) (v := fun x => .int .i64 x) rfl rfl rfl (fun x => x ∈ ([-1, 640, 1000] : List Int)) (fun w hl => pick_d (l := [-1, 640, 1000]) hl (by decide) (by decide)) (fun v hv => ?_)
    refine SXl.drop1 ?_
    repeat ((refine qau ?_; (refine qaa (qaj rfl) rfl ?_ ?_ ?_); rfl; rfl))
    refine qaA ?_
    refine SXl.draw (ξ := Bool) (v := fun b => .bool b) rfl rfl rfl (fun _ => True) (fun w hl => once_d B gc w hl.inv 3 (by decide)) (fun b _ => ?_)
    repeat (first | refine qak ?_ | refine qab ?_ | (refine qaO ?_; (refine qaa ((qaz (vals := [(0, .int .i64 7), (1, .int .i64 1), (7, .int .i64 u), (8, .int .i64 v), (9, .bool b)]) (cells := [.int .i64 7, .int .i64 1, .int .i64 0, .int .i64 0, .string ⟨#[]⟩, .int .i64 0, .int .i64 0, .slice none 0 0, .int .i64 u, .int .i64 v, .bool b]) rfl (by kernel_rfl))) rfl ?_ ?_ ?_); rfl; rfl) | (refine qaD ?_; first | ((first | refine qad 0 ?_ rfl rfl rfl rfl rfl rfl rfl ?_ | refine qad 1 ?_ rfl rfl rfl rfl rfl rfl rfl ?_ | refine qad 2 ?_ rfl rfl rfl rfl rfl rfl rfl ?_); rfl; simp only [List.set_cons_zero, List.set_cons_succ]) | ((first | refine qac 0 ?_ rfl rfl rfl rfl rfl rfl rfl ?_ | refine qac 1 ?_ rfl rfl rfl rfl rfl rfl rfl ?_ | refine qac 2 ?_ rfl rfl rfl rfl rfl rfl rfl ?_); rfl; simp only [over, List.set_cons_zero, List.set_cons_succ])) | refine qav ?_ | refine qan ?_ | refine qaw ?_)
    refine qaN 0 rfl rfl rfl rfl (fun w' hl => ⟨⟨⟨7, 1, 0, 0, [], ⟨0, 0⟩, [], u, v, b⟩, none, 0⟩, rfl, by simp, hl.owns, hl.mod, hl.inv⟩)
  by_cases y8 : y = 8
  · repeat (first | refine qap ?_ | refine qak ?_ | refine qaf ?_ | refine qab ?_ | refine SX.block ?_ | refine qao rfl ?_ | refine qas rfl ?_ | (refine qau ?_; (refine qaa (qaj rfl) rfl ?_ ?_ ?_); rfl; rfl) | (refine qai ?_; (refine qaa (qae rfl) rfl ?_ ?_ ?_); rfl; rfl) | (refine qaK ?_; (first | refine qaa (qaI rfl rfl (by omega)) rfl ?_ ?_ ?_ | refine qaa (qaH rfl rfl (by omega)) rfl ?_ ?_ ?_); rfl; rfl))
    refine qaG ?_
    refine SXl.lit (cells := ([-1, 640, 1000] : List Int).map (.int .i64)) (z := .int .i64 0) ?_ ?_ rfl (by decide) (by kernel_rfl) rfl (fun gl => ?_)
    rfl; rfl
    skip
    refine qaA ?_
    refine SXl.draw (ξ := Int) (v := fun x => .int .i64 x) rfl rfl rfl (fun x => x ∈ ([-1, 640, 1000] : List Int)) (fun w hl => pick_d (l := [-1, 640, 1000]) hl (by decide) (by decide)) (fun u hu => ?_)
    refine SXl.drop1 ?_
    repeat ((refine qau ?_; (refine qaa (qaj rfl) rfl ?_ ?_ ?_); rfl; rfl))
    refine qaG ?_
    refine SXl.lit (cells := ([-1, 640, 1000] : List Int).map (.int .i64)) (z := .int .i64 0) ?_ ?_ rfl (by decide) (by kernel_rfl) rfl (fun gl => ?_)
    rfl; rfl
    skip
    refine qaA ?_
    refine SXl.draw (ξ := Int) (v := fun x => .int .i64 x) rfl rfl rfl (fun x => x ∈ ([-1, 640, 1000] : List Int)) (fun w hl => pick_d (l := [-1, 640, 1000]) hl (by decide) (by decide)) (fun v hv => ?_)
    refine SXl.drop1 ?_
    repeat ((refine qau ?_; (refine qaa (qaj rfl) rfl ?_ ?_ ?_); rfl; rfl))
    refine qaA ?_
    refine SXl.draw (ξ := Bool) (v := fun b => .bool b) rfl rfl rfl (fun _ => True) (fun w hl => once_d B gc w hl.inv 3 (by decide)) (fun b _ => ?_)
    repeat (first | refine qak ?_ | refine qab ?_ | (refine qaO ?_; (refine qaa ((qaz (vals := [(0, .int .i64 7), (1, .int .i64 1), (7, .int .i64 u), (8, .int .i64 v), (9, .bool b)]) (cells := [.int .i64 7, .int .i64 1, .int .i64 0, .int .i64 0, .string ⟨#[]⟩, .int .i64 0, .int .i64 0, .slice none 0 0, .int .i64 u, .int .i64 v, .bool b]) rfl (by kernel_rfl))) rfl ?_ ?_ ?_); rfl; rfl) | (refine qaD ?_; first | ((first | refine qad 0 ?_ rfl rfl rfl rfl rfl rfl rfl ?_ | refine qad 1 ?_ rfl rfl rfl rfl rfl rfl rfl ?_ | refine qad 2 ?_ rfl rfl rfl rfl rfl rfl rfl ?_); rfl; simp only [List.set_cons_zero, List.set_cons_succ]) | ((first | refine qac 0 ?_ rfl rfl rfl rfl rfl rfl rfl ?_ | refine qac 1 ?_ rfl rfl rfl rfl rfl rfl rfl ?_ | refine qac 2 ?_ rfl rfl rfl rfl rfl rfl rfl ?_); rfl; simp only [over, List.set_cons_zero, List.set_cons_succ])) | refine qav ?_ | refine qan ?_ | refine qaw ?_)
    refine qaN 0 rfl rfl rfl rfl (fun w' hl => ⟨⟨⟨7, 1, 0, 0, [], ⟨0, 0⟩, [], u, v, b⟩, none, 0⟩, rfl, by simp, hl.owns, hl.mod, hl.inv⟩)
  repeat (first | refine qap ?_ | refine qak ?_ | refine qaf ?_ | refine qab ?_ | refine SX.block ?_ | refine qaE ?_ | refine qas rfl ?_ | (refine qau ?_; (refine qaa (qaj rfl) rfl ?_ ?_ ?_); rfl; rfl) | (refine qai ?_; (refine qaa (qae rfl) rfl ?_ ?_ ?_); rfl; rfl) | (refine qaK ?_; (refine qaa (qaH rfl rfl (by omega)) rfl ?_ ?_ ?_); rfl; rfl) | refine qar ?_)
  refine qaA ?_
  refine SXl.calln1 rfl rfl rfl (fun w hl => skeyNames_new _) (fun p => ?_)
  skip
  refine qaA ?_
  refine SXl.drawE (ξ := List UInt8) (v := fun x => .string ⟨x.toArray⟩) rfl rfl rfl (fun x => x ∈ keyTexts) (fun w hl => l01Pick_d B gc p.1 _ w hl.inv keyTexts (by decide) (by decide) (fun i x hi => by rw [Nat.zero_add]; exact (hl.res _ (.head _)).1.h i x hi) (fun e => by have := hl.resNew _ (.head _) p.1 rfl; omega)) (fun x hx => ?_)
  refine SXl.dropF ?_
  repeat (first | refine qap ?_ | refine qak ?_ | refine qaf ?_ | refine qab ?_ | (refine qau ?_; (refine qaa (qaj rfl) rfl ?_ ?_ ?_); rfl; rfl) | (refine qai ?_; (refine qaa (qae rfl) rfl ?_ ?_ ?_); rfl; rfl))
  refine qaA ?_
  refine SXl.draw (ξ := Val) (v := fun v => .agg v.cells.toArray) rfl rfl rfl (fun v => AllOk v.cells) (fun w hl => l04Value_d B gc w hl.inv) (fun v hv => ?_)
  repeat (first | refine qap ?_ | refine qak ?_ | refine qaf ?_ | refine qab ?_ | (refine qau ?_; (refine qaa (qaj rfl) rfl ?_ ?_ ?_); rfl; rfl) | (refine qaT ?_; refine SXl.alloc ?_ ?_ (fun g => ?_); rfl; rfl) | (refine qaD ?_; first | ((first | refine qad 0 ?_ rfl rfl rfl rfl rfl rfl rfl ?_ | refine qad 1 ?_ rfl rfl rfl rfl rfl rfl rfl ?_ | refine qad 2 ?_ rfl rfl rfl rfl rfl rfl rfl ?_); rfl; simp only [List.set_cons_zero, List.set_cons_succ]) | ((first | refine qac 0 ?_ rfl rfl rfl rfl rfl rfl rfl ?_ | refine qac 1 ?_ rfl rfl rfl rfl rfl rfl rfl ?_ | refine qac 2 ?_ rfl rfl rfl rfl rfl rfl rfl ?_); rfl; simp only [over, List.set_cons_zero, List.set_cons_succ])))
  refine qaA ?_
  refine SXl.draw (ξ := Bool) (v := fun b => .bool b) rfl rfl rfl (fun _ => True) (fun w hl => once_d B gc w hl.inv 2 (by decide)) (fun b _ => ?_)
  have hxl : keyTexts.length = keyTexts.length := rfl
  cases b
  · repeat (first | refine qap ?_ | refine qak ?_ | refine qaf ?_ | refine qab ?_ | refine qaE ?_ | refine qas rfl ?_ | (refine qaO ?_; (refine qaa ((qaz (vals := [(0, .int .i64 4), (1, .int .i64 (1 + kk)), (4, .string ⟨x.toArray⟩), (5, .agg #[.int .i64 v.kind, .int .i64 v.n])]) (cells := [.int .i64 4, .int .i64 (1 + kk), .int .i64 0, .int .i64 0, .string ⟨x.toArray⟩, .int .i64 v.kind, .int .i64 v.n, .slice none 0 0, .int .i64 0, .int .i64 0, .bool false]) rfl (by kernel_rfl))) rfl ?_ ?_ ?_); rfl; rfl) | (refine qaF ?_; (refine qaa (qaq 0 rfl rfl rfl) rfl ?_ ?_ ?_); rfl; rfl) | (refine qau ?_; (refine qaa (qaj rfl) rfl ?_ ?_ ?_); rfl; rfl) | (refine qaD ?_; first | ((first | refine qad 0 ?_ rfl rfl rfl rfl rfl rfl rfl ?_ | refine qad 1 ?_ rfl rfl rfl rfl rfl rfl rfl ?_ | refine qad 2 ?_ rfl rfl rfl rfl rfl rfl rfl ?_); rfl; simp only [List.set_cons_zero, List.set_cons_succ]) | ((first | refine qac 0 ?_ rfl rfl rfl rfl rfl rfl rfl ?_ | refine qac 1 ?_ rfl rfl rfl rfl rfl rfl rfl ?_ | refine qac 2 ?_ rfl rfl rfl rfl rfl rfl rfl ?_); rfl; simp only [over, List.set_cons_zero, List.set_cons_succ])) | refine qav ?_)
    refine qaN 1 rfl rfl rfl rfl (fun w' hl => ⟨⟨⟨4, 1 + kk, 0, 0, x, ⟨v.kind, v.n⟩, [], 0, 0, false⟩, none, 0⟩, rfl, by simp, hl.owns, hl.mod, hl.inv⟩)
  · repeat (first | refine qak ?_ | refine qaf ?_ | refine qab ?_ | refine qao rfl ?_ | (refine qau ?_; (refine qaa (qaj rfl) rfl ?_ ?_ ?_); rfl; rfl))
    refine qaG ?_
    refine SXl.lit (cells := ([0, 1, 2, 3, 64] : List Int).map (.int .i64)) (z := .int .i64 0) ?_ ?_ rfl (by decide) (by kernel_rfl) rfl (fun gl => ?_)
    rfl; rfl
    skip
    refine qaA ?_
    refine SXl.draw (ξ := Int) (v := fun x => .int .i64 x) rfl rfl rfl (fun x => x ∈ ([0, 1, 2, 3, 64] : List Int)) (fun w hl => pick_d (l := [0, 1, 2, 3, 64]) hl (by decide) (by decide)) (fun u hu => ?_)
    refine SXl.drop1 ?_
    repeat (first | refine qap ?_ | refine qak ?_ | refine qaf ?_ | refine qab ?_ | (refine qaO ?_; (first | refine qaa ((qaz (vals := [(0, .int .i64 1), (1, .int .i64 u)]) (cells := [.int .i64 1, .int .i64 u]) rfl (by kernel_rfl))) rfl ?_ ?_ ?_ | refine qaa (qaz rfl rfl) rfl ?_ ?_ ?_); rfl; rfl) | (refine qaF ?_; (refine qaa (qaq 0 rfl rfl rfl) rfl ?_ ?_ ?_); rfl; rfl) | (refine qau ?_; (refine qaa (qaj rfl) rfl ?_ ?_ ?_); rfl; rfl) | (refine qaD ?_; first | ((first | refine qad 0 ?_ rfl rfl rfl rfl rfl rfl rfl ?_ | refine qad 1 ?_ rfl rfl rfl rfl rfl rfl rfl ?_ | refine qad 2 ?_ rfl rfl rfl rfl rfl rfl rfl ?_); rfl; simp only [List.set_cons_zero, List.set_cons_succ]) | ((first | refine qac 0 ?_ rfl rfl rfl rfl rfl rfl rfl ?_ | refine qac 1 ?_ rfl rfl rfl rfl rfl rfl rfl ?_ | refine qac 2 ?_ rfl rfl rfl rfl rfl rfl rfl ?_); rfl; simp only [over, List.set_cons_zero, List.set_cons_succ])) | refine qav ?_)
    skip
    refine qaN 1 rfl rfl rfl rfl (fun w' hl => ⟨⟨⟨4, 1 + kk, 0, 0, x, ⟨1, u⟩, [], 0, 0, false⟩, none, 0⟩, rfl, by simp, hl.owns, hl.mod, hl.inv⟩)
end Go.Proofs.YtkkjjhooamlljaaGreatDoor
namespace Go.Proofs.YtkkjjhooamlljaaGreatDoor
open Go.RowKit
set_option linter.unusedVariables false
set_option linter.unusedSimpArgs false

theorem fits_any (n : Int) (w : World) : Calls Tryz.prog 61 #[.int .i64 n] w fun e w' => e = .returned (.bool (fitN n)) ∧ Mod (fun _ => False) w w' := by
  refine calls_sx Tryz.func61 rfl rfl (fun a h1 h2 h3 => ((Fr.nil h1 h2).arg (h3 0 _ rfl))) ?_
  repeat (first | refine qap ?_ | refine qak ?_ | refine qaf ?_ | refine qab ?_ | (refine qaA ?_; (refine qaa (OpW.calls rfl (fun w _ => l01In_any _ _ _ _)) rfl ?_ ?_ ?_); rfl; rfl) | (refine qau ?_; (refine qaa (qaj rfl) rfl ?_ ?_ ?_); rfl; rfl) | (refine qai ?_; (refine qaa (qae rfl) rfl ?_ ?_ ?_); rfl; rfl) | refine qav ?_)
  refine qaC rfl rfl (fun w' hl => ⟨rfl, hl.mod⟩)
theorem sroom_any (n : Int) (hb : I64 n) (w : World) : Calls Tryz.prog 66 #[.int .i64 n] w fun e w' => e = .returned (.string ⟨(sizeW n).toArray⟩) ∧ Mod (fun _ => False) w w' := by
  refine calls_sx Tryz.func66 rfl rfl (fun a h1 h2 h3 => ((Fr.nil h1 h2).arg (h3 0 _ rfl))) ?_
  have hd := fun w => sdecimal_any n hb.1 hb.2 w
  unfold sizeW
  by_cases h : n = -1
  · rw [if_pos h]
    repeat (first | refine qap ?_ | refine qak ?_ | refine qaf ?_ | refine qab ?_ | refine qao rfl ?_ | (refine qau ?_; (refine qaa (qaj rfl) rfl ?_ ?_ ?_); rfl; rfl) | (refine qai ?_; (refine qaa (qae rfl) rfl ?_ ?_ ?_); rfl; rfl) | (refine qaK ?_; (refine qaa (qaI rfl rfl (by omega)) rfl ?_ ?_ ?_); rfl; rfl) | refine qav ?_ | refine qan ?_)
    refine qaC rfl rfl (fun w' hl => ⟨rfl, hl.mod⟩)
  · rw [if_neg h]
    repeat (first | refine qap ?_ | refine qak ?_ | refine qaf ?_ | refine qab ?_ | refine qaE ?_ | refine qas rfl ?_ | (refine qaA ?_; (refine qaa (qal rfl (fun w hl => hd _)) rfl ?_ ?_ ?_); rfl; rfl) | (refine qau ?_; (refine qaa (qaj rfl) rfl ?_ ?_ ?_); rfl; rfl) | (refine qai ?_; (refine qaa (qae rfl) rfl ?_ ?_ ?_); rfl; rfl) | (refine qaK ?_; (refine qaa (qaH rfl rfl (by omega)) rfl ?_ ?_ ?_); rfl; rfl) | refine qav ?_)
    refine qaC rfl rfl (fun w' hl => ⟨rfl, hl.mod⟩)
def wordCells : List Value := [.string ⟨([]).toArray⟩, .string ⟨([97, 100, 100]).toArray⟩, .string ⟨([105, 110, 115, 101, 114, 116]).toArray⟩, .string ⟨([114, 101, 109, 111, 118, 101]).toArray⟩, .string ⟨([115, 101, 116]).toArray⟩, .string ⟨([116, 97, 98, 108, 101]).toArray⟩, .string ⟨([100, 105, 114, 116, 121]).toArray⟩, .string ⟨([108, 97, 121]).toArray⟩]
theorem l30Words_any (w : World) : Calls Tryz.prog 25 #[] w (NewB Unit (fun _ g => .slice (some ⟨g, 0, none⟩) 8 8) (fun _ => wordCells) 9 w) := by
  refine calls_sx (args := []) Tryz.func25 rfl rfl (fun a h1 h2 h3 => (Fr.nil h1 h2)) ?_
  repeat (first | refine qap ?_ | refine qak ?_ | refine qaf ?_ | refine qab ?_ | (refine qai ?_; (refine qaa (qae rfl) rfl ?_ ?_ ?_); rfl; rfl) | ((refine qaG ?_; refine SXl.lit (cells := wordCells) (z := .string ⟨#[]⟩) ?_ ?_ rfl (by decide) (by kernel_rfl) rfl (fun g => ?_); rfl; rfl)) | refine qav ?_)
  refine qaC rfl rfl (fun w' hl => ⟨(), g, rfl, hl.blk0.1, hl.blk0.2, hl.mod⟩)
def toldAddr (x : ActL) (a : Option Addr) : Option Addr := if x.kind = 5 then a else none
def toldCap (x : ActL) (c : Nat) : Nat := if x.kind = 5 then c else 0
set_option maxRecDepth 100000 in
set_option maxHeartbeats 8000000 in
theorem l30Told_any (x : ActL) (a : Option Addr) (c : Nat) (w : World) (hk : x.kind = 1 ∨ x.kind = 2 ∨ x.kind = 3 ∨ x.kind = 4 ∨ x.kind = 5 ∨ x.kind = 6 ∨ x.kind = 7) : Calls Tryz.prog 60 #[.agg (x.row a c).toArray] w fun e w' => e = .returned (.agg ((onlyA x).row (toldAddr x a) (toldCap x c)).toArray) ∧ Mod (fun _ => False) w w' := by
  refine calls_sx Tryz.func60 rfl rfl (fun a h1 h2 h3 => ((Fr.nil h1 h2).arg (h3 0 _ rfl))) ?_
  rcases hk with hk | hk | hk | hk | hk | hk | hk
  · have hy : onlyA x = ⟨x.kind, 0, 0, 0, [], ⟨0, 0⟩, [], 0, 0, false⟩ := by simp [onlyA, hk]
    have h1 : toldAddr x a = none := by simp [toldAddr, hk]
    have h2 : toldCap x c = 0 := by simp [toldCap, hk]
    rw [hy, h1, h2]
    repeat (first | refine qap ?_ | refine qak ?_ | refine qaf ?_ | refine qab ?_ | refine SX.block ?_ | refine qao rfl ?_ | (refine qaO ?_; (refine qaa ((qaz (vals := [(0, .int .i64 x.kind), (1, .int .i64 x.n)]) (cells := [.int .i64 x.kind, .int .i64 x.n, .int .i64 0, .int .i64 0, .string ⟨#[]⟩, .int .i64 0, .int .i64 0, .slice none 0 0, .int .i64 0, .int .i64 0, .bool false]) rfl (by kernel_rfl))) rfl ?_ ?_ ?_); rfl; rfl) | (refine qaF ?_; (first | refine qaa (qat 1 rfl rfl rfl) rfl ?_ ?_ ?_ | refine qaa (qat 2 rfl rfl rfl) rfl ?_ ?_ ?_ | refine qaa (qaq 0 rfl rfl rfl) rfl ?_ ?_ ?_); rfl; rfl) | (refine qam ?_; (refine qaa (qag rfl) rfl ?_ ?_ ?_); rfl; rfl) | (refine qai ?_; (refine qaa (qae rfl) rfl ?_ ?_ ?_); rfl; rfl) | (refine qaK ?_; (refine qaa (qaI rfl rfl (by omega)) rfl ?_ ?_ ?_); rfl; rfl) | (refine qaT ?_; refine SXl.alloc ?_ ?_ (fun g => ?_); rfl; rfl) | (refine l_box ?_; refine qaV ?_ ?_ rfl rfl (fun g => ?_); rfl; rfl) | (refine qaD ?_; first | ((first | refine qah 0 ?_ rfl rfl rfl rfl rfl rfl ?_ | refine qah 1 ?_ rfl rfl rfl rfl rfl rfl ?_ | refine qah 2 ?_ rfl rfl rfl rfl rfl rfl ?_); rfl; simp only [List.set_cons_zero, List.set_cons_succ]) | ((first | refine qad 0 ?_ rfl rfl rfl rfl rfl rfl rfl ?_ | refine qad 1 ?_ rfl rfl rfl rfl rfl rfl rfl ?_ | refine qad 2 ?_ rfl rfl rfl rfl rfl rfl rfl ?_); rfl; simp only [List.set_cons_zero, List.set_cons_succ]) | ((first | refine qac 0 ?_ rfl rfl rfl rfl rfl rfl rfl ?_ | refine qac 1 ?_ rfl rfl rfl rfl rfl rfl rfl ?_ | refine qac 2 ?_ rfl rfl rfl rfl rfl rfl rfl ?_); rfl; simp only [over, List.set_cons_zero, List.set_cons_succ])) | refine qav ?_ | refine qar ?_)
    refine qaN 1 rfl rfl rfl rfl (fun w' hl => ⟨rfl, hl.mod⟩)
  · have hy : onlyA x = ⟨x.kind, x.n, x.kid, x.pl, [], ⟨0, 0⟩, [], 0, 0, false⟩ := by simp [onlyA, hk]
    have h1 : toldAddr x a = none := by simp [toldAddr, hk]
    have h2 : toldCap x c = 0 := by simp [toldCap, hk]
    rw [hy, h1, h2]
    repeat (first | refine qap ?_ | refine qak ?_ | refine qaf ?_ | refine qab ?_ | refine SX.block ?_ | refine qao rfl ?_ | refine qas rfl ?_ | (refine qaO ?_; (refine qaa ((qaz (vals := [(0, .int .i64 x.kind), (1, .int .i64 x.n)]) (cells := [.int .i64 x.kind, .int .i64 x.n, .int .i64 0, .int .i64 0, .string ⟨#[]⟩, .int .i64 0, .int .i64 0, .slice none 0 0, .int .i64 0, .int .i64 0, .bool false]) rfl (by kernel_rfl))) rfl ?_ ?_ ?_); rfl; rfl) | (refine qaF ?_; (first | refine qaa (qat 1 rfl rfl rfl) rfl ?_ ?_ ?_ | refine qaa (qat 2 rfl rfl rfl) rfl ?_ ?_ ?_ | refine qaa (qaq 0 rfl rfl rfl) rfl ?_ ?_ ?_); rfl; rfl) | (refine qam ?_; (refine qaa (qag rfl) rfl ?_ ?_ ?_); rfl; rfl) | (refine qai ?_; (refine qaa (qae rfl) rfl ?_ ?_ ?_); rfl; rfl) | (refine qaK ?_; (first | refine qaa (qaI rfl rfl (by omega)) rfl ?_ ?_ ?_ | refine qaa (qaH rfl rfl (by omega)) rfl ?_ ?_ ?_); rfl; rfl) | (refine qaT ?_; refine SXl.alloc ?_ ?_ (fun g => ?_); rfl; rfl) | (refine l_box ?_; refine qaV ?_ ?_ rfl rfl (fun g => ?_); rfl; rfl) | (refine qaD ?_; first | ((first | refine qah 0 ?_ rfl rfl rfl rfl rfl rfl ?_ | refine qah 1 ?_ rfl rfl rfl rfl rfl rfl ?_ | refine qah 2 ?_ rfl rfl rfl rfl rfl rfl ?_); rfl; simp only [List.set_cons_zero, List.set_cons_succ]) | ((first | refine qad 0 ?_ rfl rfl rfl rfl rfl rfl rfl ?_ | refine qad 1 ?_ rfl rfl rfl rfl rfl rfl rfl ?_ | refine qad 2 ?_ rfl rfl rfl rfl rfl rfl rfl ?_); rfl; simp only [List.set_cons_zero, List.set_cons_succ]) | ((first | refine qac 0 ?_ rfl rfl rfl rfl rfl rfl rfl ?_ | refine qac 1 ?_ rfl rfl rfl rfl rfl rfl rfl ?_ | refine qac 2 ?_ rfl rfl rfl rfl rfl rfl rfl ?_); rfl; simp only [over, List.set_cons_zero, List.set_cons_succ])) | refine qav ?_ | refine qar ?_)
    refine qaN 1 rfl rfl rfl rfl (fun w' hl => ⟨rfl, hl.mod⟩)
  · have hy : onlyA x = ⟨x.kind, x.n, x.kid, 0, [], ⟨0, 0⟩, [], 0, 0, false⟩ := by simp [onlyA, hk]
    have h1 : toldAddr x a = none := by simp [toldAddr, hk]
    have h2 : toldCap x c = 0 := by simp [toldCap, hk]
    rw [hy, h1, h2]
    repeat (first | refine qap ?_ | refine qak ?_ | refine qaf ?_ | refine qab ?_ | refine SX.block ?_ | refine qao rfl ?_ | refine qas rfl ?_ | (refine qaO ?_; (refine qaa ((qaz (vals := [(0, .int .i64 x.kind), (1, .int .i64 x.n)]) (cells := [.int .i64 x.kind, .int .i64 x.n, .int .i64 0, .int .i64 0, .string ⟨#[]⟩, .int .i64 0, .int .i64 0, .slice none 0 0, .int .i64 0, .int .i64 0, .bool false]) rfl (by kernel_rfl))) rfl ?_ ?_ ?_); rfl; rfl) | (refine qaF ?_; (first | refine qaa (qat 1 rfl rfl rfl) rfl ?_ ?_ ?_ | refine qaa (qat 2 rfl rfl rfl) rfl ?_ ?_ ?_ | refine qaa (qaq 0 rfl rfl rfl) rfl ?_ ?_ ?_); rfl; rfl) | (refine qam ?_; (refine qaa (qag rfl) rfl ?_ ?_ ?_); rfl; rfl) | (refine qai ?_; (refine qaa (qae rfl) rfl ?_ ?_ ?_); rfl; rfl) | (refine qaK ?_; (first | refine qaa (qaI rfl rfl (by omega)) rfl ?_ ?_ ?_ | refine qaa (qaH rfl rfl (by omega)) rfl ?_ ?_ ?_); rfl; rfl) | (refine qaT ?_; refine SXl.alloc ?_ ?_ (fun g => ?_); rfl; rfl) | (refine l_box ?_; refine qaV ?_ ?_ rfl rfl (fun g => ?_); rfl; rfl) | (refine qaD ?_; first | ((first | refine qah 0 ?_ rfl rfl rfl rfl rfl rfl ?_ | refine qah 1 ?_ rfl rfl rfl rfl rfl rfl ?_ | refine qah 2 ?_ rfl rfl rfl rfl rfl rfl ?_); rfl; simp only [List.set_cons_zero, List.set_cons_succ]) | ((first | refine qad 0 ?_ rfl rfl rfl rfl rfl rfl rfl ?_ | refine qad 1 ?_ rfl rfl rfl rfl rfl rfl rfl ?_ | refine qad 2 ?_ rfl rfl rfl rfl rfl rfl rfl ?_); rfl; simp only [List.set_cons_zero, List.set_cons_succ]) | ((first | refine qac 0 ?_ rfl rfl rfl rfl rfl rfl rfl ?_ | refine qac 1 ?_ rfl rfl rfl rfl rfl rfl rfl ?_ | refine qac 2 ?_ rfl rfl rfl rfl rfl rfl rfl ?_); rfl; simp only [over, List.set_cons_zero, List.set_cons_succ])) | refine qav ?_ | refine qar ?_)
    refine qaN 1 rfl rfl rfl rfl (fun w' hl => ⟨rfl, hl.mod⟩)
  · have hy : onlyA x = ⟨x.kind, x.n, 0, 0, x.key, x.v, [], 0, 0, false⟩ := by simp [onlyA, hk]
    have h1 : toldAddr x a = none := by simp [toldAddr, hk]
    have h2 : toldCap x c = 0 := by simp [toldCap, hk]
    rw [hy, h1, h2]
    repeat (first | refine qap ?_ | refine qak ?_ | refine qaf ?_ | refine qab ?_ | refine SX.block ?_ | refine qao rfl ?_ | refine qas rfl ?_ | (refine qaO ?_; (refine qaa ((qaz (vals := [(0, .int .i64 x.kind), (1, .int .i64 x.n)]) (cells := [.int .i64 x.kind, .int .i64 x.n, .int .i64 0, .int .i64 0, .string ⟨#[]⟩, .int .i64 0, .int .i64 0, .slice none 0 0, .int .i64 0, .int .i64 0, .bool false]) rfl (by kernel_rfl))) rfl ?_ ?_ ?_); rfl; rfl) | (refine qaF ?_; (first | refine qaa (qaJ 2 (r := x.v.cells) rfl rfl rfl rfl) rfl ?_ ?_ ?_ | refine qaa (qat 1 rfl rfl rfl) rfl ?_ ?_ ?_ | refine qaa (qat 2 rfl rfl rfl) rfl ?_ ?_ ?_ | refine qaa (qaq 0 rfl rfl rfl) rfl ?_ ?_ ?_); rfl; rfl) | (refine qam ?_; (refine qaa (qag rfl) rfl ?_ ?_ ?_); rfl; rfl) | (refine qai ?_; (refine qaa (qae rfl) rfl ?_ ?_ ?_); rfl; rfl) | (refine qaK ?_; (first | refine qaa (qaI rfl rfl (by omega)) rfl ?_ ?_ ?_ | refine qaa (qaH rfl rfl (by omega)) rfl ?_ ?_ ?_); rfl; rfl) | (refine qaT ?_; refine SXl.alloc ?_ ?_ (fun g => ?_); rfl; rfl) | (refine l_box ?_; refine qaV ?_ ?_ rfl rfl (fun g => ?_); rfl; rfl) | (refine qaD ?_; first | ((first | refine qah 0 ?_ rfl rfl rfl rfl rfl rfl ?_ | refine qah 1 ?_ rfl rfl rfl rfl rfl rfl ?_ | refine qah 2 ?_ rfl rfl rfl rfl rfl rfl ?_); rfl; simp only [List.set_cons_zero, List.set_cons_succ]) | ((first | refine qad 0 ?_ rfl rfl rfl rfl rfl rfl rfl ?_ | refine qad 1 ?_ rfl rfl rfl rfl rfl rfl rfl ?_ | refine qad 2 ?_ rfl rfl rfl rfl rfl rfl rfl ?_); rfl; simp only [List.set_cons_zero, List.set_cons_succ]) | ((first | refine qac 0 ?_ rfl rfl rfl rfl rfl rfl rfl ?_ | refine qac 1 ?_ rfl rfl rfl rfl rfl rfl rfl ?_ | refine qac 2 ?_ rfl rfl rfl rfl rfl rfl rfl ?_); rfl; simp only [over, List.set_cons_zero, List.set_cons_succ])) | refine qav ?_ | refine qar ?_)
    refine qaN 1 rfl rfl rfl rfl (fun w' hl => ⟨rfl, hl.mod⟩)
  · have hy : onlyA x = ⟨x.kind, x.n, 0, 0, [], ⟨0, 0⟩, x.rules, 0, 0, false⟩ := by simp [onlyA, hk]
    have h1 : toldAddr x a = a := by simp [toldAddr, hk]
    have h2 : toldCap x c = c := by simp [toldCap, hk]
    rw [hy, h1, h2]
    repeat (first | refine qap ?_ | refine qak ?_ | refine qaf ?_ | refine qab ?_ | refine SX.block ?_ | refine qao rfl ?_ | refine qas rfl ?_ | (refine qaO ?_; (refine qaa ((qaz (vals := [(0, .int .i64 x.kind), (1, .int .i64 x.n)]) (cells := [.int .i64 x.kind, .int .i64 x.n, .int .i64 0, .int .i64 0, .string ⟨#[]⟩, .int .i64 0, .int .i64 0, .slice none 0 0, .int .i64 0, .int .i64 0, .bool false]) rfl (by kernel_rfl))) rfl ?_ ?_ ?_); rfl; rfl) | (refine qaF ?_; (first | refine qaa (qat 1 rfl rfl rfl) rfl ?_ ?_ ?_ | refine qaa (qat 2 rfl rfl rfl) rfl ?_ ?_ ?_ | refine qaa (qaq 0 rfl rfl rfl) rfl ?_ ?_ ?_ | refine qaa (qaJ 2 rfl rfl rfl rfl) rfl ?_ ?_ ?_); rfl; rfl) | (refine qam ?_; (refine qaa (qag rfl) rfl ?_ ?_ ?_); rfl; rfl) | (refine qai ?_; (refine qaa (qae rfl) rfl ?_ ?_ ?_); rfl; rfl) | (refine qaK ?_; (first | refine qaa (qaI rfl rfl (by omega)) rfl ?_ ?_ ?_ | refine qaa (qaH rfl rfl (by omega)) rfl ?_ ?_ ?_); rfl; rfl) | (refine qaT ?_; refine SXl.alloc ?_ ?_ (fun g => ?_); rfl; rfl) | (refine l_box ?_; refine qaV ?_ ?_ rfl rfl (fun g => ?_); rfl; rfl) | (refine qaD ?_; first | ((first | refine qah 0 ?_ rfl rfl rfl rfl rfl rfl ?_ | refine qah 1 ?_ rfl rfl rfl rfl rfl rfl ?_ | refine qah 2 ?_ rfl rfl rfl rfl rfl rfl ?_); rfl; simp only [List.set_cons_zero, List.set_cons_succ]) | ((first | refine qad 0 ?_ rfl rfl rfl rfl rfl rfl rfl ?_ | refine qad 1 ?_ rfl rfl rfl rfl rfl rfl rfl ?_ | refine qad 2 ?_ rfl rfl rfl rfl rfl rfl rfl ?_); rfl; simp only [List.set_cons_zero, List.set_cons_succ]) | ((first | refine qac 0 ?_ rfl rfl rfl rfl rfl rfl rfl ?_ | refine qac 1 ?_ rfl rfl rfl rfl rfl rfl rfl ?_ | refine qac 2 ?_ rfl rfl rfl rfl rfl rfl rfl ?_); rfl; simp only [over, List.set_cons_zero, List.set_cons_succ])) | refine qav ?_ | refine qar ?_)
    refine qaN 1 rfl rfl rfl rfl (fun w' hl => ⟨rfl, hl.mod⟩)
  · have hy : onlyA x = ⟨x.kind, x.n, 0, 0, [], ⟨0, 0⟩, [], 0, 0, false⟩ := by simp [onlyA, hk]
    have h1 : toldAddr x a = none := by simp [toldAddr, hk]
    have h2 : toldCap x c = 0 := by simp [toldCap, hk]
    rw [hy, h1, h2]
    repeat (first | refine qap ?_ | refine qak ?_ | refine qaf ?_ | refine qab ?_ | refine SX.block ?_ | refine qaE ?_ | refine qas rfl ?_ | (refine qaO ?_; (refine qaa ((qaz (vals := [(0, .int .i64 x.kind), (1, .int .i64 x.n)]) (cells := [.int .i64 x.kind, .int .i64 x.n, .int .i64 0, .int .i64 0, .string ⟨#[]⟩, .int .i64 0, .int .i64 0, .slice none 0 0, .int .i64 0, .int .i64 0, .bool false]) rfl (by kernel_rfl))) rfl ?_ ?_ ?_); rfl; rfl) | (refine qaF ?_; (first | refine qaa (qat 1 rfl rfl rfl) rfl ?_ ?_ ?_ | refine qaa (qat 2 rfl rfl rfl) rfl ?_ ?_ ?_ | refine qaa (qaq 0 rfl rfl rfl) rfl ?_ ?_ ?_); rfl; rfl) | (refine qam ?_; (refine qaa (qag rfl) rfl ?_ ?_ ?_); rfl; rfl) | (refine qai ?_; (refine qaa (qae rfl) rfl ?_ ?_ ?_); rfl; rfl) | (refine qaK ?_; (refine qaa (qaH rfl rfl (by omega)) rfl ?_ ?_ ?_); rfl; rfl) | (refine qaT ?_; refine SXl.alloc ?_ ?_ (fun g => ?_); rfl; rfl) | (refine l_box ?_; refine qaV ?_ ?_ rfl rfl (fun g => ?_); rfl; rfl) | (refine qaD ?_; first | ((first | refine qah 0 ?_ rfl rfl rfl rfl rfl rfl ?_ | refine qah 1 ?_ rfl rfl rfl rfl rfl rfl ?_ | refine qah 2 ?_ rfl rfl rfl rfl rfl rfl ?_); rfl; simp only [List.set_cons_zero, List.set_cons_succ]) | ((first | refine qad 0 ?_ rfl rfl rfl rfl rfl rfl rfl ?_ | refine qad 1 ?_ rfl rfl rfl rfl rfl rfl rfl ?_ | refine qad 2 ?_ rfl rfl rfl rfl rfl rfl rfl ?_); rfl; simp only [List.set_cons_zero, List.set_cons_succ]) | ((first | refine qac 0 ?_ rfl rfl rfl rfl rfl rfl rfl ?_ | refine qac 1 ?_ rfl rfl rfl rfl rfl rfl rfl ?_ | refine qac 2 ?_ rfl rfl rfl rfl rfl rfl rfl ?_); rfl; simp only [over, List.set_cons_zero, List.set_cons_succ])) | refine qav ?_ | refine qar ?_)
    refine qaN 1 rfl rfl rfl rfl (fun w' hl => ⟨rfl, hl.mod⟩)
  · have hy : onlyA x = ⟨x.kind, x.n, 0, 0, [], ⟨0, 0⟩, [], x.wide, x.high, x.rtl⟩ := by simp [onlyA, hk]
    have h1 : toldAddr x a = none := by simp [toldAddr, hk]
    have h2 : toldCap x c = 0 := by simp [toldCap, hk]
    rw [hy, h1, h2]
    repeat (first | refine qap ?_ | refine qak ?_ | refine qaf ?_ | refine qab ?_ | refine SX.block ?_ | refine qao rfl ?_ | refine qas rfl ?_ | (refine qaO ?_; (refine qaa ((qaz (vals := [(0, .int .i64 x.kind), (1, .int .i64 x.n)]) (cells := [.int .i64 x.kind, .int .i64 x.n, .int .i64 0, .int .i64 0, .string ⟨#[]⟩, .int .i64 0, .int .i64 0, .slice none 0 0, .int .i64 0, .int .i64 0, .bool false]) rfl (by kernel_rfl))) rfl ?_ ?_ ?_); rfl; rfl) | (refine qaF ?_; (first | refine qaa (qat 1 rfl rfl rfl) rfl ?_ ?_ ?_ | refine qaa (qat 2 rfl rfl rfl) rfl ?_ ?_ ?_ | refine qaa (qaq 0 rfl rfl rfl) rfl ?_ ?_ ?_); rfl; rfl) | (refine qam ?_; (refine qaa (qag rfl) rfl ?_ ?_ ?_); rfl; rfl) | (refine qai ?_; (refine qaa (qae rfl) rfl ?_ ?_ ?_); rfl; rfl) | (refine qaK ?_; (first | refine qaa (qaI rfl rfl (by omega)) rfl ?_ ?_ ?_ | refine qaa (qaH rfl rfl (by omega)) rfl ?_ ?_ ?_); rfl; rfl) | (refine qaT ?_; refine SXl.alloc ?_ ?_ (fun g => ?_); rfl; rfl) | (refine l_box ?_; refine qaV ?_ ?_ rfl rfl (fun g => ?_); rfl; rfl) | (refine qaD ?_; first | ((first | refine qah 0 ?_ rfl rfl rfl rfl rfl rfl ?_ | refine qah 1 ?_ rfl rfl rfl rfl rfl rfl ?_ | refine qah 2 ?_ rfl rfl rfl rfl rfl rfl ?_); rfl; simp only [List.set_cons_zero, List.set_cons_succ]) | ((first | refine qad 0 ?_ rfl rfl rfl rfl rfl rfl rfl ?_ | refine qad 1 ?_ rfl rfl rfl rfl rfl rfl rfl ?_ | refine qad 2 ?_ rfl rfl rfl rfl rfl rfl rfl ?_); rfl; simp only [List.set_cons_zero, List.set_cons_succ]) | ((first | refine qac 0 ?_ rfl rfl rfl rfl rfl rfl rfl ?_ | refine qac 1 ?_ rfl rfl rfl rfl rfl rfl rfl ?_ | refine qac 2 ?_ rfl rfl rfl rfl rfl rfl rfl ?_); rfl; simp only [over, List.set_cons_zero, List.set_cons_succ])) | refine qav ?_ | refine qar ?_)
    refine qaN 1 rfl rfl rfl rfl (fun w' hl => ⟨rfl, hl.mod⟩)
end Go.Proofs.YtkkjjhooamlljaaGreatDoor
namespace Go.Proofs.YtkkjjhooamlljaaGreatDoor
open Go.RowKit
set_option linter.unusedVariables false
set_option linter.unusedSimpArgs false

theorem fit_or {n : Int} (h : inB n (-1) 1000000000 = true) (h1 : fitN n = false) : n = -1 := by
  have := inB_b h
  unfold fitN inB at h1
  rw [Bool.eq_false_iff] at h1
  by_cases hn : n = -1
  · exact hn
  · exact (h1 (by simp; omega)).elim
theorem fit_in {n : Int} (h : inB n (-1) 1000000000 = false) : fitN n = false ∧ ¬ n = -1 := by
  constructor
  · rw [Bool.eq_false_iff]
    intro hf
    have := inB_b hf
    rw [Bool.eq_false_iff] at h
    exact h (by unfold inB; simp; omega)
  · rintro rfl
    revert h; decide
set_option maxRecDepth 100000 in
set_option maxHeartbeats 16000000 in
theorem sactLine_any (x : ActL) (a : Option Addr) (c : Nat) (R : Nat → Prop) (w : World) (hl0 : x.rules.length ≤ 1048576) (h : SliceAt (Flat Rule.cells) 3 R w a x.rules) :
    Calls Tryz.prog 19 #[.agg (x.row a c).toArray] w fun e w' => e = .returned (.string ⟨(actLine x).toArray⟩) ∧ Mod (fun _ => False) w w' := by
  refine calls_sx Tryz.func19 rfl rfl (fun a h1 h2 h3 => ((Fr.nil h1 h2).arg (h3 0 _ rfl))) ?_
  have hO := fun w => sactOkL x a c w
  cases ho : okA x
  · rw [ho] at hO
    rw [actLine_1 ho]
    repeat (first | refine qap ?_ | refine qak ?_ | refine qaf ?_ | refine qab ?_ | refine qao rfl ?_ | (refine qai ?_; (refine qaa (qae rfl) rfl ?_ ?_ ?_); rfl; rfl) | refine SX.drawn (by kernel_rfl) (by kernel_rfl) ?_ | refine SXr.nil ?_ | (refine SXr.no rfl rfl rfl ?_) | (refine r_call ?_; (refine SXr.v (qal rfl (fun w hl => hO _)) rfl ?_ ?_ ?_); rfl; rfl) | (refine r_load ?_; (refine SXr.v (qaq 0 rfl rfl rfl) rfl ?_ ?_ ?_); rfl; rfl) | (refine r_move ?_; (refine SXr.v (qaj rfl) rfl ?_ ?_ ?_); rfl; rfl) | (refine r_not ?_; (refine SXr.v (OpW.not rfl) rfl ?_ ?_ ?_); rfl; rfl) | (refine r_pick ?_; (refine SXr.v (qax rfl rfl rfl) rfl ?_ ?_ ?_); rfl; rfl) | (refine l_box ?_; refine qaV ?_ ?_ rfl rfl (fun g => ?_); rfl; rfl) | refine qav ?_ | refine qan ?_)
    refine qaC rfl rfl (fun w' hl => ⟨rfl, hl.mod⟩)
  rw [ho] at hO
  obtain ⟨hr8, hkinds⟩ := okA_kinds ho
  have hT := fun w => l30Told_any x a c w hkinds
  have hrl : (onlyA x).rules.length ≤ 1048576 := by
    unfold onlyA
    by_cases h5 : x.kind = 5 <;> simp [h5] <;> omega
  have hsl : ∀ w' (hm : Mod (fun _ => False) w w'), SliceAt (Flat Rule.cells) 3 R w' (toldAddr x a) (onlyA x).rules := fun w' hm => by
    unfold toldAddr onlyA
    by_cases h5 : x.kind = 5
    · simp only [h5, if_true]; exact h.flatKeep hm
    · simp only [h5, if_false]; exact SliceAt.nil
  have hS := fun (w' : World) (hm : Mod (fun _ => False) w w') => ssameAct_any (onlyA x) x (toldAddr x a) a (toldCap x c) c R R w' hrl hl0 (hsl w' hm) (h.flatKeep hm)
  by_cases hx : onlyA x = x
  rotate_left
  · rw [actLine_6 (fun e => hx e.symm)]
    simp only [decide_eq_false hx] at hS
    repeat (first | refine qap ?_ | refine qak ?_ | refine qaf ?_ | refine qab ?_ | refine qao rfl ?_ | (refine qai ?_; (refine qaa (qae rfl) rfl ?_ ?_ ?_); rfl; rfl) | refine SX.drawn (by kernel_rfl) (by kernel_rfl) ?_ | refine SXr.nil ?_ | (refine SXr.no rfl rfl rfl ?_) | (refine r_call ?_; (first | refine SXr.v (qal rfl (fun w hl => hO _)) rfl ?_ ?_ ?_ | refine SXr.v (qal rfl (fun w hl => hT _)) rfl ?_ ?_ ?_ | refine SXr.v (qal rfl (fun w hl => hS _ hl.mod)) rfl ?_ ?_ ?_); rfl; rfl) | (refine r_load ?_; (refine SXr.v (qaq 0 rfl rfl rfl) rfl ?_ ?_ ?_); rfl; rfl) | (refine r_move ?_; (refine SXr.v (qaj rfl) rfl ?_ ?_ ?_); rfl; rfl) | (refine r_not ?_; (refine SXr.v (OpW.not rfl) rfl ?_ ?_ ?_); rfl; rfl) | (refine r_pick ?_; (refine SXr.v (qax rfl rfl rfl) rfl ?_ ?_ ?_); rfl; rfl) | (refine l_box ?_; refine qaV ?_ ?_ rfl rfl (fun g => ?_); rfl; rfl) | refine qav ?_ | refine qan ?_)
    refine qaC rfl rfl (fun w' hl => ⟨rfl, hl.mod⟩)
  simp only [decide_eq_true hx] at hS
  have F1 := fun w => fits_any x.n w
  have F2 := fun w => fits_any x.kid w
  have F3 := fun w => fits_any x.pl w
  have F4 := fun w => fits_any x.wide w
  have F5 := fun w => fits_any x.high w
  cases b1 : fitN x.n
  · rw [b1] at F1
    rw [actLine_2 (by simp [fitA, b1])]
    repeat (first | refine qap ?_ | refine qak ?_ | refine qaf ?_ | refine qab ?_ | refine qao rfl ?_ | (refine qai ?_; (refine qaa (qae rfl) rfl ?_ ?_ ?_); rfl; rfl) | refine SX.drawn (by kernel_rfl) (by kernel_rfl) ?_ | refine SXr.nil ?_ | (refine SXr.no rfl rfl rfl ?_) | (refine r_call ?_; (first | refine SXr.v (qal rfl (fun w hl => hO _)) rfl ?_ ?_ ?_ | refine SXr.v (qal rfl (fun w hl => hT _)) rfl ?_ ?_ ?_ | refine SXr.v (qal rfl (fun w hl => hS _ hl.mod)) rfl ?_ ?_ ?_ | refine SXr.v (qal (args := [.int .i64 x.n]) rfl (fun w hl => F1 _)) rfl ?_ ?_ ?_); rfl; rfl) | (refine r_load ?_; (first | refine SXr.v (qat 0 rfl rfl rfl) rfl ?_ ?_ ?_ | refine SXr.v (qaq 0 rfl rfl rfl) rfl ?_ ?_ ?_); rfl; rfl) | (refine r_fieldAddr ?_; (refine SXr.v (qag rfl) rfl ?_ ?_ ?_); rfl; rfl) | (refine r_move ?_; (refine SXr.v (qaj rfl) rfl ?_ ?_ ?_); rfl; rfl) | (refine r_not ?_; (refine SXr.v (OpW.not rfl) rfl ?_ ?_ ?_); rfl; rfl) | (refine r_pick ?_; (refine SXr.v (qax rfl rfl rfl) rfl ?_ ?_ ?_); rfl; rfl) | (refine l_box ?_; refine qaV ?_ ?_ rfl rfl (fun g => ?_); rfl; rfl) | refine qav ?_ | refine qan ?_)
    refine qaC rfl rfl (fun w' hl => ⟨rfl, hl.mod⟩)
  rw [b1] at F1
  cases b2 : fitN x.kid
  · rw [b2] at F2
    rw [actLine_2 (by simp [fitA, b2])]
    repeat (first | refine qap ?_ | refine qak ?_ | refine qaf ?_ | refine qab ?_ | refine qao rfl ?_ | (refine qai ?_; (refine qaa (qae rfl) rfl ?_ ?_ ?_); rfl; rfl) | refine SX.drawn (by kernel_rfl) (by kernel_rfl) ?_ | refine SXr.nil ?_ | (refine SXr.no rfl rfl rfl ?_) | (refine r_call ?_; (first | refine SXr.v (qal rfl (fun w hl => hO _)) rfl ?_ ?_ ?_ | refine SXr.v (qal rfl (fun w hl => hT _)) rfl ?_ ?_ ?_ | refine SXr.v (qal rfl (fun w hl => hS _ hl.mod)) rfl ?_ ?_ ?_ | refine SXr.v (qal (args := [.int .i64 x.n]) rfl (fun w hl => F1 _)) rfl ?_ ?_ ?_ | refine SXr.v (qal (args := [.int .i64 x.kid]) rfl (fun w hl => F2 _)) rfl ?_ ?_ ?_); rfl; rfl) | (refine r_load ?_; (first | refine SXr.v (qat 0 rfl rfl rfl) rfl ?_ ?_ ?_ | refine SXr.v (qaq 0 rfl rfl rfl) rfl ?_ ?_ ?_); rfl; rfl) | (refine r_fieldAddr ?_; (refine SXr.v (qag rfl) rfl ?_ ?_ ?_); rfl; rfl) | (refine r_move ?_; (refine SXr.v (qaj rfl) rfl ?_ ?_ ?_); rfl; rfl) | (refine r_not ?_; (refine SXr.v (OpW.not rfl) rfl ?_ ?_ ?_); rfl; rfl) | (refine r_pick ?_; (refine SXr.v (qax rfl rfl rfl) rfl ?_ ?_ ?_); rfl; rfl) | (refine l_box ?_; refine qaV ?_ ?_ rfl rfl (fun g => ?_); rfl; rfl) | refine qav ?_ | refine qan ?_)
    refine qaC rfl rfl (fun w' hl => ⟨rfl, hl.mod⟩)
  rw [b2] at F2
  cases b3 : fitN x.pl
  · rw [b3] at F3
    rw [actLine_2 (by simp [fitA, b3])]
    repeat (first | refine qap ?_ | refine qak ?_ | refine qaf ?_ | refine qab ?_ | refine qao rfl ?_ | (refine qai ?_; (refine qaa (qae rfl) rfl ?_ ?_ ?_); rfl; rfl) | refine SX.drawn (by kernel_rfl) (by kernel_rfl) ?_ | refine SXr.nil ?_ | (refine SXr.no rfl rfl rfl ?_) | (refine r_call ?_; (first | refine SXr.v (qal rfl (fun w hl => hO _)) rfl ?_ ?_ ?_ | refine SXr.v (qal rfl (fun w hl => hT _)) rfl ?_ ?_ ?_ | refine SXr.v (qal rfl (fun w hl => hS _ hl.mod)) rfl ?_ ?_ ?_ | refine SXr.v (qal (args := [.int .i64 x.n]) rfl (fun w hl => F1 _)) rfl ?_ ?_ ?_ | refine SXr.v (qal (args := [.int .i64 x.kid]) rfl (fun w hl => F2 _)) rfl ?_ ?_ ?_ | refine SXr.v (qal (args := [.int .i64 x.pl]) rfl (fun w hl => F3 _)) rfl ?_ ?_ ?_); rfl; rfl) | (refine r_load ?_; (first | refine SXr.v (qat 0 rfl rfl rfl) rfl ?_ ?_ ?_ | refine SXr.v (qaq 0 rfl rfl rfl) rfl ?_ ?_ ?_); rfl; rfl) | (refine r_fieldAddr ?_; (refine SXr.v (qag rfl) rfl ?_ ?_ ?_); rfl; rfl) | (refine r_move ?_; (refine SXr.v (qaj rfl) rfl ?_ ?_ ?_); rfl; rfl) | (refine r_not ?_; (refine SXr.v (OpW.not rfl) rfl ?_ ?_ ?_); rfl; rfl) | (refine r_pick ?_; (refine SXr.v (qax rfl rfl rfl) rfl ?_ ?_ ?_); rfl; rfl) | (refine l_box ?_; refine qaV ?_ ?_ rfl rfl (fun g => ?_); rfl; rfl) | refine qav ?_ | refine qan ?_)
    refine qaC rfl rfl (fun w' hl => ⟨rfl, hl.mod⟩)
  rw [b3] at F3
  have hft : fitA x = true := by simp [fitA, b1, b2, b3]
  cases hw : inB x.wide (-1) 1000000000
  · obtain ⟨b4, b5⟩ := fit_in hw
    rw [b4] at F4
    rw [actLine_3 hw]
    repeat (first | refine qap ?_ | refine qak ?_ | refine qaf ?_ | refine qab ?_ | refine qao rfl ?_ | (refine qai ?_; (refine qaa (qae rfl) rfl ?_ ?_ ?_); rfl; rfl) | refine SX.drawn (by kernel_rfl) (by kernel_rfl) ?_ | refine SXr.nil ?_ | (refine SXr.no rfl rfl rfl ?_) | (refine r_call ?_; (first | refine SXr.v (qal rfl (fun w hl => hO _)) rfl ?_ ?_ ?_ | refine SXr.v (qal rfl (fun w hl => hT _)) rfl ?_ ?_ ?_ | refine SXr.v (qal rfl (fun w hl => hS _ hl.mod)) rfl ?_ ?_ ?_ | refine SXr.v (qal (args := [.int .i64 x.n]) rfl (fun w hl => F1 _)) rfl ?_ ?_ ?_ | refine SXr.v (qal (args := [.int .i64 x.kid]) rfl (fun w hl => F2 _)) rfl ?_ ?_ ?_ | refine SXr.v (qal (args := [.int .i64 x.pl]) rfl (fun w hl => F3 _)) rfl ?_ ?_ ?_ | refine SXr.v (qal (args := [.int .i64 x.wide]) rfl (fun w hl => F4 _)) rfl ?_ ?_ ?_); rfl; rfl) | (refine r_load ?_; (first | refine SXr.v (qat 0 rfl rfl rfl) rfl ?_ ?_ ?_ | refine SXr.v (qaq 0 rfl rfl rfl) rfl ?_ ?_ ?_); rfl; rfl) | (refine r_fieldAddr ?_; (refine SXr.v (qag rfl) rfl ?_ ?_ ?_); rfl; rfl) | (refine r_move ?_; (refine SXr.v (qaj rfl) rfl ?_ ?_ ?_); rfl; rfl) | (refine r_neq ?_; (refine SXr.v (OpW.neqT rfl rfl (by omega)) rfl ?_ ?_ ?_); rfl; rfl) | (refine r_not ?_; (refine SXr.v (OpW.not rfl) rfl ?_ ?_ ?_); rfl; rfl) | (refine r_pick ?_; (refine SXr.v (qax rfl rfl rfl) rfl ?_ ?_ ?_); rfl; rfl) | (refine l_box ?_; refine qaV ?_ ?_ rfl rfl (fun g => ?_); rfl; rfl) | refine qav ?_ | refine qan ?_)
    refine qaC rfl rfl (fun w' hl => ⟨rfl, hl.mod⟩)
  cases hh : inB x.high (-1) 1000000000
  · obtain ⟨b6, b7⟩ := fit_in hh
    rw [b6] at F5
    rw [actLine_4 hh]
    cases b4 : fitN x.wide
    · have b5 := fit_or hw b4
      rw [b4] at F4
      repeat (first | refine qap ?_ | refine qak ?_ | refine qaf ?_ | refine qab ?_ | refine qao rfl ?_ | (refine qai ?_; (refine qaa (qae rfl) rfl ?_ ?_ ?_); rfl; rfl) | refine SX.drawn (by kernel_rfl) (by kernel_rfl) ?_ | refine SXr.nil ?_ | (refine r_call ?_; (first | refine SXr.v (qal rfl (fun w hl => hO _)) rfl ?_ ?_ ?_ | refine SXr.v (qal rfl (fun w hl => hT _)) rfl ?_ ?_ ?_ | refine SXr.v (qal rfl (fun w hl => hS _ hl.mod)) rfl ?_ ?_ ?_ | refine SXr.v (qal (args := [.int .i64 x.n]) rfl (fun w hl => F1 _)) rfl ?_ ?_ ?_ | refine SXr.v (qal (args := [.int .i64 x.kid]) rfl (fun w hl => F2 _)) rfl ?_ ?_ ?_ | refine SXr.v (qal (args := [.int .i64 x.pl]) rfl (fun w hl => F3 _)) rfl ?_ ?_ ?_ | refine SXr.v (qal (args := [.int .i64 x.wide]) rfl (fun w hl => F4 _)) rfl ?_ ?_ ?_ | refine SXr.v (qal (args := [.int .i64 x.high]) rfl (fun w hl => F5 _)) rfl ?_ ?_ ?_); rfl; rfl) | (refine r_load ?_; (first | refine SXr.v (qat 0 rfl rfl rfl) rfl ?_ ?_ ?_ | refine SXr.v (qaq 0 rfl rfl rfl) rfl ?_ ?_ ?_); rfl; rfl) | (refine r_fieldAddr ?_; (refine SXr.v (qag rfl) rfl ?_ ?_ ?_); rfl; rfl) | (refine r_move ?_; (refine SXr.v (qaj rfl) rfl ?_ ?_ ?_); rfl; rfl) | (refine r_neq ?_; (first | refine SXr.v (OpW.neqT rfl rfl (by omega)) rfl ?_ ?_ ?_ | refine SXr.v (OpW.neqF rfl rfl (by omega)) rfl ?_ ?_ ?_); rfl; rfl) | (refine r_not ?_; (refine SXr.v (OpW.not rfl) rfl ?_ ?_ ?_); rfl; rfl) | (refine r_pick ?_; (refine SXr.v (qax rfl rfl rfl) rfl ?_ ?_ ?_); rfl; rfl) | (refine l_box ?_; refine qaV ?_ ?_ rfl rfl (fun g => ?_); rfl; rfl) | refine qav ?_ | refine qan ?_)
      refine qaC rfl rfl (fun w' hl => ⟨rfl, hl.mod⟩)
    · rw [b4] at F4
      repeat (first | refine qap ?_ | refine qak ?_ | refine qaf ?_ | refine qab ?_ | refine qao rfl ?_ | (refine qai ?_; (refine qaa (qae rfl) rfl ?_ ?_ ?_); rfl; rfl) | refine SX.drawn (by kernel_rfl) (by kernel_rfl) ?_ | refine SXr.nil ?_ | (refine SXr.no rfl rfl rfl ?_) | (refine r_call ?_; (first | refine SXr.v (qal rfl (fun w hl => hO _)) rfl ?_ ?_ ?_ | refine SXr.v (qal rfl (fun w hl => hT _)) rfl ?_ ?_ ?_ | refine SXr.v (qal rfl (fun w hl => hS _ hl.mod)) rfl ?_ ?_ ?_ | refine SXr.v (qal (args := [.int .i64 x.n]) rfl (fun w hl => F1 _)) rfl ?_ ?_ ?_ | refine SXr.v (qal (args := [.int .i64 x.kid]) rfl (fun w hl => F2 _)) rfl ?_ ?_ ?_ | refine SXr.v (qal (args := [.int .i64 x.pl]) rfl (fun w hl => F3 _)) rfl ?_ ?_ ?_ | refine SXr.v (qal (args := [.int .i64 x.wide]) rfl (fun w hl => F4 _)) rfl ?_ ?_ ?_ | refine SXr.v (qal (args := [.int .i64 x.high]) rfl (fun w hl => F5 _)) rfl ?_ ?_ ?_); rfl; rfl) | (refine r_load ?_; (first | refine SXr.v (qat 0 rfl rfl rfl) rfl ?_ ?_ ?_ | refine SXr.v (qaq 0 rfl rfl rfl) rfl ?_ ?_ ?_); rfl; rfl) | (refine r_fieldAddr ?_; (refine SXr.v (qag rfl) rfl ?_ ?_ ?_); rfl; rfl) | (refine r_move ?_; (refine SXr.v (qaj rfl) rfl ?_ ?_ ?_); rfl; rfl) | (refine r_neq ?_; (refine SXr.v (OpW.neqT rfl rfl (by omega)) rfl ?_ ?_ ?_); rfl; rfl) | (refine r_not ?_; (refine SXr.v (OpW.not rfl) rfl ?_ ?_ ?_); rfl; rfl) | (refine r_pick ?_; (refine SXr.v (qax rfl rfl rfl) rfl ?_ ?_ ?_); rfl; rfl) | (refine l_box ?_; refine qaV ?_ ?_ rfl rfl (fun g => ?_); rfl; rfl) | refine qav ?_ | refine qan ?_)
      refine qaC rfl rfl (fun w' hl => ⟨rfl, hl.mod⟩)
  obtain ⟨bn, bk, bp⟩ := fitA_b hft
  have bw := inB_b hw
  have bh := inB_b hh
  have dn := fun w => sdecimal_any x.n (by omega) (by omega) w
  have dk := fun w => sdecimal_any x.kid (by omega) (by omega) w
  have dp := fun w => sdecimal_any x.pl (by omega) (by omega) w
  have dw := fun w => sroom_any x.wide ⟨by omega, by omega⟩ w
  have dh := fun w => sroom_any x.high ⟨by omega, by omega⟩ w
  have ln := Lib.itoa_length_le x.n (by omega) (by omega)
  have lk := Lib.itoa_length_le x.kid (by omega) (by omega)
  have lp := Lib.itoa_length_le x.pl (by omega) (by omega)
  have hs1 := sizeW_short hw
  have hs2 := sizeW_short hh
  have hw4 : fitN x.wide = true ∨ (fitN x.wide = false ∧ x.wide = -1) := by
    cases b4 : fitN x.wide
    · exact .inr ⟨rfl, fit_or hw b4⟩
    · exact .inl rfl
  have hh4 : fitN x.high = true ∨ (fitN x.high = false ∧ x.high = -1) := by
    cases b6 : fitN x.high
    · exact .inr ⟨rfl, fit_or hh b6⟩
    · exact .inl rfl
  rcases hw4 with b4 | ⟨b4, b5⟩ <;> rcases hh4 with b6 | ⟨b6, b7⟩ <;> rw [b4] at F4 <;> rw [b6] at F5
  all_goals
    repeat (first | refine qap ?_ | refine qak ?_ | refine qaf ?_ | refine qab ?_ | (refine qai ?_; (refine qaa (qae rfl) rfl ?_ ?_ ?_); rfl; rfl) | (refine l_box ?_; refine qaV ?_ ?_ rfl rfl (fun g => ?_); rfl; rfl))
    refine SX.drawn (by kernel_rfl) (by kernel_rfl) ?_
    repeat (first | refine qap ?_ | refine qab ?_ | refine qaE ?_ | refine qas rfl ?_ | refine SXr.nil ?_ | (refine SXr.no rfl rfl rfl ?_) | (refine r_call ?_; (first | refine SXr.v (qal rfl (fun w hl => hO _)) rfl ?_ ?_ ?_ | refine SXr.v (qal rfl (fun w hl => hT _)) rfl ?_ ?_ ?_ | refine SXr.v (qal rfl (fun w hl => hS _ hl.mod)) rfl ?_ ?_ ?_ | refine SXr.v (qal (args := [.int .i64 x.n]) rfl (fun w hl => F1 _)) rfl ?_ ?_ ?_ | refine SXr.v (qal (args := [.int .i64 x.kid]) rfl (fun w hl => F2 _)) rfl ?_ ?_ ?_ | refine SXr.v (qal (args := [.int .i64 x.pl]) rfl (fun w hl => F3 _)) rfl ?_ ?_ ?_ | refine SXr.v (qal (args := [.int .i64 x.wide]) rfl (fun w hl => F4 _)) rfl ?_ ?_ ?_ | refine SXr.v (qal (args := [.int .i64 x.high]) rfl (fun w hl => F5 _)) rfl ?_ ?_ ?_); rfl; rfl) | (refine r_load ?_; (first | refine SXr.v (qat 0 rfl rfl rfl) rfl ?_ ?_ ?_ | refine SXr.v (qaq 0 rfl rfl rfl) rfl ?_ ?_ ?_); rfl; rfl) | (refine r_fieldAddr ?_; (refine SXr.v (qag rfl) rfl ?_ ?_ ?_); rfl; rfl) | (refine r_move ?_; (refine SXr.v (qaj rfl) rfl ?_ ?_ ?_); rfl; rfl) | (refine r_neq ?_; (refine SXr.v (OpW.neqF rfl rfl (by omega)) rfl ?_ ?_ ?_); rfl; rfl) | (refine r_not ?_; (refine SXr.v (OpW.not rfl) rfl ?_ ?_ ?_); rfl; rfl) | (refine r_pick ?_; (refine SXr.v (qax rfl rfl rfl) rfl ?_ ?_ ?_); rfl; rfl))
    rcases hkinds with hk | hk | hk | hk | hk | hk | hk
    · have hp : actParts x = [[97, 100, 100]] := by simp [actParts, hk]
      refine SX.drawnQT 5 0 [] [] (by kernel_rfl) (by kernel_rfl) (by kernel_rfl) (fun B hf => ?_)
      refine SXq.callB hf (by simp [wordCells]) (fun _ => rfl) rfl (fun _ => rfl) (fun w hl => (l30Words_any w).mono fun e w' ⟨_, g, h1, h2, h3, h4⟩ => ⟨g, h1, h2, h3, h4⟩) ?_
      repeat (first | (refine SXq.v (fun _ => (qat 0 rfl rfl rfl)) rfl (fun _ => rfl) rfl ?_) | (refine SXq.v (fun _ => (qag rfl)) rfl (fun _ => rfl) rfl ?_))
      refine SXq.vk 0 (fun q => .pointer (some ⟨sOf q, 0 + 1, none⟩)) (by kernel_rfl) (fun _ => qaM (len := 8) (i := 1) (by decide) rfl (by show some (Value.int .i64 x.kind) = some (.int .i64 ((1 : Nat) : Int)); rw [hk]; rfl)) rfl (fun _ => rfl) rfl ?_
      refine SXq.loadB 0 (by kernel_rfl) (.head _) (fun _ => rfl) rfl (fun _ => rfl) (v := .string ⟨([97, 100, 100] : List UInt8).toArray⟩) rfl ?_
      skip
      refine SXq.tail (fun xq => ?_)
      have hT2 : toldA x = true := by simp [toldA, hk]
      rw [actLine_y ho hft hw hh hT2 hx.symm, hp]
      repeat (first | refine qap ?_ | refine qak ?_ | refine qaf ?_ | refine qab ?_ | refine SX.block ?_ | refine qaE ?_ | refine qas rfl ?_ | (refine qaF ?_; (refine qaa (qat 0 rfl rfl rfl) rfl ?_ ?_ ?_); rfl; rfl) | (refine qam ?_; (refine qaa (qag rfl) rfl ?_ ?_ ?_); rfl; rfl) | (refine qau ?_; (refine qaa (qaj rfl) rfl ?_ ?_ ?_); rfl; rfl) | (refine qai ?_; (refine qaa (qae rfl) rfl ?_ ?_ ?_); rfl; rfl) | (refine qaK ?_; (refine qaa (qaH rfl rfl (by omega)) rfl ?_ ?_ ?_); rfl; rfl) | (refine l_neq ?_; (refine qaa (OpW.neqF rfl rfl (by omega)) rfl ?_ ?_ ?_); rfl; rfl) | refine qav ?_ | refine qar ?_)
      refine qaC rfl rfl (fun w' hl => ⟨ret_string (by simp [Lib.join_cons, Lib.joinTail]), hl.mod⟩)
    · have hp : actParts x = [[105, 110, 115, 101, 114, 116], Lib.itoa x.n, Lib.itoa x.kid, Lib.itoa x.pl] := by simp [actParts, hk]
      refine SX.drawnQT 5 0 [] [] (by kernel_rfl) (by kernel_rfl) (by kernel_rfl) (fun B hf => ?_)
      refine SXq.callB hf (by simp [wordCells]) (fun _ => rfl) rfl (fun _ => rfl) (fun w hl => (l30Words_any w).mono fun e w' ⟨_, g, h1, h2, h3, h4⟩ => ⟨g, h1, h2, h3, h4⟩) ?_
      repeat (first | (refine SXq.v (fun _ => (qat 0 rfl rfl rfl)) rfl (fun _ => rfl) rfl ?_) | (refine SXq.v (fun _ => (qag rfl)) rfl (fun _ => rfl) rfl ?_))
      refine SXq.vk 0 (fun q => .pointer (some ⟨sOf q, 0 + 2, none⟩)) (by kernel_rfl) (fun _ => qaM (len := 8) (i := 2) (by decide) rfl (by show some (Value.int .i64 x.kind) = some (.int .i64 ((2 : Nat) : Int)); rw [hk]; rfl)) rfl (fun _ => rfl) rfl ?_
      refine SXq.loadB 0 (by kernel_rfl) (.head _) (fun _ => rfl) rfl (fun _ => rfl) (v := .string ⟨([105, 110, 115, 101, 114, 116] : List UInt8).toArray⟩) rfl ?_
      skip
      refine SXq.tail (fun xq => ?_)
      have hT2 : toldA x = true := by simp [toldA, hk]
      rw [actLine_y ho hft hw hh hT2 hx.symm, hp]
      repeat (first | refine qap ?_ | refine qak ?_ | refine qaf ?_ | refine qab ?_ | refine SX.block ?_ | refine qao rfl ?_ | (refine qaA ?_; (refine qaa (qal (args := [.int .i64 x.n]) rfl (fun w hl => dn _)) rfl ?_ ?_ ?_); rfl; rfl) | (refine l_add ?_; (refine qaa ((OpW.cat rfl rfl (by simp only [List.length_append, List.length_cons, List.length_nil]; omega))) rfl ?_ ?_ ?_); rfl; rfl) | (refine qaF ?_; (refine qaa (qat 0 rfl rfl rfl) rfl ?_ ?_ ?_); rfl; rfl) | (refine qam ?_; (refine qaa (qag rfl) rfl ?_ ?_ ?_); rfl; rfl) | (refine qau ?_; (refine qaa (qaj rfl) rfl ?_ ?_ ?_); rfl; rfl) | (refine qai ?_; (refine qaa (qae rfl) rfl ?_ ?_ ?_); rfl; rfl) | (refine qaK ?_; (refine qaa (qaI rfl rfl (by omega)) rfl ?_ ?_ ?_); rfl; rfl) | (refine l_neq ?_; (refine qaa (OpW.neqT rfl rfl (by omega)) rfl ?_ ?_ ?_); rfl; rfl) | refine SX.drawn (by kernel_rfl) (by kernel_rfl) ?_ | refine SXr.nil ?_ | (refine r_call ?_; (first | refine SXr.v (qal (args := [.int .i64 x.kid]) rfl (fun w hl => dk _)) rfl ?_ ?_ ?_ | refine SXr.v (qal (args := [.int .i64 x.pl]) rfl (fun w hl => dp _)) rfl ?_ ?_ ?_); rfl; rfl) | (refine r_add ?_; (refine SXr.v ((OpW.cat rfl rfl (by simp only [List.length_append, List.length_cons, List.length_nil]; omega))) rfl ?_ ?_ ?_); rfl; rfl) | (refine r_load ?_; (refine SXr.v (qat 0 rfl rfl rfl) rfl ?_ ?_ ?_); rfl; rfl) | (refine r_fieldAddr ?_; (refine SXr.v (qag rfl) rfl ?_ ?_ ?_); rfl; rfl) | (refine r_move ?_; (refine SXr.v (qaj rfl) rfl ?_ ?_ ?_); rfl; rfl) | (refine r_assign ?_; (refine SXr.v (qae rfl) rfl ?_ ?_ ?_); rfl; rfl) | refine qav ?_ | refine qan ?_ | refine qaw ?_)
      refine qaC rfl rfl (fun w' hl => ⟨ret_string (by simp [Lib.join_cons, Lib.joinTail]), hl.mod⟩)
    · have hp : actParts x = [[114, 101, 109, 111, 118, 101], Lib.itoa x.n, Lib.itoa x.kid] := by simp [actParts, hk]
      refine SX.drawnQT 5 0 [] [] (by kernel_rfl) (by kernel_rfl) (by kernel_rfl) (fun B hf => ?_)
      refine SXq.callB hf (by simp [wordCells]) (fun _ => rfl) rfl (fun _ => rfl) (fun w hl => (l30Words_any w).mono fun e w' ⟨_, g, h1, h2, h3, h4⟩ => ⟨g, h1, h2, h3, h4⟩) ?_
      repeat (first | (refine SXq.v (fun _ => (qat 0 rfl rfl rfl)) rfl (fun _ => rfl) rfl ?_) | (refine SXq.v (fun _ => (qag rfl)) rfl (fun _ => rfl) rfl ?_))
      refine SXq.vk 0 (fun q => .pointer (some ⟨sOf q, 0 + 3, none⟩)) (by kernel_rfl) (fun _ => qaM (len := 8) (i := 3) (by decide) rfl (by show some (Value.int .i64 x.kind) = some (.int .i64 ((3 : Nat) : Int)); rw [hk]; rfl)) rfl (fun _ => rfl) rfl ?_
      refine SXq.loadB 0 (by kernel_rfl) (.head _) (fun _ => rfl) rfl (fun _ => rfl) (v := .string ⟨([114, 101, 109, 111, 118, 101] : List UInt8).toArray⟩) rfl ?_
      skip
      refine SXq.tail (fun xq => ?_)
      have hT2 : toldA x = true := by simp [toldA, hk]
      rw [actLine_y ho hft hw hh hT2 hx.symm, hp]
      repeat (first | refine qap ?_ | refine qak ?_ | refine qaf ?_ | refine qab ?_ | refine SX.block ?_ | refine qao rfl ?_ | refine qas rfl ?_ | (refine qaA ?_; (first | refine qaa (qal (args := [.int .i64 x.n]) rfl (fun w hl => dn _)) rfl ?_ ?_ ?_ | refine qaa (qal (args := [.int .i64 x.kid]) rfl (fun w hl => dk _)) rfl ?_ ?_ ?_); rfl; rfl) | (refine l_add ?_; (refine qaa ((OpW.cat rfl rfl (by simp only [List.length_append, List.length_cons, List.length_nil]; omega))) rfl ?_ ?_ ?_); rfl; rfl) | (refine qaF ?_; (refine qaa (qat 0 rfl rfl rfl) rfl ?_ ?_ ?_); rfl; rfl) | (refine qam ?_; (refine qaa (qag rfl) rfl ?_ ?_ ?_); rfl; rfl) | (refine qau ?_; (refine qaa (qaj rfl) rfl ?_ ?_ ?_); rfl; rfl) | (refine qai ?_; (refine qaa (qae rfl) rfl ?_ ?_ ?_); rfl; rfl) | (refine qaK ?_; (first | refine qaa (qaI rfl rfl (by omega)) rfl ?_ ?_ ?_ | refine qaa (qaH rfl rfl (by omega)) rfl ?_ ?_ ?_); rfl; rfl) | (refine l_neq ?_; (refine qaa (OpW.neqT rfl rfl (by omega)) rfl ?_ ?_ ?_); rfl; rfl) | refine qav ?_ | refine qan ?_ | refine qaw ?_)
      refine qaC rfl rfl (fun w' hl => ⟨ret_string (by simp [Lib.join_cons, Lib.joinTail]), hl.mod⟩)
    · have hp : actParts x = [[115, 101, 116], Lib.itoa x.n, x.key, valText x.v] := by simp [actParts, hk]
      refine SX.drawnQT 5 0 [] [] (by kernel_rfl) (by kernel_rfl) (by kernel_rfl) (fun B hf => ?_)
      refine SXq.callB hf (by simp [wordCells]) (fun _ => rfl) rfl (fun _ => rfl) (fun w hl => (l30Words_any w).mono fun e w' ⟨_, g, h1, h2, h3, h4⟩ => ⟨g, h1, h2, h3, h4⟩) ?_
      repeat (first | (refine SXq.v (fun _ => (qat 0 rfl rfl rfl)) rfl (fun _ => rfl) rfl ?_) | (refine SXq.v (fun _ => (qag rfl)) rfl (fun _ => rfl) rfl ?_))
      refine SXq.vk 0 (fun q => .pointer (some ⟨sOf q, 0 + 4, none⟩)) (by kernel_rfl) (fun _ => qaM (len := 8) (i := 4) (by decide) rfl (by show some (Value.int .i64 x.kind) = some (.int .i64 ((4 : Nat) : Int)); rw [hk]; rfl)) rfl (fun _ => rfl) rfl ?_
      refine SXq.loadB 0 (by kernel_rfl) (.head _) (fun _ => rfl) rfl (fun _ => rfl) (v := .string ⟨([115, 101, 116] : List UInt8).toArray⟩) rfl ?_
      skip
      refine SXq.tail (fun xq => ?_)
      have hKO := fun w => skeyOf_any (default : Style) x.key w
      have hKh := keyOf_has (default : Style) x.key
      rcases hko : keyOf (default : Style) x.key with ⟨v0, b0⟩
      rw [hko] at hKO hKh
      simp only at hKO hKh
      subst hKh
      have hV := fun w => svalueOk_any x.v w
      by_cases hkv : hasKey x.key && valOk x.v
      rotate_left
      · rw [actLine_5 (by simp [toldA, hk, hkv])]
        cases hkey : hasKey x.key
        · rw [hkey] at hKO
          repeat (first | refine qap ?_ | refine qak ?_ | refine qaf ?_ | refine qab ?_ | refine SX.block ?_ | refine qao rfl ?_ | refine qas rfl ?_ | (refine SXl.no rfl rfl rfl ?_) | (refine qaA ?_; (first | refine qaa (qal rfl (fun w hl => dn _)) rfl ?_ ?_ ?_ | refine qaa (qal rfl (fun w hl => hKO _)) rfl ?_ ?_ ?_); rfl; rfl) | (refine l_add ?_; (refine qaa ((OpW.cat rfl rfl (by simp only [List.length_append, List.length_cons, List.length_nil]; omega))) rfl ?_ ?_ ?_); rfl; rfl) | (refine qaO ?_; (refine qaa ((qaz (vals := []) (cells := (default : Style).cells) rfl (by kernel_rfl))) rfl ?_ ?_ ?_); rfl; rfl) | (refine qaF ?_; (refine qaa (qat 0 rfl rfl rfl) rfl ?_ ?_ ?_); rfl; rfl) | (refine qam ?_; (refine qaa (qag rfl) rfl ?_ ?_ ?_); rfl; rfl) | (refine qau ?_; (refine qaa (qaj rfl) rfl ?_ ?_ ?_); rfl; rfl) | (refine qai ?_; (refine qaa (qae rfl) rfl ?_ ?_ ?_); rfl; rfl) | (refine qaK ?_; (first | refine qaa (qaI rfl rfl (by omega)) rfl ?_ ?_ ?_ | refine qaa (qaH rfl rfl (by omega)) rfl ?_ ?_ ?_); rfl; rfl) | (refine l_neq ?_; (refine qaa (OpW.neqT rfl rfl (by omega)) rfl ?_ ?_ ?_); rfl; rfl) | (refine l_not ?_; (refine qaa (OpW.not rfl) rfl ?_ ?_ ?_); rfl; rfl) | (refine qaR ?_; (refine qaa (qax rfl rfl rfl) rfl ?_ ?_ ?_); rfl; rfl) | (refine qaP ?_; (refine qaa (OpW.extract rfl rfl) rfl ?_ ?_ ?_); rfl; rfl) | (refine qaT ?_; refine SXl.alloc ?_ ?_ (fun g => ?_); rfl; rfl) | (refine qaD ?_; first | ((first | refine qad 0 ?_ rfl rfl rfl rfl rfl rfl rfl ?_ | refine qad 1 ?_ rfl rfl rfl rfl rfl rfl rfl ?_ | refine qad 2 ?_ rfl rfl rfl rfl rfl rfl rfl ?_); rfl; simp only [List.set_cons_zero, List.set_cons_succ]) | ((first | refine qac 0 ?_ rfl rfl rfl rfl rfl rfl rfl ?_ | refine qac 1 ?_ rfl rfl rfl rfl rfl rfl rfl ?_ | refine qac 2 ?_ rfl rfl rfl rfl rfl rfl rfl ?_); rfl; simp only [over, List.set_cons_zero, List.set_cons_succ])) | refine qav ?_ | refine qan ?_ | refine qaw ?_)
          refine qaC rfl rfl (fun w' hl => ⟨rfl, hl.mod⟩)
        · have hv : valOk x.v = false := by rw [hkey] at hkv; simpa using hkv
          rw [hkey] at hKO
          rw [hv] at hV
          repeat (first | refine qap ?_ | refine qak ?_ | refine qaf ?_ | refine qab ?_ | refine SX.block ?_ | refine qao rfl ?_ | refine qas rfl ?_ | (refine qaA ?_; (first | refine qaa (qal rfl (fun w hl => dn _)) rfl ?_ ?_ ?_ | refine qaa (qal rfl (fun w hl => hKO _)) rfl ?_ ?_ ?_ | refine qaa (qal rfl (fun w hl => hV _)) rfl ?_ ?_ ?_); rfl; rfl) | (refine l_add ?_; (refine qaa ((OpW.cat rfl rfl (by simp only [List.length_append, List.length_cons, List.length_nil]; omega))) rfl ?_ ?_ ?_); rfl; rfl) | (refine qaO ?_; (refine qaa ((qaz (vals := []) (cells := (default : Style).cells) rfl (by kernel_rfl))) rfl ?_ ?_ ?_); rfl; rfl) | (refine qaF ?_; (first | refine qaa (qaJ 1 (r := x.v.cells) rfl rfl rfl rfl) rfl ?_ ?_ ?_ | refine qaa (qat 0 rfl rfl rfl) rfl ?_ ?_ ?_); rfl; rfl) | (refine qam ?_; (refine qaa (qag rfl) rfl ?_ ?_ ?_); rfl; rfl) | (refine qau ?_; (refine qaa (qaj rfl) rfl ?_ ?_ ?_); rfl; rfl) | (refine qai ?_; (refine qaa (qae rfl) rfl ?_ ?_ ?_); rfl; rfl) | (refine qaK ?_; (first | refine qaa (qaI rfl rfl (by omega)) rfl ?_ ?_ ?_ | refine qaa (qaH rfl rfl (by omega)) rfl ?_ ?_ ?_); rfl; rfl) | (refine l_neq ?_; (refine qaa (OpW.neqT rfl rfl (by omega)) rfl ?_ ?_ ?_); rfl; rfl) | (refine l_not ?_; (refine qaa (OpW.not rfl) rfl ?_ ?_ ?_); rfl; rfl) | (refine qaR ?_; (refine qaa (qax rfl rfl rfl) rfl ?_ ?_ ?_); rfl; rfl) | (refine qaP ?_; (refine qaa (OpW.extract rfl rfl) rfl ?_ ?_ ?_); rfl; rfl) | (refine qaT ?_; refine SXl.alloc ?_ ?_ (fun g => ?_); rfl; rfl) | (refine qaD ?_; first | ((first | refine qad 0 ?_ rfl rfl rfl rfl rfl rfl rfl ?_ | refine qad 1 ?_ rfl rfl rfl rfl rfl rfl rfl ?_ | refine qad 2 ?_ rfl rfl rfl rfl rfl rfl rfl ?_); rfl; simp only [List.set_cons_zero, List.set_cons_succ]) | ((first | refine qac 0 ?_ rfl rfl rfl rfl rfl rfl rfl ?_ | refine qac 1 ?_ rfl rfl rfl rfl rfl rfl rfl ?_ | refine qac 2 ?_ rfl rfl rfl rfl rfl rfl rfl ?_); rfl; simp only [over, List.set_cons_zero, List.set_cons_succ])) | refine qav ?_ | refine qan ?_ | refine qaw ?_)
          refine qaC rfl rfl (fun w' hl => ⟨rfl, hl.mod⟩)
      simp only [Bool.and_eq_true] at hkv
      obtain ⟨hkey, hv⟩ := hkv
      rw [hkey] at hKO
      rw [hv] at hV
      have hvt := fun w => svalueText_any x.v (valOk_b hv) w
      have hvl := valText_short x.v (valOk_b hv)
      have hkl := key_short hkey
      have hT2 : toldA x = true := by simp [toldA, hk, hkey, hv]
      rw [actLine_y ho hft hw hh hT2 hx.symm, hp]
      repeat (first | refine qap ?_ | refine qak ?_ | refine qaf ?_ | refine qab ?_ | refine SX.block ?_ | refine qaE ?_ | refine qao rfl ?_ | refine qas rfl ?_ | (refine qaA ?_; (first | refine qaa (qal rfl (fun w hl => dn _)) rfl ?_ ?_ ?_ | refine qaa (qal rfl (fun w hl => hKO _)) rfl ?_ ?_ ?_ | refine qaa (qal rfl (fun w hl => hV _)) rfl ?_ ?_ ?_); rfl; rfl) | (refine l_add ?_; (refine qaa ((OpW.cat rfl rfl (by simp only [List.length_append, List.length_cons, List.length_nil]; omega))) rfl ?_ ?_ ?_); rfl; rfl) | (refine qaO ?_; (refine qaa ((qaz (vals := []) (cells := (default : Style).cells) rfl (by kernel_rfl))) rfl ?_ ?_ ?_); rfl; rfl) | (refine qaF ?_; (first | refine qaa (qaJ 1 (r := x.v.cells) rfl rfl rfl rfl) rfl ?_ ?_ ?_ | refine qaa (qat 0 rfl rfl rfl) rfl ?_ ?_ ?_); rfl; rfl) | (refine qam ?_; (refine qaa (qag rfl) rfl ?_ ?_ ?_); rfl; rfl) | (refine qau ?_; (refine qaa (qaj rfl) rfl ?_ ?_ ?_); rfl; rfl) | (refine qai ?_; (refine qaa (qae rfl) rfl ?_ ?_ ?_); rfl; rfl) | (refine qaK ?_; (first | refine qaa (qaI rfl rfl (by omega)) rfl ?_ ?_ ?_ | refine qaa (qaH rfl rfl (by omega)) rfl ?_ ?_ ?_); rfl; rfl) | (refine l_neq ?_; (refine qaa (OpW.neqT rfl rfl (by omega)) rfl ?_ ?_ ?_); rfl; rfl) | (refine l_not ?_; (refine qaa (OpW.not rfl) rfl ?_ ?_ ?_); rfl; rfl) | (refine qaR ?_; (refine qaa (qax rfl rfl rfl) rfl ?_ ?_ ?_); rfl; rfl) | (refine qaP ?_; (refine qaa (OpW.extract rfl rfl) rfl ?_ ?_ ?_); rfl; rfl) | refine SX.drawn (by kernel_rfl) (by kernel_rfl) ?_ | refine SXr.nil ?_ | (refine r_call ?_; (refine SXr.v (qal rfl (fun w hl => hvt _)) rfl ?_ ?_ ?_); rfl; rfl) | (refine r_add ?_; (refine SXr.v ((OpW.cat rfl rfl (by simp only [List.length_append, List.length_cons, List.length_nil]; omega))) rfl ?_ ?_ ?_); rfl; rfl) | (refine r_load ?_; (first | refine SXr.v (qaJ 1 (r := x.v.cells) rfl rfl rfl rfl) rfl ?_ ?_ ?_ | refine SXr.v (qat 1 rfl rfl rfl) rfl ?_ ?_ ?_); rfl; rfl) | (refine r_fieldAddr ?_; (refine SXr.v (qag rfl) rfl ?_ ?_ ?_); rfl; rfl) | (refine r_move ?_; (refine SXr.v (qaj rfl) rfl ?_ ?_ ?_); rfl; rfl) | (refine r_assign ?_; (refine SXr.v (qae rfl) rfl ?_ ?_ ?_); rfl; rfl) | (refine qaT ?_; refine SXl.alloc ?_ ?_ (fun g => ?_); rfl; rfl) | (refine qaD ?_; first | ((first | refine qad 0 ?_ rfl rfl rfl rfl rfl rfl rfl ?_ | refine qad 1 ?_ rfl rfl rfl rfl rfl rfl rfl ?_ | refine qad 2 ?_ rfl rfl rfl rfl rfl rfl rfl ?_); rfl; simp only [List.set_cons_zero, List.set_cons_succ]) | ((first | refine qac 0 ?_ rfl rfl rfl rfl rfl rfl rfl ?_ | refine qac 1 ?_ rfl rfl rfl rfl rfl rfl rfl ?_ | refine qac 2 ?_ rfl rfl rfl rfl rfl rfl rfl ?_); rfl; simp only [over, List.set_cons_zero, List.set_cons_succ])) | refine qav ?_ | refine qan ?_ | refine qaw ?_)
      refine qaC rfl rfl (fun w' hl => ⟨ret_string (by simp [Lib.join_cons, Lib.joinTail]), hl.mod⟩)
    · have hp : actParts x = [[116, 97, 98, 108, 101], Lib.itoa x.n, ruleTextOf x.rules] := by simp [actParts, hk]
      refine SX.drawnQT 5 0 [] [] (by kernel_rfl) (by kernel_rfl) (by kernel_rfl) (fun B hf => ?_)
      refine SXq.callB hf (by simp [wordCells]) (fun _ => rfl) rfl (fun _ => rfl) (fun w hl => (l30Words_any w).mono fun e w' ⟨_, g, h1, h2, h3, h4⟩ => ⟨g, h1, h2, h3, h4⟩) ?_
      repeat (first | (refine SXq.v (fun _ => (qat 0 rfl rfl rfl)) rfl (fun _ => rfl) rfl ?_) | (refine SXq.v (fun _ => (qag rfl)) rfl (fun _ => rfl) rfl ?_))
      refine SXq.vk 0 (fun q => .pointer (some ⟨sOf q, 0 + 5, none⟩)) (by kernel_rfl) (fun _ => qaM (len := 8) (i := 5) (by decide) rfl (by show some (Value.int .i64 x.kind) = some (.int .i64 ((5 : Nat) : Int)); rw [hk]; rfl)) rfl (fun _ => rfl) rfl ?_
      refine SXq.loadB 0 (by kernel_rfl) (.head _) (fun _ => rfl) rfl (fun _ => rfl) (v := .string ⟨([116, 97, 98, 108, 101] : List UInt8).toArray⟩) rfl ?_
      skip
      refine SXq.tail (fun xq => ?_)
      have hX := fun w' (hm : Mod (fun _ => False) w w') => sruleText_any x.rules a c R w' hl0 (h.flatKeep hm)
      have hrl2 := ruleText_short hr8
      by_cases hrt : ruleTextOf x.rules = []
      · rw [actLine_5 (by simp [toldA, hk, hrt])]
        repeat (first | refine qap ?_ | refine qak ?_ | refine qaf ?_ | refine qab ?_ | refine SX.block ?_ | refine qao rfl ?_ | refine qas rfl ?_ | (refine qaA ?_; (first | refine qaa (qal rfl (fun w hl => dn _)) rfl ?_ ?_ ?_ | refine qaa (qal rfl (fun w hl => hX _ hl.mod)) rfl ?_ ?_ ?_); rfl; rfl) | (refine l_add ?_; (refine qaa ((OpW.cat rfl rfl (by simp only [List.length_append, List.length_cons, List.length_nil]; omega))) rfl ?_ ?_ ?_); rfl; rfl) | (refine qaF ?_; (first | refine qaa (qat 0 rfl rfl rfl) rfl ?_ ?_ ?_ | refine qaa (qaJ 0 rfl rfl rfl rfl) rfl ?_ ?_ ?_); rfl; rfl) | (refine qam ?_; (refine qaa (qag rfl) rfl ?_ ?_ ?_); rfl; rfl) | (refine qau ?_; (refine qaa (qaj rfl) rfl ?_ ?_ ?_); rfl; rfl) | (refine qai ?_; (refine qaa (qae rfl) rfl ?_ ?_ ?_); rfl; rfl) | (refine qaK ?_; (first | refine qaa (qaI rfl rfl (by omega)) rfl ?_ ?_ ?_ | refine qaa (qaH rfl rfl (by omega)) rfl ?_ ?_ ?_ | refine qaa (qaB rfl rfl (by first | assumption | with_reducible rfl | decide)) rfl ?_ ?_ ?_); rfl; rfl) | (refine l_neq ?_; (refine qaa (OpW.neqT rfl rfl (by omega)) rfl ?_ ?_ ?_); rfl; rfl) | refine qav ?_ | refine qan ?_ | refine qaw ?_)
        refine qaC rfl rfl (fun w' hl => ⟨rfl, hl.mod⟩)
      have hT2 : toldA x = true := by simp [toldA, hk, hrt]
      rw [actLine_y ho hft hw hh hT2 hx.symm, hp]
      repeat (first | refine qap ?_ | refine qak ?_ | refine qaf ?_ | refine qab ?_ | refine SX.block ?_ | refine qaE ?_ | refine qao rfl ?_ | refine qas rfl ?_ | (refine qaA ?_; (first | refine qaa (qal rfl (fun w hl => dn _)) rfl ?_ ?_ ?_ | refine qaa (qal rfl (fun w hl => hX _ hl.mod)) rfl ?_ ?_ ?_); rfl; rfl) | (refine l_add ?_; (refine qaa ((OpW.cat rfl rfl (by simp only [List.length_append, List.length_cons, List.length_nil]; omega))) rfl ?_ ?_ ?_); rfl; rfl) | (refine qaF ?_; (first | refine qaa (qat 0 rfl rfl rfl) rfl ?_ ?_ ?_ | refine qaa (qaJ 0 rfl rfl rfl rfl) rfl ?_ ?_ ?_); rfl; rfl) | (refine qam ?_; (refine qaa (qag rfl) rfl ?_ ?_ ?_); rfl; rfl) | (refine qau ?_; (refine qaa (qaj rfl) rfl ?_ ?_ ?_); rfl; rfl) | (refine qai ?_; (refine qaa (qae rfl) rfl ?_ ?_ ?_); rfl; rfl) | (refine qaK ?_; (first | refine qaa (qaI rfl rfl (by omega)) rfl ?_ ?_ ?_ | refine qaa (qaH rfl rfl (by omega)) rfl ?_ ?_ ?_ | refine qaa (qay rfl rfl (by first | assumption | with_reducible rfl | decide)) rfl ?_ ?_ ?_); rfl; rfl) | (refine l_neq ?_; (refine qaa (OpW.neqT rfl rfl (by omega)) rfl ?_ ?_ ?_); rfl; rfl) | refine qav ?_ | refine qan ?_ | refine qaw ?_)
      refine qaC rfl rfl (fun w' hl => ⟨ret_string (by simp [Lib.join_cons, Lib.joinTail]), hl.mod⟩)
    · have hp : actParts x = [[100, 105, 114, 116, 121], Lib.itoa x.n] := by simp [actParts, hk]
      refine SX.drawnQT 5 0 [] [] (by kernel_rfl) (by kernel_rfl) (by kernel_rfl) (fun B hf => ?_)
      refine SXq.callB hf (by simp [wordCells]) (fun _ => rfl) rfl (fun _ => rfl) (fun w hl => (l30Words_any w).mono fun e w' ⟨_, g, h1, h2, h3, h4⟩ => ⟨g, h1, h2, h3, h4⟩) ?_
      repeat (first | (refine SXq.v (fun _ => (qat 0 rfl rfl rfl)) rfl (fun _ => rfl) rfl ?_) | (refine SXq.v (fun _ => (qag rfl)) rfl (fun _ => rfl) rfl ?_))
      refine SXq.vk 0 (fun q => .pointer (some ⟨sOf q, 0 + 6, none⟩)) (by kernel_rfl) (fun _ => qaM (len := 8) (i := 6) (by decide) rfl (by show some (Value.int .i64 x.kind) = some (.int .i64 ((6 : Nat) : Int)); rw [hk]; rfl)) rfl (fun _ => rfl) rfl ?_
      refine SXq.loadB 0 (by kernel_rfl) (.head _) (fun _ => rfl) rfl (fun _ => rfl) (v := .string ⟨([100, 105, 114, 116, 121] : List UInt8).toArray⟩) rfl ?_
      skip
      refine SXq.tail (fun xq => ?_)
      have hT2 : toldA x = true := by simp [toldA, hk]
      rw [actLine_y ho hft hw hh hT2 hx.symm, hp]
      repeat (first | refine qap ?_ | refine qak ?_ | refine qaf ?_ | refine qab ?_ | refine SX.block ?_ | refine qaE ?_ | refine qao rfl ?_ | refine qas rfl ?_ | (refine qaA ?_; (refine qaa (qal rfl (fun w hl => dn _)) rfl ?_ ?_ ?_); rfl; rfl) | (refine l_add ?_; (refine qaa ((OpW.cat rfl rfl (by simp only [List.length_append, List.length_cons, List.length_nil]; omega))) rfl ?_ ?_ ?_); rfl; rfl) | (refine qaF ?_; (refine qaa (qat 0 rfl rfl rfl) rfl ?_ ?_ ?_); rfl; rfl) | (refine qam ?_; (refine qaa (qag rfl) rfl ?_ ?_ ?_); rfl; rfl) | (refine qau ?_; (refine qaa (qaj rfl) rfl ?_ ?_ ?_); rfl; rfl) | (refine qai ?_; (refine qaa (qae rfl) rfl ?_ ?_ ?_); rfl; rfl) | (refine qaK ?_; (refine qaa (qaH rfl rfl (by omega)) rfl ?_ ?_ ?_); rfl; rfl) | (refine l_neq ?_; (refine qaa (OpW.neqT rfl rfl (by omega)) rfl ?_ ?_ ?_); rfl; rfl) | refine qav ?_ | refine qar ?_)
      refine qaC rfl rfl (fun w' hl => ⟨ret_string (by simp [Lib.join_cons, Lib.joinTail]), hl.mod⟩)
    · have hp : actParts x = [[108, 97, 121], Lib.itoa x.n, sizeW x.wide, sizeW x.high, dirW x.rtl] := by simp [actParts, hk]
      refine SX.drawnQT 5 0 [] [] (by kernel_rfl) (by kernel_rfl) (by kernel_rfl) (fun B hf => ?_)
      refine SXq.callB hf (by simp [wordCells]) (fun _ => rfl) rfl (fun _ => rfl) (fun w hl => (l30Words_any w).mono fun e w' ⟨_, g, h1, h2, h3, h4⟩ => ⟨g, h1, h2, h3, h4⟩) ?_
      repeat (first | (refine SXq.v (fun _ => (qat 0 rfl rfl rfl)) rfl (fun _ => rfl) rfl ?_) | (refine SXq.v (fun _ => (qag rfl)) rfl (fun _ => rfl) rfl ?_))
      refine SXq.vk 0 (fun q => .pointer (some ⟨sOf q, 0 + 7, none⟩)) (by kernel_rfl) (fun _ => qaM (len := 8) (i := 7) (by decide) rfl (by show some (Value.int .i64 x.kind) = some (.int .i64 ((7 : Nat) : Int)); rw [hk]; rfl)) rfl (fun _ => rfl) rfl ?_
      refine SXq.loadB 0 (by kernel_rfl) (.head _) (fun _ => rfl) rfl (fun _ => rfl) (v := .string ⟨([108, 97, 121] : List UInt8).toArray⟩) rfl ?_
      skip
      refine SXq.tail (fun xq => ?_)
      have hs3 := dirW_short x.rtl
      have hT2 : toldA x = true := by simp [toldA, hk]
      rw [actLine_y ho hft hw hh hT2 hx.symm, hp]
      cases hrtl : x.rtl
      · repeat (first | refine qap ?_ | refine qak ?_ | refine qaf ?_ | refine qab ?_ | refine SX.block ?_ | refine qaE ?_ | refine qao rfl ?_ | refine qas rfl ?_ | (refine qaA ?_; (refine qaa (qal rfl (fun w hl => dn _)) rfl ?_ ?_ ?_); rfl; rfl) | (refine l_add ?_; (refine qaa ((OpW.cat rfl rfl (by simp only [List.length_append, List.length_cons, List.length_nil]; omega))) rfl ?_ ?_ ?_); rfl; rfl) | (refine qaF ?_; (refine qaa (qat 0 rfl rfl rfl) rfl ?_ ?_ ?_); rfl; rfl) | (refine qam ?_; (refine qaa (qag rfl) rfl ?_ ?_ ?_); rfl; rfl) | (refine qau ?_; (refine qaa (qaj rfl) rfl ?_ ?_ ?_); rfl; rfl) | (refine qai ?_; (refine qaa (qae rfl) rfl ?_ ?_ ?_); rfl; rfl) | (refine qaK ?_; (first | refine qaa (qaI rfl rfl (by omega)) rfl ?_ ?_ ?_ | refine qaa (qaH rfl rfl (by omega)) rfl ?_ ?_ ?_); rfl; rfl) | (refine l_neq ?_; (refine qaa (OpW.neqT rfl rfl (by omega)) rfl ?_ ?_ ?_); rfl; rfl) | refine SX.drawn (by kernel_rfl) (by kernel_rfl) ?_ | refine SXr.nil ?_ | (refine r_call ?_; (first | refine SXr.v (qal (args := [.int .i64 x.wide]) rfl (fun w hl => dw _)) rfl ?_ ?_ ?_ | refine SXr.v (qal (args := [.int .i64 x.high]) rfl (fun w hl => dh _)) rfl ?_ ?_ ?_); rfl; rfl) | (refine r_add ?_; (refine SXr.v ((OpW.cat rfl rfl (by simp only [List.length_append, List.length_cons, List.length_nil]; omega))) rfl ?_ ?_ ?_); rfl; rfl) | (refine r_load ?_; (refine SXr.v (qat 0 rfl rfl rfl) rfl ?_ ?_ ?_); rfl; rfl) | (refine r_fieldAddr ?_; (refine SXr.v (qag rfl) rfl ?_ ?_ ?_); rfl; rfl) | (refine r_move ?_; (refine SXr.v (qaj rfl) rfl ?_ ?_ ?_); rfl; rfl) | (refine r_assign ?_; (refine SXr.v (qae rfl) rfl ?_ ?_ ?_); rfl; rfl) | (rw [hrtl]) | refine qav ?_ | refine qan ?_ | refine qaw ?_)
        refine qaC rfl rfl (fun w' hl => ⟨ret_string (by simp [Lib.join_cons, Lib.joinTail, dirW]), hl.mod⟩)
      · repeat (first | refine qap ?_ | refine qak ?_ | refine qaf ?_ | refine qab ?_ | refine SX.block ?_ | refine qao rfl ?_ | refine qas rfl ?_ | (refine qaA ?_; (refine qaa (qal rfl (fun w hl => dn _)) rfl ?_ ?_ ?_); rfl; rfl) | (refine l_add ?_; (refine qaa ((OpW.cat rfl rfl (by simp only [List.length_append, List.length_cons, List.length_nil]; omega))) rfl ?_ ?_ ?_); rfl; rfl) | (refine qaF ?_; (refine qaa (qat 0 rfl rfl rfl) rfl ?_ ?_ ?_); rfl; rfl) | (refine qam ?_; (refine qaa (qag rfl) rfl ?_ ?_ ?_); rfl; rfl) | (refine qau ?_; (refine qaa (qaj rfl) rfl ?_ ?_ ?_); rfl; rfl) | (refine qai ?_; (refine qaa (qae rfl) rfl ?_ ?_ ?_); rfl; rfl) | (refine qaK ?_; (first | refine qaa (qaI rfl rfl (by omega)) rfl ?_ ?_ ?_ | refine qaa (qaH rfl rfl (by omega)) rfl ?_ ?_ ?_); rfl; rfl) | (refine l_neq ?_; (refine qaa (OpW.neqT rfl rfl (by omega)) rfl ?_ ?_ ?_); rfl; rfl) | refine SX.drawn (by kernel_rfl) (by kernel_rfl) ?_ | refine SXr.nil ?_ | (refine r_call ?_; (first | refine SXr.v (qal (args := [.int .i64 x.wide]) rfl (fun w hl => dw _)) rfl ?_ ?_ ?_ | refine SXr.v (qal (args := [.int .i64 x.high]) rfl (fun w hl => dh _)) rfl ?_ ?_ ?_); rfl; rfl) | (refine r_add ?_; (refine SXr.v ((OpW.cat rfl rfl (by simp only [List.length_append, List.length_cons, List.length_nil]; omega))) rfl ?_ ?_ ?_); rfl; rfl) | (refine r_load ?_; (refine SXr.v (qat 0 rfl rfl rfl) rfl ?_ ?_ ?_); rfl; rfl) | (refine r_fieldAddr ?_; (refine SXr.v (qag rfl) rfl ?_ ?_ ?_); rfl; rfl) | (refine r_move ?_; (refine SXr.v (qaj rfl) rfl ?_ ?_ ?_); rfl; rfl) | (refine r_assign ?_; (refine SXr.v (qae rfl) rfl ?_ ?_ ?_); rfl; rfl) | (rw [hrtl]) | refine qav ?_ | refine qan ?_ | refine qaw ?_)
        refine qaC rfl rfl (fun w' hl => ⟨ret_string (by simp [Lib.join_cons, Lib.joinTail, dirW]), hl.mod⟩)
end Go.Proofs.YtkkjjhooamlljaaGreatDoor
namespace Go.Proofs.YtkkjjhooamlljaaGreatDoor
open Go.RowKit

def readDec (t : List UInt8) : Int × Bool := match Lib.decNat t with
  | some n => if t.length ≤ 10 ∧ n ≤ 1000000000 ∧ Lib.itoa (n : Int) = t then ((n : Int), true) else (0, false)
  | none => (0, false)
theorem itoa_nat (n : Nat) : Lib.itoa (n : Int) = Lib.decDigits n := by rw [itoa_pos (by omega)]; congr 1
theorem decDigits_ne (u : Nat) : Lib.decDigits u ≠ [] := by
  rw [Lib.decDigits]
  split <;> simp
theorem decFrom_snoc {l : List UInt8} {acc n d : Nat} {b : UInt8} (h : Lib.decFrom acc l = some n) (hd : Lib.digitVal b = some d) : Lib.decFrom acc (l ++ [b]) = some (n * 10 + d) := by
  have h1 := Lib.decFrom_take (l ++ [b]) l.length acc n b d (by simpa using h) (by simp) hd
  rw [List.take_of_length_le (by simp)] at h1
  exact h1
theorem digit_ofNat {d : Nat} (h : d < 10) : Lib.digitVal (UInt8.ofNat (48 + d)) = some d := by
  have e : (UInt8.ofNat (48 + d)).toNat = 48 + d := by
    rw [UInt8.toNat_ofNat']
    omega
  unfold Lib.digitVal
  rw [e, if_pos ⟨by omega, by omega⟩]
  congr 1
  omega
theorem decFrom_digits (u : Nat) : Lib.decFrom 0 (Lib.decDigits u) = some u := by
  induction u using Nat.strongRecOn with
  | _ u ih =>
    rw [Lib.decDigits]
    split
    · rename_i h
      have := decFrom_snoc (l := []) (acc := 0) (n := 0) rfl (digit_ofNat h)
      simpa using this
    · rename_i h
      have h1 := ih (u / 10) (by omega)
      have := decFrom_snoc h1 (digit_ofNat (show u % 10 < 10 by omega))
      rw [this]
      congr 1
      omega
theorem decNat_digits (u : Nat) : Lib.decNat (Lib.decDigits u) = some u := by
  unfold Lib.decNat
  rw [if_neg (by simpa using decDigits_ne u)]
  exact decFrom_digits u
/-- What is read is read back. -/
theorem readDec_true {t : List UInt8} {n : Int} (h : readDec t = (n, true)) : ∃ m : Nat, n = (m : Int) ∧ m ≤ 1000000000 ∧ Lib.decDigits m = t ∧ t.length ≤ 10 := by
  unfold readDec at h
  split at h
  · rename_i m hm
    split at h
    · rename_i hc
      simp only [Prod.mk.injEq, and_true] at h
      exact ⟨m, h.symm, hc.2.1, by rw [← itoa_nat]; exact hc.2.2, hc.1⟩
    · simp at h
  · simp at h
theorem readDec_of {t : List UInt8} {m : Nat} (h : Lib.decDigits m = t) (hl : t.length ≤ 10) (hm : m ≤ 1000000000) : readDec t = ((m : Int), true) := by
  subst h
  unfold readDec
  rw [decNat_digits]
  simp only
  rw [if_pos ⟨hl, hm, itoa_nat m⟩]
theorem readDec_false {t : List UInt8} (h : ∀ m : Nat, m ≤ 1000000000 → Lib.decDigits m = t → t.length ≤ 10 → False) : readDec t = (0, false) := by
  unfold readDec
  split
  · rename_i m hm
    rw [if_neg fun hc => h m hc.2.1 (by rw [← itoa_nat]; exact hc.2.2) hc.1]
  · rfl
theorem readDec_cases (t : List UInt8) : readDec t = (0, false) ∨ ∃ m : Nat, readDec t = ((m : Int), true) ∧ m ≤ 1000000000 ∧ Lib.decDigits m = t ∧ t.length ≤ 10 := by
  by_cases h : (readDec t).2 = true
  · obtain ⟨m, h1, h2, h3, h4⟩ := readDec_true (n := (readDec t).1) (t := t) (by rw [← h])
    exact .inr ⟨m, by rw [← h1, ← h], h2, h3, h4⟩
  · left
    refine readDec_false fun m hm hd hl => h ?_
    rw [readDec_of hd hl hm]
/-- The first byte of a numeral is a digit. -/
theorem digits_head (m : Nat) {b : UInt8} {r : List UInt8} (h : Lib.decDigits m = b :: r) : 48 ≤ b.toNat ∧ b.toNat ≤ 57 := by
  obtain ⟨d, hd⟩ := Lib.digit_of_decFrom _ 0 m (decFrom_digits m) 0 b (by rw [h]; rfl)
  unfold Lib.digitVal at hd
  split at hd
  · assumption
  · cases hd
theorem atoi_digits (m : Nat) : Lib.atoi (Lib.decDigits m) = some (m : Int) := by
  have hn := decNat_digits m
  cases h : Lib.decDigits m with
  | nil => exact (decDigits_ne m h).elim
  | cons b r =>
    have hb := digits_head m h
    rw [h] at hn
    unfold Lib.atoi
    have e1 : (b == 45) = false := by
      rw [beq_eq_false_iff_ne]; rintro rfl; revert hb; decide
    have e2 : (b == 43) = false := by
      rw [beq_eq_false_iff_ne]; rintro rfl; revert hb; decide
    simp [e1, e2, hn]

/-- A number, also below 0. -/
def readInt (t : List UInt8) : Int × Bool := if 1 < t.length ∧ t[0]? = some 45 then (-(readDec (t.drop 1)).1, (readDec (t.drop 1)).2 && decide (0 < (readDec (t.drop 1)).1)) else readDec t
end Go.Proofs.YtkkjjhooamlljaaGreatDoor
namespace Go.Proofs.YtkkjjhooamlljaaGreatDoor
open Go.RowKit

section
variable {P : Program} {n : Nat} {W : World} {R : Rg W} {L : List Blk} {O : List Own} {E : List Res} {f : List (Nat × Value)} {Q : Exit → Go.Act → World → Prop} {ops : Array Oper} {rest : List Oper} {k : Nat}
variable {d : Option Nat} {c x y z : Operand} {ty T T' : TypeId} {pos : String} {af : Array Edge} {gd : Option (Nat × Bool)}
class TI64 (P : Program) (T : TypeId) : Prop where
  h : P.underlying T = some (.int .i64)
class TAny (P : Program) (T : TypeId) : Prop where
  h : ∃ d, P.underlying T = some d
class TIf (P : Program) (T : TypeId) : Prop where
  h : ∃ ms, P.underlying T = some (.interface ms)
theorem OpW.conv64 {k : IntKind} {m : Int} [s : TAny P T] [t : TI64 P T'] (hx : evO f x = some (.int k m)) (h0 : -9223372036854775808 ≤ m) (h1 : m ≤ 9223372036854775807) : OpW P n W R L O E f ⟨d, .convert T T' x, ty, pos, af, gd⟩ (.int .i64 m) :=
  OpW.of (fun a w hf _ => by
    obtain ⟨ds, hs⟩ := s.h
    simp [execOp, hf.eval hx, convert, run_underlying hs, run_underlying t.h, Conv.intToInt, wrap_in h0 h1])
theorem l_convert (h : SXl P n W R ops L O E f (⟨d, .convert T T' x, ty, pos, af, gd⟩ :: rest) Q) : SXl P n W R ops L O E f (⟨d, .convert T T' x, ty, pos, af, gd⟩ :: rest) Q := h
theorem run_eq_ifd [t : TIf P T] (dd : Nat) (w : World) : (Op.equalIn (dd + 1) T .nilIface .nilIface).run P w = .ok true w := by
  obtain ⟨e, h⟩ := t.h
  simp [Op.equalIn, run_underlying h]
theorem run_eq_ifn [t : TIf P T] (dd : Nat) (u : TypeId) (v : Value) (w : World) : (Op.equalIn (dd + 1) T (.iface u v) .nilIface).run P w = .ok false w := by
  obtain ⟨e, h⟩ := t.h
  simp [Op.equalIn, run_underlying h]
theorem OpW.neqI0 [t : TIf P T] (hx : evO f x = some .nilIface) : OpW P n W R L O E f ⟨d, .binOp .neq T x (.const .nilIface) T', ty, pos, af, gd⟩ (.bool false) :=
  OpW.bin (v := .nilIface) hx rfl (eqGuard_nil_constR ..) (fun w => by
    have := run_eq_ifd (P := P) (T := T) 9999 w
    simp only [binOp]
    simp [Op.equal, Op.maxDepth, this])
theorem OpW.neqI1 [t : TIf P T] {u : TypeId} {v : Value} (hx : evO f x = some (.iface u v)) : OpW P n W R L O E f ⟨d, .binOp .neq T x (.const .nilIface) T', ty, pos, af, gd⟩ (.bool true) :=
  OpW.bin (v := .nilIface) hx rfl rfl (fun w => by
    have := run_eq_ifn (P := P) (T := T) 9999 u v w
    simp only [binOp]
    simp [Op.equal, Op.maxDepth, this])
end
instance : TI64 Tryz.prog 3 := ⟨Tryz.underlying3⟩
instance : TAny Tryz.prog 5 := ⟨⟨_, Tryz.underlying5⟩⟩
instance : TIf Tryz.prog 94 := ⟨⟨_, Tryz.underlying94⟩⟩
instance : TFun Tryz.prog 88 := ⟨Tryz.f88, by kernel_rfl, by kernel_rfl, by kernel_rfl⟩
instance : TFun Tryz.prog 95 := ⟨Tryz.f95, by kernel_rfl, by kernel_rfl, by kernel_rfl⟩
instance : TFun Tryz.prog 96 := ⟨Tryz.f96, by kernel_rfl, by kernel_rfl, by kernel_rfl⟩

/-- The library's syntax error is an error. -/
def Syn (w : World) : Prop := ∃ tp p, w.var? Tryz.prog "strconv.ErrSyntax" = some #[.iface tp p]
theorem Syn.keep {w w' : World} (h : Syn w) (hm : Mod (fun _ => False) w w') : Syn w' := by
  obtain ⟨tp, p, h⟩ := h
  exact ⟨tp, p, var_keep hm h⟩
theorem mod_bytesWorld (w : World) (e : TypeId) (s : ByteArray) : Mod (fun _ => False) w (Lib.bytesWorld w e s) := by
  have h1 : Mod (fun _ => False) w (w.drew.alloc (.cells (Lib.bytesCells w e s) e)) := (Mod.refl _ w).drew.alloc _
  exact below_kept (Lib.below_freeze (p := ⟨w.heap.size, (Lib.bytesCells w e s).size, none⟩) (h1.below (Nat.le_refl _) fun _ _ h => h) (Nat.le_refl _) 1)
theorem atoi_ok (t : List UInt8) (v : Int) (hl : t.length ≤ 18) (h : Lib.atoi t = some v) (w : World) : Calls Tryz.prog 88 #[.string ⟨t.toArray⟩] w fun e w' => e = .returned (.tuple #[.int .i64 v, .nilIface]) ∧ Mod (fun _ => False) w w' :=
  (Tryz.strconv_Atoi ⟨t.toArray⟩ v (by show t.toArray.size ≤ 18; simpa using hl) h w).mono fun e w' ⟨he, t, hw⟩ => ⟨he, hw ▸ mod_bytesWorld w 5 t⟩

set_option maxRecDepth 100000 in
set_option maxHeartbeats 4000000 in
theorem sreadDecimal_any (t : List UInt8) (ht : t.length ≤ 1048576) (w : World) : Calls Tryz.prog 69 #[.string ⟨t.toArray⟩] w fun e w' => e = .returned (.tuple #[.int .i64 (readDec t).1, .bool (readDec t).2]) ∧ Mod (fun _ => False) w w' := by
  refine calls_sx Tryz.func69 rfl rfl (fun a h1 h2 h3 => ((Fr.nil h1 h2).arg (h3 0 _ rfl))) ?_
  by_cases hl : t.length ≤ 10
  rotate_left
  · have e : readDec t = (0, false) := readDec_false fun m _ _ h => hl h
    rw [e]
    repeat (first | refine qap ?_ | refine qak ?_ | refine qaf ?_ | refine qab ?_ | refine qao rfl ?_ | (refine qau ?_; (refine qaa (qaj rfl) rfl ?_ ?_ ?_); rfl; rfl) | (refine qai ?_; (refine qaa (qae rfl) rfl ?_ ?_ ?_); rfl; rfl) | (refine l_len ?_; (refine qaa (qaS rfl) rfl ?_ ?_ ?_); rfl; rfl) | (refine l_gtr ?_; (refine qaa (OpW.gtrT rfl rfl (by omega)) rfl ?_ ?_ ?_); rfl; rfl) | refine qav ?_ | refine qan ?_)
    refine qaU rfl rfl rfl (fun w' hl => ⟨rfl, hl.mod⟩)
  repeat (first | refine qap ?_ | refine qak ?_ | refine qaf ?_ | refine qab ?_ | refine SX.block ?_ | refine qaE ?_ | refine qas rfl ?_ | (refine qau ?_; (refine qaa (qaj rfl) rfl ?_ ?_ ?_); rfl; rfl) | (refine qai ?_; (refine qaa (qae rfl) rfl ?_ ?_ ?_); rfl; rfl) | (refine l_len ?_; (refine qaa (qaS rfl) rfl ?_ ?_ ?_); rfl; rfl) | (refine l_gtr ?_; (refine qaa (OpW.gtrF rfl rfl (by omega)) rfl ?_ ?_ ?_); rfl; rfl))
  refine SX.loop3 (fun (k n : Nat) (_ : Unit) => k ≤ t.length ∧ Lib.decFrom 0 (t.take k) = some n) (fun k _ _ => t.length - k) (fun _ _ _ => []) (fun _ _ _ => []) (fun _ _ _ => []) (fun k n _ => [(0, .string ⟨t.toArray⟩), (4, .int .i64 n), (5, .int .i64 k)]) 0 0 () ⟨Nat.zero_le _, rfl⟩ ?_ (fun _ hl => hl) ?_
  · (repeat (first | exact subF_nil _ | (refine subF_cons rfl ?_) | (refine subF_consv rfl (by rfl) ?_)))
  rintro k n _ ⟨hk, hn⟩
  have hn17 := Lib.decFrom_take_lt hn (by omega)
  by_cases hlt : k < t.length
  · have hu : t[k]? = some t[k] := List.getElem?_eq_getElem hlt
    generalize t[k] = u at hu
    by_cases h48 : (u.toNat : Int) < 48
    · have e : readDec t = (0, false) := readDec_false fun m _ hm _ => by
        obtain ⟨dd, hd⟩ := Lib.digit_of_decFrom t 0 m (hm ▸ decFrom_digits m) k u hu
        unfold Lib.digitVal at hd
        rw [if_neg (by omega)] at hd
        cases hd
      rw [e]
      repeat (first | refine qap ?_ | refine qak ?_ | refine qaf ?_ | refine qab ?_ | refine SX.block ?_ | refine qaE ?_ | refine qao rfl ?_ | (refine SXl.no rfl rfl rfl ?_) | (refine qau ?_; (refine qaa (qaj rfl) rfl ?_ ?_ ?_); rfl; rfl) | (refine qai ?_; (refine qaa (qae rfl) rfl ?_ ?_ ?_); rfl; rfl) | (refine l_len ?_; (refine qaa (qaS rfl) rfl ?_ ?_ ?_); rfl; rfl) | (refine l_index ?_; (refine qaa (OpW.indexStr rfl rfl (by assumption)) rfl ?_ ?_ ?_); rfl; rfl) | (refine l_lss ?_; (refine qaa (OpW.lssT rfl rfl (by omega)) rfl ?_ ?_ ?_); rfl; rfl) | (refine qaR ?_; (refine qaa (qax rfl rfl rfl) rfl ?_ ?_ ?_); rfl; rfl) | refine qav ?_ | refine qan ?_ | refine qaw ?_)
      refine qaU rfl rfl rfl (fun w' hl => ⟨rfl, hl.mod⟩)
    by_cases h57 : (57 : Int) < u.toNat
    · have e : readDec t = (0, false) := readDec_false fun m _ hm _ => by
        obtain ⟨dd, hd⟩ := Lib.digit_of_decFrom t 0 m (hm ▸ decFrom_digits m) k u hu
        unfold Lib.digitVal at hd
        rw [if_neg (by omega)] at hd
        cases hd
      rw [e]
      repeat (first | refine qap ?_ | refine qak ?_ | refine qaf ?_ | refine qab ?_ | refine SX.block ?_ | refine qaE ?_ | refine qao rfl ?_ | (refine qau ?_; (refine qaa (qaj rfl) rfl ?_ ?_ ?_); rfl; rfl) | (refine qai ?_; (refine qaa (qae rfl) rfl ?_ ?_ ?_); rfl; rfl) | (refine l_len ?_; (refine qaa (qaS rfl) rfl ?_ ?_ ?_); rfl; rfl) | (refine l_index ?_; (refine qaa (OpW.indexStr rfl rfl (by assumption)) rfl ?_ ?_ ?_); rfl; rfl) | (refine l_gtr ?_; (refine qaa (OpW.gtrT rfl rfl (by omega)) rfl ?_ ?_ ?_); rfl; rfl) | (refine l_lss ?_; (first | refine qaa (OpW.lssT rfl rfl (by omega)) rfl ?_ ?_ ?_ | refine qaa (OpW.lssF rfl rfl (by omega)) rfl ?_ ?_ ?_); rfl; rfl) | (refine qaR ?_; (refine qaa (qax rfl rfl rfl) rfl ?_ ?_ ?_); rfl; rfl) | refine qav ?_ | refine qan ?_ | refine qaw ?_)
      refine qaU rfl rfl rfl (fun w' hl => ⟨rfl, hl.mod⟩)
    have hd : Lib.digitVal u = some (u.toNat - 48) := by
      unfold Lib.digitVal
      rw [if_pos ⟨by omega, by omega⟩]
    have hs := Lib.decFrom_take t k 0 n u (u.toNat - 48) hn hu hd
    have he : (10 * (n : Int) + (u.toNat : Int)) - 48 = ((n * 10 + (u.toNat - 48) : Nat) : Int) := by omega
    repeat (first | refine qap ?_ | refine qak ?_ | refine qaf ?_ | refine qab ?_ | refine SX.block ?_ | refine qaE ?_ | refine qao rfl ?_ | refine qas rfl ?_ | (refine l_convert ?_; (refine qaa ((OpW.conv64 rfl (by omega) (by omega))) rfl ?_ ?_ ?_); rfl; rfl) | (refine qau ?_; (refine qaa (qaj rfl) rfl ?_ ?_ ?_); rfl; rfl) | (refine qai ?_; (refine qaa (qae rfl) rfl ?_ ?_ ?_); rfl; rfl) | (refine l_len ?_; (refine qaa (qaS rfl) rfl ?_ ?_ ?_); rfl; rfl) | (refine l_index ?_; (refine qaa (OpW.indexStr rfl rfl (by assumption)) rfl ?_ ?_ ?_); rfl; rfl) | (refine l_add ?_; (first | refine qaa (OpW.succ rfl rfl (by omega)) rfl ?_ ?_ ?_ | refine qaa (OpW.addi rfl rfl (by omega) (by omega)) rfl ?_ ?_ ?_); rfl; rfl) | (refine l_gtr ?_; (refine qaa (OpW.gtrF rfl rfl (by omega)) rfl ?_ ?_ ?_); rfl; rfl) | (refine l_lss ?_; (first | refine qaa (OpW.lssT rfl rfl (by omega)) rfl ?_ ?_ ?_ | refine qaa (OpW.lssF rfl rfl (by omega)) rfl ?_ ?_ ?_); rfl; rfl) | (refine l_mul ?_; (refine qaa (OpW.muli rfl rfl (by omega) (by omega)) rfl ?_ ?_ ?_); rfl; rfl) | (refine l_sub ?_; (refine qaa (OpW.subi rfl rfl (by omega) (by omega)) rfl ?_ ?_ ?_); rfl; rfl) | (refine qaR ?_; (refine qaa (qax rfl rfl rfl) rfl ?_ ?_ ?_); rfl; rfl) | refine qar ?_)
    have hI : k + 1 ≤ t.length ∧ Lib.decFrom 0 (t.take (k + 1)) = some (n * 10 + (u.toNat - 48)) := ⟨by omega, hs⟩
    refine SQ.round3 (k + 1) (n * 10 + (u.toNat - 48)) () hI (by omega) ?_ (fun _ hl => hl)
    (repeat (first | exact subF_nil _ | (refine subF_cons rfl ?_) | (refine subF_consv rfl (by rw [he]) ?_)))
  · have hk' : k = t.length := by omega
    subst hk'
    rw [List.take_length] at hn
    have hdec := fun w => sdecimal_any (n : Int) (by omega) (by omega) w
    have hit := itoa_nat n
    by_cases h9 : (1000000000 : Int) < n
    · have e : readDec t = (0, false) := readDec_false fun m hm hd _ => by
        have := decFrom_digits m
        rw [hd, hn] at this
        have := Option.some.inj this
        omega
      rw [e]
      repeat (first | refine qap ?_ | refine qak ?_ | refine qaf ?_ | refine qab ?_ | refine qao rfl ?_ | refine qas rfl ?_ | (refine SXl.no rfl rfl rfl ?_) | (refine qau ?_; (refine qaa (qaj rfl) rfl ?_ ?_ ?_); rfl; rfl) | (refine qai ?_; (refine qaa (qae rfl) rfl ?_ ?_ ?_); rfl; rfl) | (refine l_len ?_; (refine qaa (qaS rfl) rfl ?_ ?_ ?_); rfl; rfl) | (refine l_gtr ?_; (refine qaa (OpW.gtrT rfl rfl (by omega)) rfl ?_ ?_ ?_); rfl; rfl) | (refine l_lss ?_; (refine qaa (OpW.lssF rfl rfl (by omega)) rfl ?_ ?_ ?_); rfl; rfl) | (refine qaR ?_; (refine qaa (qax rfl rfl rfl) rfl ?_ ?_ ?_); rfl; rfl) | refine qav ?_ | refine SX.exit ?_ | refine qan ?_ | refine SQ.thenExit ?_ | refine SQ.blockExit ?_)
      refine qaU rfl rfl rfl (fun w' hl => ⟨rfl, hl.mod⟩)
    by_cases hi : Lib.itoa (n : Int) = t
    · have e : readDec t = ((n : Int), true) := readDec_of (hit.symm.trans hi) hl (by omega)
      rw [e]
      repeat (first | refine qap ?_ | refine qak ?_ | refine qaf ?_ | refine qab ?_ | refine qaE ?_ | refine qas rfl ?_ | (refine qaA ?_; (refine qaa (qal rfl (fun w hl => hdec _)) rfl ?_ ?_ ?_); rfl; rfl) | (refine qau ?_; (refine qaa (qaj rfl) rfl ?_ ?_ ?_); rfl; rfl) | (refine qai ?_; (refine qaa (qae rfl) rfl ?_ ?_ ?_); rfl; rfl) | (refine l_len ?_; (refine qaa (qaS rfl) rfl ?_ ?_ ?_); rfl; rfl) | (refine l_gtr ?_; (refine qaa (OpW.gtrF rfl rfl (by omega)) rfl ?_ ?_ ?_); rfl; rfl) | (refine l_lss ?_; (refine qaa (OpW.lssF rfl rfl (by omega)) rfl ?_ ?_ ?_); rfl; rfl) | (refine l_neq ?_; (refine qaa (OpW.neqStrF rfl rfl (by first | assumption | with_reducible rfl | decide)) rfl ?_ ?_ ?_); rfl; rfl) | (refine qaR ?_; (refine qaa (qax rfl rfl rfl) rfl ?_ ?_ ?_); rfl; rfl) | refine qav ?_ | refine SX.exit ?_ | refine SQ.thenExit ?_ | refine SQ.blockExit ?_)
      refine qaU rfl rfl rfl (fun w' hl => ⟨rfl, hl.mod⟩)
    · have e : readDec t = (0, false) := readDec_false fun m hm hd _ => by
        have h1 := decFrom_digits m
        rw [hd, hn] at h1
        have h2 := Option.some.inj h1
        subst h2
        exact hi (hit.trans hd)
      rw [e]
      repeat (first | refine qap ?_ | refine qak ?_ | refine qaf ?_ | refine qab ?_ | refine qao rfl ?_ | refine qas rfl ?_ | (refine qaA ?_; (refine qaa (qal rfl (fun w hl => hdec _)) rfl ?_ ?_ ?_); rfl; rfl) | (refine qau ?_; (refine qaa (qaj rfl) rfl ?_ ?_ ?_); rfl; rfl) | (refine qai ?_; (refine qaa (qae rfl) rfl ?_ ?_ ?_); rfl; rfl) | (refine l_len ?_; (refine qaa (qaS rfl) rfl ?_ ?_ ?_); rfl; rfl) | (refine l_gtr ?_; (refine qaa (OpW.gtrF rfl rfl (by omega)) rfl ?_ ?_ ?_); rfl; rfl) | (refine l_lss ?_; (refine qaa (OpW.lssF rfl rfl (by omega)) rfl ?_ ?_ ?_); rfl; rfl) | (refine l_neq ?_; (refine qaa (OpW.neqStrT rfl rfl (by first | assumption | with_reducible rfl | decide)) rfl ?_ ?_ ?_); rfl; rfl) | (refine qaR ?_; (refine qaa (qax rfl rfl rfl) rfl ?_ ?_ ?_); rfl; rfl) | refine qav ?_ | refine SX.exit ?_ | refine qan ?_ | refine SQ.thenExit ?_ | refine SQ.blockExit ?_)
      refine qaU rfl rfl rfl (fun w' hl => ⟨rfl, hl.mod⟩)

theorem atoi_no (t : List UInt8) (hl : t.length ≤ 18) (h : Lib.atoi t = none) (w : World) (hv : Syn w) : Calls Tryz.prog 88 #[.string ⟨t.toArray⟩] w (NewR Nat (fun N => .tuple #[.int .i64 0, .iface 136 (.pointer (some ⟨N, 0, none⟩))]) (fun _ => deadRes) w) := by
  obtain ⟨tp, p, hv⟩ := hv
  exact (Tryz.strconv_Atoi_err_var ⟨t.toArray⟩ (by show t.toArray.size ≤ 18; simpa using hl) h tp p w hv).mono fun e w' ⟨N, he, _, _, hb⟩ => ⟨N, he, ⟨trivial, fun _ f => f.elim⟩, below_kept hb⟩

set_option maxRecDepth 100000 in
set_option maxHeartbeats 4000000 in
theorem readDecimal_any (t : List UInt8) (ht : t.length ≤ 1048576) (w : World) (htab : Tab w) (hsyn : Syn w) : Calls Tryz.prog 52 #[.string ⟨t.toArray⟩] w fun e w' => e = .returned (.tuple #[.int .i64 (readDec t).1, .bool (readDec t).2]) ∧ Mod (fun _ => False) w w' := by
  refine calls_sx Tryz.func52 rfl rfl (fun a h1 h2 h3 => ((Fr.nil h1 h2).arg (h3 0 _ rfl))) ?_
  by_cases hl : t.length ≤ 10
  rotate_left
  · have e : readDec t = (0, false) := readDec_false fun m _ _ h => hl h
    rw [e]
    repeat (first | refine qap ?_ | refine qak ?_ | refine qaf ?_ | refine qab ?_ | refine qao rfl ?_ | (refine qau ?_; (refine qaa (qaj rfl) rfl ?_ ?_ ?_); rfl; rfl) | (refine qai ?_; (refine qaa (qae rfl) rfl ?_ ?_ ?_); rfl; rfl) | (refine l_len ?_; (refine qaa (qaS rfl) rfl ?_ ?_ ?_); rfl; rfl) | (refine l_gtr ?_; (refine qaa (OpW.gtrT rfl rfl (by omega)) rfl ?_ ?_ ?_); rfl; rfl) | (refine l_lss ?_; (refine qaa (OpW.lssF rfl rfl (by omega)) rfl ?_ ?_ ?_); rfl; rfl) | (refine qaR ?_; (refine qaa (qax rfl rfl rfl) rfl ?_ ?_ ?_); rfl; rfl) | refine qav ?_ | refine qan ?_)
    refine qaU rfl rfl rfl (fun w' hl => ⟨rfl, hl.mod⟩)
  by_cases h1 : t.length < 1
  · have e : readDec t = (0, false) := readDec_false fun m _ hm _ => by
      have h2 := decDigits_ne m
      rw [hm] at h2
      cases t with
      | nil => exact h2 rfl
      | cons => simp at h1
    rw [e]
    repeat (first | refine qap ?_ | refine qak ?_ | refine qaf ?_ | refine qab ?_ | refine qao rfl ?_ | (refine SXl.no rfl rfl rfl ?_) | (refine qau ?_; (refine qaa (qaj rfl) rfl ?_ ?_ ?_); rfl; rfl) | (refine qai ?_; (refine qaa (qae rfl) rfl ?_ ?_ ?_); rfl; rfl) | (refine l_len ?_; (refine qaa (qaS rfl) rfl ?_ ?_ ?_); rfl; rfl) | (refine l_lss ?_; (refine qaa (OpW.lssT rfl rfl (by omega)) rfl ?_ ?_ ?_); rfl; rfl) | (refine qaR ?_; (refine qaa (qax rfl rfl rfl) rfl ?_ ?_ ?_); rfl; rfl) | refine qav ?_ | refine qan ?_)
    refine qaU rfl rfl rfl (fun w' hl => ⟨rfl, hl.mod⟩)
  cases ha : Lib.atoi t with
  | none =>
    have e : readDec t = (0, false) := readDec_false fun m _ hm _ => by
      have := atoi_digits m
      rw [hm, ha] at this
      cases this
    rw [e]
    repeat (first | refine qap ?_ | refine qak ?_ | refine qaf ?_ | refine qab ?_ | refine qaE ?_ | refine qao rfl ?_ | refine qas rfl ?_ | (refine SXl.no rfl rfl rfl ?_) | (refine l_neq ?_; (refine qaa ((OpW.neqI1 rfl)) rfl ?_ ?_ ?_); rfl; rfl) | (refine qau ?_; (refine qaa (qaj rfl) rfl ?_ ?_ ?_); rfl; rfl) | (refine qai ?_; (refine qaa (qae rfl) rfl ?_ ?_ ?_); rfl; rfl) | (refine l_len ?_; (refine qaa (qaS rfl) rfl ?_ ?_ ?_); rfl; rfl) | (refine l_gtr ?_; (refine qaa (OpW.gtrF rfl rfl (by omega)) rfl ?_ ?_ ?_); rfl; rfl) | (refine l_lss ?_; (refine qaa (OpW.lssF rfl rfl (by omega)) rfl ?_ ?_ ?_); rfl; rfl) | (refine qaR ?_; (refine qaa (qax rfl rfl rfl) rfl ?_ ?_ ?_); rfl; rfl) | (refine qaP ?_; (refine qaa (OpW.extract rfl rfl) rfl ?_ ?_ ?_); rfl; rfl) | ((refine qaA ?_; refine SXl.calln1 ?_ ?_ rfl (fun w hl => atoi_no t (by omega) ha _ (hsyn.keep hl.mod)) (fun N => ?_); rfl; rfl)) | refine qav ?_ | refine qan ?_)
    refine qaU rfl rfl rfl (fun w' hl => ⟨rfl, hl.mod⟩)
  | some v =>
    have hok := fun w => atoi_ok t v (by omega) ha w
    by_cases h0 : v < 0
    · have e : readDec t = (0, false) := readDec_false fun m _ hm _ => by
        have := atoi_digits m
        rw [hm, ha] at this
        have := Option.some.inj this
        omega
      rw [e]
      repeat (first | refine qap ?_ | refine qak ?_ | refine qaf ?_ | refine qab ?_ | refine qaE ?_ | refine qao rfl ?_ | refine qas rfl ?_ | (refine SXl.no rfl rfl rfl ?_) | (refine qaA ?_; (refine qaa (qal rfl (fun w hl => hok _)) rfl ?_ ?_ ?_); rfl; rfl) | (refine l_neq ?_; (refine qaa ((OpW.neqI0 rfl)) rfl ?_ ?_ ?_); rfl; rfl) | (refine qau ?_; (refine qaa (qaj rfl) rfl ?_ ?_ ?_); rfl; rfl) | (refine qai ?_; (refine qaa (qae rfl) rfl ?_ ?_ ?_); rfl; rfl) | (refine l_len ?_; (refine qaa (qaS rfl) rfl ?_ ?_ ?_); rfl; rfl) | (refine l_gtr ?_; (refine qaa (OpW.gtrF rfl rfl (by omega)) rfl ?_ ?_ ?_); rfl; rfl) | (refine l_lss ?_; (first | refine qaa (OpW.lssT rfl rfl (by omega)) rfl ?_ ?_ ?_ | refine qaa (OpW.lssF rfl rfl (by omega)) rfl ?_ ?_ ?_); rfl; rfl) | (refine qaR ?_; (refine qaa (qax rfl rfl rfl) rfl ?_ ?_ ?_); rfl; rfl) | (refine qaP ?_; (refine qaa (OpW.extract rfl rfl) rfl ?_ ?_ ?_); rfl; rfl) | refine qav ?_ | refine qan ?_)
      refine qaU rfl rfl rfl (fun w' hl => ⟨rfl, hl.mod⟩)
    by_cases h9 : 1000000000 < v
    · have e : readDec t = (0, false) := readDec_false fun m _ hm _ => by
        have := atoi_digits m
        rw [hm, ha] at this
        have := Option.some.inj this
        omega
      rw [e]
      repeat (first | refine qap ?_ | refine qak ?_ | refine qaf ?_ | refine qab ?_ | refine qaE ?_ | refine qao rfl ?_ | refine qas rfl ?_ | (refine SXl.no rfl rfl rfl ?_) | (refine qaA ?_; (refine qaa (qal rfl (fun w hl => hok _)) rfl ?_ ?_ ?_); rfl; rfl) | (refine l_neq ?_; (refine qaa ((OpW.neqI0 rfl)) rfl ?_ ?_ ?_); rfl; rfl) | (refine qau ?_; (refine qaa (qaj rfl) rfl ?_ ?_ ?_); rfl; rfl) | (refine qai ?_; (refine qaa (qae rfl) rfl ?_ ?_ ?_); rfl; rfl) | (refine l_len ?_; (refine qaa (qaS rfl) rfl ?_ ?_ ?_); rfl; rfl) | (refine l_gtr ?_; (first | refine qaa (OpW.gtrT rfl rfl (by omega)) rfl ?_ ?_ ?_ | refine qaa (OpW.gtrF rfl rfl (by omega)) rfl ?_ ?_ ?_); rfl; rfl) | (refine l_lss ?_; (refine qaa (OpW.lssF rfl rfl (by omega)) rfl ?_ ?_ ?_); rfl; rfl) | (refine qaR ?_; (refine qaa (qax rfl rfl rfl) rfl ?_ ?_ ?_); rfl; rfl) | (refine qaP ?_; (refine qaa (OpW.extract rfl rfl) rfl ?_ ?_ ?_); rfl; rfl) | refine qav ?_ | refine qan ?_)
      refine qaU rfl rfl rfl (fun w' hl => ⟨rfl, hl.mod⟩)
    have hdec := fun w h => decimal_any v ⟨by omega, by omega⟩ w h
    by_cases hi : Lib.itoa v = t
    · have e : readDec t = (v, true) := by
        have hv : v = (v.toNat : Int) := by omega
        have := readDec_of (m := v.toNat) (t := t) (by rw [← itoa_nat, ← hv]; exact hi) hl (by omega)
        rw [this, ← hv]
      rw [e]
      repeat (first | refine qap ?_ | refine qak ?_ | refine qaf ?_ | refine qab ?_ | refine qaE ?_ | refine qas rfl ?_ | (refine qaA ?_; (first | refine qaa (qal rfl (fun w hl => hok _)) rfl ?_ ?_ ?_ | refine qaa (qal rfl (fun w hl => hdec _ (htab.keep hl.mod))) rfl ?_ ?_ ?_); rfl; rfl) | (refine l_neq ?_; (first | refine qaa ((OpW.neqI0 rfl)) rfl ?_ ?_ ?_ | refine qaa (OpW.neqStrF rfl rfl (by first | assumption | with_reducible rfl | decide)) rfl ?_ ?_ ?_); rfl; rfl) | (refine qau ?_; (refine qaa (qaj rfl) rfl ?_ ?_ ?_); rfl; rfl) | (refine qai ?_; (refine qaa (qae rfl) rfl ?_ ?_ ?_); rfl; rfl) | (refine l_len ?_; (refine qaa (qaS rfl) rfl ?_ ?_ ?_); rfl; rfl) | (refine l_gtr ?_; (refine qaa (OpW.gtrF rfl rfl (by omega)) rfl ?_ ?_ ?_); rfl; rfl) | (refine l_lss ?_; (refine qaa (OpW.lssF rfl rfl (by omega)) rfl ?_ ?_ ?_); rfl; rfl) | (refine qaR ?_; (refine qaa (qax rfl rfl rfl) rfl ?_ ?_ ?_); rfl; rfl) | (refine qaP ?_; (refine qaa (OpW.extract rfl rfl) rfl ?_ ?_ ?_); rfl; rfl) | refine qav ?_)
      refine qaU rfl rfl rfl (fun w' hl => ⟨rfl, hl.mod⟩)
    · have e : readDec t = (0, false) := readDec_false fun m _ hm _ => by
        have := atoi_digits m
        rw [hm, ha] at this
        have := Option.some.inj this
        subst this
        exact hi ((itoa_nat m).trans hm)
      rw [e]
      repeat (first | refine qap ?_ | refine qak ?_ | refine qaf ?_ | refine qab ?_ | refine qaE ?_ | refine qao rfl ?_ | refine qas rfl ?_ | (refine qaA ?_; (first | refine qaa (qal rfl (fun w hl => hok _)) rfl ?_ ?_ ?_ | refine qaa (qal rfl (fun w hl => hdec _ (htab.keep hl.mod))) rfl ?_ ?_ ?_); rfl; rfl) | (refine l_neq ?_; (first | refine qaa ((OpW.neqI0 rfl)) rfl ?_ ?_ ?_ | refine qaa (OpW.neqStrT rfl rfl (by first | assumption | with_reducible rfl | decide)) rfl ?_ ?_ ?_); rfl; rfl) | (refine qau ?_; (refine qaa (qaj rfl) rfl ?_ ?_ ?_); rfl; rfl) | (refine qai ?_; (refine qaa (qae rfl) rfl ?_ ?_ ?_); rfl; rfl) | (refine l_len ?_; (refine qaa (qaS rfl) rfl ?_ ?_ ?_); rfl; rfl) | (refine l_gtr ?_; (refine qaa (OpW.gtrF rfl rfl (by omega)) rfl ?_ ?_ ?_); rfl; rfl) | (refine l_lss ?_; (refine qaa (OpW.lssF rfl rfl (by omega)) rfl ?_ ?_ ?_); rfl; rfl) | (refine qaR ?_; (refine qaa (qax rfl rfl rfl) rfl ?_ ?_ ?_); rfl; rfl) | (refine qaP ?_; (refine qaa (OpW.extract rfl rfl) rfl ?_ ?_ ?_); rfl; rfl) | refine qav ?_ | refine qan ?_)
      refine qaU rfl rfl rfl (fun w' hl => ⟨rfl, hl.mod⟩)

end Go.Proofs.YtkkjjhooamlljaaGreatDoor
namespace Go.Proofs.YtkkjjhooamlljaaGreatDoor
open Go.RowKit
set_option linter.unusedVariables false
set_option linter.unusedSimpArgs false

set_option maxRecDepth 100000 in
theorem sl26Read_any (t : List UInt8) (ht : t.length ≤ 1048576) (w : World) : Calls Tryz.prog 57 #[.string ⟨t.toArray⟩] w fun e w' => e = .returned (.tuple #[.int .i64 (readInt t).1, .bool (readInt t).2]) ∧ Mod (fun _ => False) w w' := by
  refine calls_sx Tryz.func57 rfl rfl (fun a h1 h2 h3 => ((Fr.nil h1 h2).arg (h3 0 _ rfl))) ?_
  have hd := sreadDecimal_any t ht
  by_cases hl : 1 < t.length
  rotate_left
  · have e : readInt t = readDec t := if_neg fun h => hl h.1
    rw [e]
    repeat (first | refine qap ?_ | refine qak ?_ | refine qaf ?_ | refine qab ?_ | refine qaE ?_ | refine qas rfl ?_ | (refine SXl.no rfl rfl rfl ?_) | (refine qaA ?_; (refine qaa (qal rfl (fun w hl => hd _)) rfl ?_ ?_ ?_); rfl; rfl) | (refine qau ?_; (refine qaa (qaj rfl) rfl ?_ ?_ ?_); rfl; rfl) | (refine qai ?_; (refine qaa (qae rfl) rfl ?_ ?_ ?_); rfl; rfl) | (refine l_len ?_; (refine qaa (qaS rfl) rfl ?_ ?_ ?_); rfl; rfl) | (refine l_gtr ?_; (refine qaa (OpW.gtrF rfl rfl (by omega)) rfl ?_ ?_ ?_); rfl; rfl) | (refine qaR ?_; (refine qaa (qax rfl rfl rfl) rfl ?_ ?_ ?_); rfl; rfl) | (refine qaP ?_; (refine qaa (OpW.extract rfl rfl) rfl ?_ ?_ ?_); rfl; rfl) | refine qav ?_)
    refine qaU rfl rfl rfl (fun w' hl => ⟨rfl, hl.mod⟩)
  obtain ⟨u, hu⟩ : ∃ u, t[0]? = some u := ⟨_, List.getElem?_eq_getElem (by omega)⟩
  by_cases h45 : (u.toNat : Int) = 45
  · have e45 : u = 45 := by
      apply UInt8.toNat_inj.1
      simpa using (by omega : u.toNat = 45)
    subst e45
    have e : readInt t = (-(readDec (t.drop 1)).1, (readDec (t.drop 1)).2 && decide (0 < (readDec (t.drop 1)).1)) := if_pos ⟨hl, hu⟩
    have hd1 := sreadDecimal_any (t.drop 1) (by rw [List.length_drop]; omega)
    rw [e]
    rcases readDec_cases (t.drop 1) with h1 | ⟨m, h1, h2, h3, h4⟩
    · rw [h1] at hd1 ⊢
      repeat (first | refine qap ?_ | refine qak ?_ | refine qaf ?_ | refine qab ?_ | refine qao rfl ?_ | (refine SXl.no rfl rfl rfl ?_) | (refine qaA ?_; (refine qaa (qal rfl (fun w hl => hd1 _)) rfl ?_ ?_ ?_); rfl; rfl) | (refine l_index ?_; (refine qaa ((OpW.indexStr (i := 0) rfl rfl hu)) rfl ?_ ?_ ?_); rfl; rfl) | (refine l_slice ?_; (refine qaa ((OpW.sliceFrom (i := 1) rfl rfl (by omega))) rfl ?_ ?_ ?_); rfl; rfl) | (refine qau ?_; (refine qaa (qaj rfl) rfl ?_ ?_ ?_); rfl; rfl) | (refine qai ?_; (refine qaa (qae rfl) rfl ?_ ?_ ?_); rfl; rfl) | (refine l_len ?_; (refine qaa (qaS rfl) rfl ?_ ?_ ?_); rfl; rfl) | (refine qaK ?_; (refine qaa (qaI rfl rfl (by omega)) rfl ?_ ?_ ?_); rfl; rfl) | (refine l_gtr ?_; (refine qaa (OpW.gtrT rfl rfl (by omega)) rfl ?_ ?_ ?_); rfl; rfl) | (refine l_neg ?_; (refine qaa (OpW.neg rfl) rfl ?_ ?_ ?_); rfl; rfl) | (refine qaR ?_; (refine qaa (qax rfl rfl rfl) rfl ?_ ?_ ?_); rfl; rfl) | (refine qaP ?_; (refine qaa (OpW.extract rfl rfl) rfl ?_ ?_ ?_); rfl; rfl) | refine qav ?_ | refine qan ?_)
      refine qaU rfl rfl rfl (fun w' hl => ⟨rfl, hl.mod⟩)
    · rw [h1] at hd1 ⊢
      have hneg : IntKind.i64.wrap (-(m : Int)) = -(m : Int) := wrap_in (by omega) (by omega)
      repeat (first | refine qap ?_ | refine qak ?_ | refine qaf ?_ | refine qab ?_ | refine qao rfl ?_ | (refine qaA ?_; (refine qaa (qal rfl (fun w hl => hd1 _)) rfl ?_ ?_ ?_); rfl; rfl) | (refine l_index ?_; (refine qaa ((OpW.indexStr (i := 0) rfl rfl hu)) rfl ?_ ?_ ?_); rfl; rfl) | (refine l_slice ?_; (refine qaa ((OpW.sliceFrom (i := 1) rfl rfl (by omega))) rfl ?_ ?_ ?_); rfl; rfl) | (refine qau ?_; (refine qaa (qaj rfl) rfl ?_ ?_ ?_); rfl; rfl) | (refine qai ?_; (refine qaa (qae rfl) rfl ?_ ?_ ?_); rfl; rfl) | (refine l_len ?_; (refine qaa (qaS rfl) rfl ?_ ?_ ?_); rfl; rfl) | (refine qaK ?_; (refine qaa (qaI rfl rfl (by omega)) rfl ?_ ?_ ?_); rfl; rfl) | (refine l_gtr ?_; (first | refine qaa (OpW.gtrT rfl rfl (by omega)) rfl ?_ ?_ ?_ | refine qaa (OpW.gtr rfl rfl) rfl ?_ ?_ ?_); rfl; rfl) | (refine l_neg ?_; (refine qaa (OpW.neg rfl) rfl ?_ ?_ ?_); rfl; rfl) | (refine qaR ?_; (refine qaa (qax rfl rfl rfl) rfl ?_ ?_ ?_); rfl; rfl) | (refine qaP ?_; (refine qaa (OpW.extract rfl rfl) rfl ?_ ?_ ?_); rfl; rfl) | refine qav ?_ | refine qan ?_)
      refine qaU rfl rfl rfl (fun w' hl => ⟨by simp only [hneg]; rfl, hl.mod⟩)
  · have e : readInt t = readDec t := if_neg fun h => by
      rw [hu] at h
      have := Option.some.inj h.2
      subst this
      exact h45 rfl
    rw [e]
    repeat (first | refine qap ?_ | refine qak ?_ | refine qaf ?_ | refine qab ?_ | refine qaE ?_ | refine qas rfl ?_ | (refine qaA ?_; (refine qaa (qal rfl (fun w hl => hd _)) rfl ?_ ?_ ?_); rfl; rfl) | (refine l_index ?_; (refine qaa ((OpW.indexStr (i := 0) rfl rfl hu)) rfl ?_ ?_ ?_); rfl; rfl) | (refine qau ?_; (refine qaa (qaj rfl) rfl ?_ ?_ ?_); rfl; rfl) | (refine qai ?_; (refine qaa (qae rfl) rfl ?_ ?_ ?_); rfl; rfl) | (refine l_len ?_; (refine qaa (qaS rfl) rfl ?_ ?_ ?_); rfl; rfl) | (refine qaK ?_; (refine qaa (qaH rfl rfl (by omega)) rfl ?_ ?_ ?_); rfl; rfl) | (refine l_gtr ?_; (refine qaa (OpW.gtrT rfl rfl (by omega)) rfl ?_ ?_ ?_); rfl; rfl) | (refine qaR ?_; (refine qaa (qax rfl rfl rfl) rfl ?_ ?_ ?_); rfl; rfl) | (refine qaP ?_; (refine qaa (OpW.extract rfl rfl) rfl ?_ ?_ ?_); rfl; rfl) | refine qav ?_)
    refine qaU rfl rfl rfl (fun w' hl => ⟨rfl, hl.mod⟩)

end Go.Proofs.YtkkjjhooamlljaaGreatDoor
namespace Go.Proofs.YtkkjjhooamlljaaGreatDoor
open Go.RowKit
set_option linter.unusedVariables false
set_option linter.unusedSimpArgs false

def readPt (k : Int) (d : List UInt8) : Val × Bool := if (readInt d).2 && valOk ⟨k, (readInt d).1⟩ then (⟨k, (readInt d).1⟩, true) else (⟨0, 0⟩, false)
def readVal (t : List UInt8) : Val × Bool :=
  if t = [110, 111, 110, 101] then (⟨0, 0⟩, true) else if t = [97, 117, 116, 111] then (⟨3, 0⟩, true)
  else if t.getLast? = some 37 then readPt 2 t.dropLast else readPt 1 t
theorem valText_pt {k n : Int} {suf : List UInt8} (hk : (k = 1 ∧ suf = []) ∨ (k = 2 ∧ suf = [37])) : valText ⟨k, n⟩ = if valOk ⟨k, n⟩ then Lib.itoa n ++ suf else [63] := by
  rcases hk with ⟨rfl, rfl⟩ | ⟨rfl, rfl⟩ <;> simp [valText]
def readPt2 (k : Int) (suf d : List UInt8) : Val × Bool :=
  if (readDec (Lib.trimPrefix d [45])).2 = true ∧ valText ⟨k, if Lib.hasPrefix d [45] then -(readDec (Lib.trimPrefix d [45])).1 else (readDec (Lib.trimPrefix d [45])).1⟩ = d ++ suf then (⟨k, if Lib.hasPrefix d [45] then -(readDec (Lib.trimPrefix d [45])).1 else (readDec (Lib.trimPrefix d [45])).1⟩, true) else (⟨0, 0⟩, false)
theorem readDec_45 : (readDec [45]).2 = false := by
  rcases readDec_cases [45] with h1 | ⟨m, h1, _, h3, _⟩
  · rw [h1]
  · have := digits_head m h3
    revert this; decide
theorem readPt_eq (k : Int) (suf d : List UInt8) (hk : (k = 1 ∧ suf = []) ∨ (k = 2 ∧ suf = [37])) : readPt2 k suf d = readPt k d := by
  unfold readPt2 readPt
  have hpre : ∀ (b : UInt8) (r : List UInt8), Lib.hasPrefix (b :: r) [45] = (45 == b) := fun b r => by
    unfold Lib.hasPrefix
    simp [List.isPrefixOf]
  cases d with
  | nil =>
    have e1 : Lib.hasPrefix [] [45] = false := rfl
    have e2 : Lib.trimPrefix [] [45] = [] := rfl
    have e3 : readDec [] = (0, false) := rfl
    have e4 : readInt [] = (0, false) := rfl
    rw [e1, e2, e3, e4]
    simp
  | cons b r =>
    by_cases hb : b = 45
    · subst hb
      have e1 : Lib.hasPrefix (45 :: r) [45] = true := by rw [hpre]; rfl
      have e2 : Lib.trimPrefix (45 :: r) [45] = r := by unfold Lib.trimPrefix; rw [e1]; rfl
      rw [e1, e2]
      rcases readDec_cases r with h1 | ⟨m, h1, h2, h3, h4⟩
      · rw [h1]
        have e5 : (readInt (45 :: r)).2 = false := by
          unfold readInt
          split
          · simp [h1]
          · rename_i hc
            have hr : r = [] := by
              cases r with
              | nil => rfl
              | cons => exact (hc ⟨by simp, rfl⟩).elim
            subst hr
            exact readDec_45
        rw [e5]
        simp
      · have hne : r ≠ [] := by rw [← h3]; exact decDigits_ne m
        have hl : 1 < (45 :: r).length := by
          cases r with
          | nil => exact (hne rfl).elim
          | cons => simp
        have e5 : readInt (45 :: r) = (-(m : Int), decide (0 < (m : Int))) := by
          unfold readInt
          rw [if_pos ⟨hl, rfl⟩]
          simp [h1]
        rw [h1, e5]
        simp only [if_true, valText_pt hk]
        by_cases hm : m = 0
        · subst hm
          have e0 : Lib.itoa (-((0 : Nat) : Int)) = [48] := by
            show Lib.itoa ((0 : Nat) : Int) = [48]
            rw [itoa_nat, Lib.decDigits]; rfl
          have : ¬ ((if valOk ⟨k, -((0 : Nat) : Int)⟩ = true then Lib.itoa (-((0 : Nat) : Int)) ++ suf else [63]) = 45 :: r ++ suf) := by
            rw [e0]
            split <;> simp
          rw [if_neg fun hc => this hc.2]
          simp
        · have e0 : Lib.itoa (-(m : Int)) = 45 :: r := by rw [Lib.itoa_neg m (by omega), h3]
          rw [e0]
          cases hv : valOk ⟨k, -(m : Int)⟩
          · simp
          · simp; omega
    · have e1 : Lib.hasPrefix (b :: r) [45] = false := by
        rw [hpre, beq_eq_false_iff_ne]
        exact fun e => hb e.symm
      have e2 : Lib.trimPrefix (b :: r) [45] = b :: r := by unfold Lib.trimPrefix; rw [e1]; rfl
      have e3 : readInt (b :: r) = readDec (b :: r) := by
        unfold readInt
        rw [if_neg fun hc => hb (by simpa using hc.2)]
      rw [e1, e2, e3]
      rcases readDec_cases (b :: r) with h1 | ⟨m, h1, h2, h3, h4⟩
      · rw [h1]; simp
      · rw [h1]
        have hd := digits_head m h3
        simp only [Bool.false_eq_true, if_false, valText_pt hk, itoa_nat, h3]
        cases hv : valOk ⟨k, (m : Int)⟩
        · have hne : b ≠ 63 := by rintro rfl; exact absurd hd (by decide)
          simp
          intro e
          exact absurd e.symm hne
        · simp
/-- The program's way. -/
theorem readVal_two {t : List UInt8} (h1 : t ≠ [110, 111, 110, 101]) (h2 : t ≠ [97, 117, 116, 111]) : readVal t = if Lib.hasSuffix t [37] then readPt2 2 [37] (Lib.trimSuffix t [37]) else readPt2 1 [] (Lib.trimSuffix t [37]) := by
  unfold readVal
  rw [if_neg h1, if_neg h2]
  have key : Lib.hasSuffix t [37] = true ↔ t.getLast? = some 37 := by
    unfold Lib.hasSuffix
    rw [List.isSuffixOf_iff_suffix]
    constructor
    · rintro ⟨s, rfl⟩; simp
    · intro h
      obtain ⟨s, rfl⟩ := List.getLast?_eq_some_iff.1 h
      exact ⟨s, rfl⟩
  cases hs : Lib.hasSuffix t [37]
  · have : ¬ t.getLast? = some 37 := fun h => by rw [key.2 h] at hs; cases hs
    rw [if_neg this, if_neg (by decide), readPt_eq 1 [] _ (.inl ⟨rfl, rfl⟩)]
    unfold Lib.trimSuffix
    rw [hs]; rfl
  · have h := key.1 hs
    rw [if_pos h, if_pos rfl, readPt_eq 2 [37] _ (.inr ⟨rfl, rfl⟩)]
    unfold Lib.trimSuffix
    rw [hs]
    simp [List.dropLast_eq_take]

/-! ### The walks -/
set_option maxRecDepth 100000 in
set_option maxHeartbeats 4000000 in
theorem sreadValue_any (t : List UInt8) (ht : t.length ≤ 1048576) (w : World) : Calls Tryz.prog 26 #[.string ⟨t.toArray⟩] w fun e w' => e = .returned (.tuple #[.agg (readVal t).1.cells.toArray, .bool (readVal t).2]) ∧ Mod (fun _ => False) w w' := by
  refine calls_sx Tryz.func26 rfl rfl (fun a h1 h2 h3 => ((Fr.nil h1 h2).arg (h3 0 _ rfl))) ?_
  by_cases k1 : t = [110, 111, 110, 101]
  · have e : readVal t = (⟨0, 0⟩, true) := if_pos k1
    rw [e]
    subst k1
    repeat (first | refine qap ?_ | refine qak ?_ | refine qaf ?_ | refine qab ?_ | refine SX.block ?_ | refine qao rfl ?_ | (refine qaO ?_; (refine qaa ((qaz (vals := []) (cells := Val.cells ⟨0, 0⟩) rfl (by kernel_rfl))) rfl ?_ ?_ ?_); rfl; rfl) | (refine qaF ?_; (refine qaa (qaq 0 rfl rfl rfl) rfl ?_ ?_ ?_); rfl; rfl) | (refine qau ?_; (refine qaa (qaj rfl) rfl ?_ ?_ ?_); rfl; rfl) | (refine qai ?_; (refine qaa (qae rfl) rfl ?_ ?_ ?_); rfl; rfl) | (refine qaK ?_; (refine qaa (qaB rfl rfl (by first | assumption | with_reducible rfl | decide)) rfl ?_ ?_ ?_); rfl; rfl) | (refine qaT ?_; refine SXl.alloc ?_ ?_ (fun g => ?_); rfl; rfl) | (refine qaD ?_; first | ((first | refine qah 0 ?_ rfl rfl rfl rfl rfl rfl ?_ | refine qah 1 ?_ rfl rfl rfl rfl rfl rfl ?_ | refine qah 2 ?_ rfl rfl rfl rfl rfl rfl ?_); rfl; simp only [List.set_cons_zero, List.set_cons_succ]) | ((first | refine qad 0 ?_ rfl rfl rfl rfl rfl rfl rfl ?_ | refine qad 1 ?_ rfl rfl rfl rfl rfl rfl rfl ?_ | refine qad 2 ?_ rfl rfl rfl rfl rfl rfl rfl ?_); rfl; simp only [List.set_cons_zero, List.set_cons_succ]) | ((first | refine qac 0 ?_ rfl rfl rfl rfl rfl rfl rfl ?_ | refine qac 1 ?_ rfl rfl rfl rfl rfl rfl rfl ?_ | refine qac 2 ?_ rfl rfl rfl rfl rfl rfl rfl ?_); rfl; simp only [over, List.set_cons_zero, List.set_cons_succ])) | refine qav ?_ | refine qan ?_ | refine qaw ?_)
    refine qaL 1 rfl rfl rfl rfl rfl (fun w' hl => ⟨rfl, hl.mod⟩)
  by_cases k2 : t = [97, 117, 116, 111]
  · have e : readVal t = (⟨3, 0⟩, true) := (if_neg k1).trans (if_pos k2)
    rw [e]
    subst k2
    repeat (first | refine qap ?_ | refine qak ?_ | refine qaf ?_ | refine qab ?_ | refine SX.block ?_ | refine qao rfl ?_ | refine qas rfl ?_ | (refine qaO ?_; (first | refine qaa ((qaz (vals := []) (cells := Val.cells ⟨0, 0⟩) rfl (by kernel_rfl))) rfl ?_ ?_ ?_ | refine qaa ((qaz (vals := [(0, .int .i64 3)]) (cells := Val.cells ⟨3, 0⟩) rfl (by kernel_rfl))) rfl ?_ ?_ ?_); rfl; rfl) | (refine qau ?_; (refine qaa (qaj rfl) rfl ?_ ?_ ?_); rfl; rfl) | (refine qai ?_; (refine qaa (qae rfl) rfl ?_ ?_ ?_); rfl; rfl) | (refine qaK ?_; (first | refine qaa (qaB rfl rfl (by first | assumption | with_reducible rfl | decide)) rfl ?_ ?_ ?_ | refine qaa (qay rfl rfl (by first | assumption | with_reducible rfl | decide)) rfl ?_ ?_ ?_); rfl; rfl) | (refine qaT ?_; refine SXl.alloc ?_ ?_ (fun g => ?_); rfl; rfl) | (refine qaD ?_; first | ((first | refine qah 0 ?_ rfl rfl rfl rfl rfl rfl ?_ | refine qah 1 ?_ rfl rfl rfl rfl rfl rfl ?_ | refine qah 2 ?_ rfl rfl rfl rfl rfl rfl ?_); rfl; simp only [List.set_cons_zero, List.set_cons_succ]) | ((first | refine qad 0 ?_ rfl rfl rfl rfl rfl rfl rfl ?_ | refine qad 1 ?_ rfl rfl rfl rfl rfl rfl rfl ?_ | refine qad 2 ?_ rfl rfl rfl rfl rfl rfl rfl ?_); rfl; simp only [List.set_cons_zero, List.set_cons_succ]) | ((first | refine qac 0 ?_ rfl rfl rfl rfl rfl rfl rfl ?_ | refine qac 1 ?_ rfl rfl rfl rfl rfl rfl rfl ?_ | refine qac 2 ?_ rfl rfl rfl rfl rfl rfl rfl ?_); rfl; simp only [over, List.set_cons_zero, List.set_cons_succ])) | refine qav ?_ | refine qan ?_ | refine qaw ?_)
    refine qaL 1 rfl rfl rfl rfl rfl (fun w' hl => ⟨rfl, hl.mod⟩)
  by_cases k3 : t.getLast? = some 37
  · have e : readVal t = readPt 2 t.dropLast := (if_neg k1).trans ((if_neg k2).trans (if_pos k3))
    rw [e]
    have hlen : 0 < t.length := by
      cases t with
      | nil => cases k3
      | cons => simp
    have hu : t[t.length - 1]? = some 37 := by rw [← List.getLast?_eq_getElem?]; exact k3
    have hdl : t.take (t.length - 1) = t.dropLast := (List.dropLast_eq_take ..).symm
    have hr := sl26Read_any t.dropLast (by rw [List.length_dropLast]; omega)
    obtain ⟨n, b, hnb⟩ : ∃ n b, readInt t.dropLast = (n, b) := ⟨_, _, rfl⟩
    unfold readPt
    rw [hnb] at hr ⊢
    simp only at hr ⊢
    rw [← hdl] at hr
    cases b
    · repeat (first | refine qap ?_ | refine qak ?_ | refine qaf ?_ | refine qab ?_ | refine SX.block ?_ | refine qao rfl ?_ | refine qas rfl ?_ | (refine SXl.no rfl rfl rfl ?_) | (refine qaO ?_; (refine qaa ((qaz (vals := []) (cells := Val.cells ⟨0, 0⟩) rfl (by kernel_rfl))) rfl ?_ ?_ ?_); rfl; rfl) | (refine l_index ?_; (refine qaa ((OpW.indexStr (i := t.length - 1) rfl (congrArg (fun i : Int => some (Value.int .i64 i)) (by omega : (t.length : Int) - 1 = ((t.length - 1 : Nat) : Int))) hu)) rfl ?_ ?_ ?_); rfl; rfl) | (refine l_slice ?_; (refine qaa ((OpW.sliceTo (i := t.length - 1) rfl (congrArg (fun i : Int => some (Value.int .i64 i)) (by omega : (t.length : Int) - 1 = ((t.length - 1 : Nat) : Int))) (by omega))) rfl ?_ ?_ ?_); rfl; rfl) | (refine qaA ?_; (refine qaa (qal rfl (fun w hl => hr _)) rfl ?_ ?_ ?_); rfl; rfl) | (refine qam ?_; (refine qaa (qag rfl) rfl ?_ ?_ ?_); rfl; rfl) | (refine qau ?_; (refine qaa (qaj rfl) rfl ?_ ?_ ?_); rfl; rfl) | (refine qai ?_; (refine qaa (qae rfl) rfl ?_ ?_ ?_); rfl; rfl) | (refine l_len ?_; (refine qaa (qaS rfl) rfl ?_ ?_ ?_); rfl; rfl) | (refine qaK ?_; (first | refine qaa (OpW.eql rfl rfl) rfl ?_ ?_ ?_ | refine qaa (qay rfl rfl (by first | assumption | with_reducible rfl | decide)) rfl ?_ ?_ ?_); rfl; rfl) | (refine l_gtr ?_; (refine qaa (OpW.gtrT rfl rfl (by omega)) rfl ?_ ?_ ?_); rfl; rfl) | (refine l_not ?_; (refine qaa (OpW.not rfl) rfl ?_ ?_ ?_); rfl; rfl) | (refine l_sub ?_; (refine qaa (OpW.subi rfl rfl (by omega) (by omega)) rfl ?_ ?_ ?_); rfl; rfl) | (refine qaR ?_; (refine qaa (qax rfl rfl rfl) rfl ?_ ?_ ?_); rfl; rfl) | (refine qaP ?_; (refine qaa (OpW.extract rfl rfl) rfl ?_ ?_ ?_); rfl; rfl) | (refine qaT ?_; refine SXl.alloc ?_ ?_ (fun g => ?_); rfl; rfl) | (refine qaD ?_; first | ((first | refine qah 0 ?_ rfl rfl rfl rfl rfl rfl ?_ | refine qah 1 ?_ rfl rfl rfl rfl rfl rfl ?_ | refine qah 2 ?_ rfl rfl rfl rfl rfl rfl ?_); rfl; simp only [List.set_cons_zero, List.set_cons_succ]) | ((first | refine qad 0 ?_ rfl rfl rfl rfl rfl rfl rfl ?_ | refine qad 1 ?_ rfl rfl rfl rfl rfl rfl rfl ?_ | refine qad 2 ?_ rfl rfl rfl rfl rfl rfl rfl ?_); rfl; simp only [List.set_cons_zero, List.set_cons_succ]) | ((first | refine qac 0 ?_ rfl rfl rfl rfl rfl rfl rfl ?_ | refine qac 1 ?_ rfl rfl rfl rfl rfl rfl rfl ?_ | refine qac 2 ?_ rfl rfl rfl rfl rfl rfl rfl ?_); rfl; simp only [over, List.set_cons_zero, List.set_cons_succ])) | refine qav ?_ | refine qan ?_ | refine qar ?_)
      refine qaL 1 rfl rfl rfl rfl rfl (fun w' hl => ⟨rfl, hl.mod⟩)
    · cases hv : valOk ⟨2, n⟩
      · repeat (first | refine qap ?_ | refine qak ?_ | refine qaf ?_ | refine qab ?_ | refine SX.block ?_ | refine qao rfl ?_ | refine qas rfl ?_ | (refine qaO ?_; (refine qaa ((qaz (vals := []) (cells := Val.cells ⟨0, 0⟩) rfl (by kernel_rfl))) rfl ?_ ?_ ?_); rfl; rfl) | (refine l_index ?_; (refine qaa ((OpW.indexStr (i := t.length - 1) rfl (congrArg (fun i : Int => some (Value.int .i64 i)) (by omega : (t.length : Int) - 1 = ((t.length - 1 : Nat) : Int))) hu)) rfl ?_ ?_ ?_); rfl; rfl) | (refine l_slice ?_; (refine qaa ((OpW.sliceTo (i := t.length - 1) rfl (congrArg (fun i : Int => some (Value.int .i64 i)) (by omega : (t.length : Int) - 1 = ((t.length - 1 : Nat) : Int))) (by omega))) rfl ?_ ?_ ?_); rfl; rfl) | (refine qaA ?_; (first | refine qaa (qal rfl (fun w hl => hr _)) rfl ?_ ?_ ?_ | refine qaa (qal rfl (fun w hl => svalueOk_any ⟨2, n⟩ _)) rfl ?_ ?_ ?_); rfl; rfl) | (refine qaF ?_; (refine qaa (qaq 0 rfl rfl rfl) rfl ?_ ?_ ?_); rfl; rfl) | (refine qam ?_; (refine qaa (qag rfl) rfl ?_ ?_ ?_); rfl; rfl) | (refine qau ?_; (refine qaa (qaj rfl) rfl ?_ ?_ ?_); rfl; rfl) | (refine qai ?_; (refine qaa (qae rfl) rfl ?_ ?_ ?_); rfl; rfl) | (refine l_len ?_; (refine qaa (qaS rfl) rfl ?_ ?_ ?_); rfl; rfl) | (refine qaK ?_; (first | refine qaa (OpW.eql rfl rfl) rfl ?_ ?_ ?_ | refine qaa (qay rfl rfl (by first | assumption | with_reducible rfl | decide)) rfl ?_ ?_ ?_); rfl; rfl) | (refine l_gtr ?_; (refine qaa (OpW.gtrT rfl rfl (by omega)) rfl ?_ ?_ ?_); rfl; rfl) | (refine l_not ?_; (refine qaa (OpW.not rfl) rfl ?_ ?_ ?_); rfl; rfl) | (refine l_sub ?_; (refine qaa (OpW.subi rfl rfl (by omega) (by omega)) rfl ?_ ?_ ?_); rfl; rfl) | (refine qaR ?_; (refine qaa (qax rfl rfl rfl) rfl ?_ ?_ ?_); rfl; rfl) | (refine qaP ?_; (refine qaa (OpW.extract rfl rfl) rfl ?_ ?_ ?_); rfl; rfl) | (refine qaT ?_; refine SXl.alloc ?_ ?_ (fun g => ?_); rfl; rfl) | (refine qaD ?_; first | ((first | refine qah 0 ?_ rfl rfl rfl rfl rfl rfl ?_ | refine qah 1 ?_ rfl rfl rfl rfl rfl rfl ?_ | refine qah 2 ?_ rfl rfl rfl rfl rfl rfl ?_); rfl; simp only [List.set_cons_zero, List.set_cons_succ]) | ((first | refine qad 0 ?_ rfl rfl rfl rfl rfl rfl rfl ?_ | refine qad 1 ?_ rfl rfl rfl rfl rfl rfl rfl ?_ | refine qad 2 ?_ rfl rfl rfl rfl rfl rfl rfl ?_); rfl; simp only [List.set_cons_zero, List.set_cons_succ]) | ((first | refine qac 0 ?_ rfl rfl rfl rfl rfl rfl rfl ?_ | refine qac 1 ?_ rfl rfl rfl rfl rfl rfl rfl ?_ | refine qac 2 ?_ rfl rfl rfl rfl rfl rfl rfl ?_); rfl; simp only [over, List.set_cons_zero, List.set_cons_succ])) | (rw [hv]) | refine qav ?_ | refine qan ?_ | refine qar ?_)
        refine qaL 1 rfl rfl rfl rfl rfl (fun w' hl => ⟨rfl, hl.mod⟩)
      · repeat (first | refine qap ?_ | refine qak ?_ | refine qaf ?_ | refine qab ?_ | refine SX.block ?_ | refine qaE ?_ | refine qao rfl ?_ | refine qas rfl ?_ | (refine qaO ?_; (refine qaa ((qaz (vals := []) (cells := Val.cells ⟨0, 0⟩) rfl (by kernel_rfl))) rfl ?_ ?_ ?_); rfl; rfl) | (refine l_index ?_; (refine qaa ((OpW.indexStr (i := t.length - 1) rfl (congrArg (fun i : Int => some (Value.int .i64 i)) (by omega : (t.length : Int) - 1 = ((t.length - 1 : Nat) : Int))) hu)) rfl ?_ ?_ ?_); rfl; rfl) | (refine l_slice ?_; (refine qaa ((OpW.sliceTo (i := t.length - 1) rfl (congrArg (fun i : Int => some (Value.int .i64 i)) (by omega : (t.length : Int) - 1 = ((t.length - 1 : Nat) : Int))) (by omega))) rfl ?_ ?_ ?_); rfl; rfl) | (refine qaA ?_; (first | refine qaa (qal rfl (fun w hl => hr _)) rfl ?_ ?_ ?_ | refine qaa (qal rfl (fun w hl => svalueOk_any ⟨2, n⟩ _)) rfl ?_ ?_ ?_); rfl; rfl) | (refine qaF ?_; (refine qaa (qaq 0 rfl rfl rfl) rfl ?_ ?_ ?_); rfl; rfl) | (refine qam ?_; (refine qaa (qag rfl) rfl ?_ ?_ ?_); rfl; rfl) | (refine qau ?_; (refine qaa (qaj rfl) rfl ?_ ?_ ?_); rfl; rfl) | (refine qai ?_; (refine qaa (qae rfl) rfl ?_ ?_ ?_); rfl; rfl) | (refine l_len ?_; (refine qaa (qaS rfl) rfl ?_ ?_ ?_); rfl; rfl) | (refine qaK ?_; (first | refine qaa (OpW.eql rfl rfl) rfl ?_ ?_ ?_ | refine qaa (qay rfl rfl (by first | assumption | with_reducible rfl | decide)) rfl ?_ ?_ ?_); rfl; rfl) | (refine l_gtr ?_; (refine qaa (OpW.gtrT rfl rfl (by omega)) rfl ?_ ?_ ?_); rfl; rfl) | (refine l_not ?_; (refine qaa (OpW.not rfl) rfl ?_ ?_ ?_); rfl; rfl) | (refine l_sub ?_; (refine qaa (OpW.subi rfl rfl (by omega) (by omega)) rfl ?_ ?_ ?_); rfl; rfl) | (refine qaR ?_; (refine qaa (qax rfl rfl rfl) rfl ?_ ?_ ?_); rfl; rfl) | (refine qaP ?_; (refine qaa (OpW.extract rfl rfl) rfl ?_ ?_ ?_); rfl; rfl) | (refine qaT ?_; refine SXl.alloc ?_ ?_ (fun g => ?_); rfl; rfl) | (refine qaD ?_; first | ((first | refine qah 0 ?_ rfl rfl rfl rfl rfl rfl ?_ | refine qah 1 ?_ rfl rfl rfl rfl rfl rfl ?_ | refine qah 2 ?_ rfl rfl rfl rfl rfl rfl ?_); rfl; simp only [List.set_cons_zero, List.set_cons_succ]) | ((first | refine qad 0 ?_ rfl rfl rfl rfl rfl rfl rfl ?_ | refine qad 1 ?_ rfl rfl rfl rfl rfl rfl rfl ?_ | refine qad 2 ?_ rfl rfl rfl rfl rfl rfl rfl ?_); rfl; simp only [List.set_cons_zero, List.set_cons_succ]) | ((first | refine qac 0 ?_ rfl rfl rfl rfl rfl rfl rfl ?_ | refine qac 1 ?_ rfl rfl rfl rfl rfl rfl rfl ?_ | refine qac 2 ?_ rfl rfl rfl rfl rfl rfl rfl ?_); rfl; simp only [over, List.set_cons_zero, List.set_cons_succ])) | (rw [hv]) | refine qav ?_ | refine qar ?_)
        refine qaL 1 rfl rfl rfl rfl rfl (fun w' hl => ⟨rfl, hl.mod⟩)
  · have e : readVal t = readPt 1 t := (if_neg k1).trans ((if_neg k2).trans (if_neg k3))
    rw [e]
    have hr := sl26Read_any t ht
    obtain ⟨n, b, hnb⟩ : ∃ n b, readInt t = (n, b) := ⟨_, _, rfl⟩
    unfold readPt
    rw [hnb] at hr ⊢
    simp only at hr ⊢
    by_cases h0 : t.length = 0
    · cases b
      · repeat (first | refine qap ?_ | refine qak ?_ | refine qaf ?_ | refine qab ?_ | refine SX.block ?_ | refine qao rfl ?_ | refine qas rfl ?_ | (refine SXl.no rfl rfl rfl ?_) | (refine qaO ?_; (refine qaa ((qaz (vals := []) (cells := Val.cells ⟨0, 0⟩) rfl (by kernel_rfl))) rfl ?_ ?_ ?_); rfl; rfl) | (refine qaA ?_; (refine qaa (qal rfl (fun w hl => hr _)) rfl ?_ ?_ ?_); rfl; rfl) | (refine qam ?_; (refine qaa (qag rfl) rfl ?_ ?_ ?_); rfl; rfl) | (refine qau ?_; (refine qaa (qaj rfl) rfl ?_ ?_ ?_); rfl; rfl) | (refine qai ?_; (refine qaa (qae rfl) rfl ?_ ?_ ?_); rfl; rfl) | (refine l_len ?_; (refine qaa (qaS rfl) rfl ?_ ?_ ?_); rfl; rfl) | (refine qaK ?_; (refine qaa (qay rfl rfl (by first | assumption | with_reducible rfl | decide)) rfl ?_ ?_ ?_); rfl; rfl) | (refine l_gtr ?_; (refine qaa (OpW.gtrF rfl rfl (by omega)) rfl ?_ ?_ ?_); rfl; rfl) | (refine l_not ?_; (refine qaa (OpW.not rfl) rfl ?_ ?_ ?_); rfl; rfl) | (refine qaR ?_; (refine qaa (qax rfl rfl rfl) rfl ?_ ?_ ?_); rfl; rfl) | (refine qaP ?_; (refine qaa (OpW.extract rfl rfl) rfl ?_ ?_ ?_); rfl; rfl) | (refine qaT ?_; refine SXl.alloc ?_ ?_ (fun g => ?_); rfl; rfl) | (refine qaD ?_; first | ((first | refine qah 0 ?_ rfl rfl rfl rfl rfl rfl ?_ | refine qah 1 ?_ rfl rfl rfl rfl rfl rfl ?_ | refine qah 2 ?_ rfl rfl rfl rfl rfl rfl ?_); rfl; simp only [List.set_cons_zero, List.set_cons_succ]) | ((first | refine qad 0 ?_ rfl rfl rfl rfl rfl rfl rfl ?_ | refine qad 1 ?_ rfl rfl rfl rfl rfl rfl rfl ?_ | refine qad 2 ?_ rfl rfl rfl rfl rfl rfl rfl ?_); rfl; simp only [List.set_cons_zero, List.set_cons_succ]) | ((first | refine qac 0 ?_ rfl rfl rfl rfl rfl rfl rfl ?_ | refine qac 1 ?_ rfl rfl rfl rfl rfl rfl rfl ?_ | refine qac 2 ?_ rfl rfl rfl rfl rfl rfl rfl ?_); rfl; simp only [over, List.set_cons_zero, List.set_cons_succ])) | refine qav ?_ | refine qan ?_ | refine qar ?_)
        refine qaL 1 rfl rfl rfl rfl rfl (fun w' hl => ⟨rfl, hl.mod⟩)
      · cases hv : valOk ⟨1, n⟩
        · repeat (first | refine qap ?_ | refine qak ?_ | refine qaf ?_ | refine qab ?_ | refine SX.block ?_ | refine qao rfl ?_ | refine qas rfl ?_ | (refine SXl.no rfl rfl rfl ?_) | (refine qaO ?_; (refine qaa ((qaz (vals := []) (cells := Val.cells ⟨0, 0⟩) rfl (by kernel_rfl))) rfl ?_ ?_ ?_); rfl; rfl) | (refine qaA ?_; (first | refine qaa (qal rfl (fun w hl => hr _)) rfl ?_ ?_ ?_ | refine qaa (qal rfl (fun w hl => svalueOk_any ⟨1, n⟩ _)) rfl ?_ ?_ ?_); rfl; rfl) | (refine qaF ?_; (refine qaa (qaq 0 rfl rfl rfl) rfl ?_ ?_ ?_); rfl; rfl) | (refine qam ?_; (refine qaa (qag rfl) rfl ?_ ?_ ?_); rfl; rfl) | (refine qau ?_; (refine qaa (qaj rfl) rfl ?_ ?_ ?_); rfl; rfl) | (refine qai ?_; (refine qaa (qae rfl) rfl ?_ ?_ ?_); rfl; rfl) | (refine l_len ?_; (refine qaa (qaS rfl) rfl ?_ ?_ ?_); rfl; rfl) | (refine qaK ?_; (refine qaa (qay rfl rfl (by first | assumption | with_reducible rfl | decide)) rfl ?_ ?_ ?_); rfl; rfl) | (refine l_gtr ?_; (refine qaa (OpW.gtrF rfl rfl (by omega)) rfl ?_ ?_ ?_); rfl; rfl) | (refine l_not ?_; (refine qaa (OpW.not rfl) rfl ?_ ?_ ?_); rfl; rfl) | (refine qaR ?_; (refine qaa (qax rfl rfl rfl) rfl ?_ ?_ ?_); rfl; rfl) | (refine qaP ?_; (refine qaa (OpW.extract rfl rfl) rfl ?_ ?_ ?_); rfl; rfl) | (refine qaT ?_; refine SXl.alloc ?_ ?_ (fun g => ?_); rfl; rfl) | (refine qaD ?_; first | ((first | refine qah 0 ?_ rfl rfl rfl rfl rfl rfl ?_ | refine qah 1 ?_ rfl rfl rfl rfl rfl rfl ?_ | refine qah 2 ?_ rfl rfl rfl rfl rfl rfl ?_); rfl; simp only [List.set_cons_zero, List.set_cons_succ]) | ((first | refine qad 0 ?_ rfl rfl rfl rfl rfl rfl rfl ?_ | refine qad 1 ?_ rfl rfl rfl rfl rfl rfl rfl ?_ | refine qad 2 ?_ rfl rfl rfl rfl rfl rfl rfl ?_); rfl; simp only [List.set_cons_zero, List.set_cons_succ]) | ((first | refine qac 0 ?_ rfl rfl rfl rfl rfl rfl rfl ?_ | refine qac 1 ?_ rfl rfl rfl rfl rfl rfl rfl ?_ | refine qac 2 ?_ rfl rfl rfl rfl rfl rfl rfl ?_); rfl; simp only [over, List.set_cons_zero, List.set_cons_succ])) | (rw [hv]) | refine qav ?_ | refine qan ?_ | refine qar ?_)
          refine qaL 1 rfl rfl rfl rfl rfl (fun w' hl => ⟨rfl, hl.mod⟩)
        · repeat (first | refine qap ?_ | refine qak ?_ | refine qaf ?_ | refine qab ?_ | refine SX.block ?_ | refine qaE ?_ | refine qas rfl ?_ | (refine SXl.no rfl rfl rfl ?_) | (refine qaO ?_; (refine qaa ((qaz (vals := []) (cells := Val.cells ⟨0, 0⟩) rfl (by kernel_rfl))) rfl ?_ ?_ ?_); rfl; rfl) | (refine qaA ?_; (first | refine qaa (qal rfl (fun w hl => hr _)) rfl ?_ ?_ ?_ | refine qaa (qal rfl (fun w hl => svalueOk_any ⟨1, n⟩ _)) rfl ?_ ?_ ?_); rfl; rfl) | (refine qaF ?_; (refine qaa (qaq 0 rfl rfl rfl) rfl ?_ ?_ ?_); rfl; rfl) | (refine qam ?_; (refine qaa (qag rfl) rfl ?_ ?_ ?_); rfl; rfl) | (refine qau ?_; (refine qaa (qaj rfl) rfl ?_ ?_ ?_); rfl; rfl) | (refine qai ?_; (refine qaa (qae rfl) rfl ?_ ?_ ?_); rfl; rfl) | (refine l_len ?_; (refine qaa (qaS rfl) rfl ?_ ?_ ?_); rfl; rfl) | (refine qaK ?_; (refine qaa (qay rfl rfl (by first | assumption | with_reducible rfl | decide)) rfl ?_ ?_ ?_); rfl; rfl) | (refine l_gtr ?_; (refine qaa (OpW.gtrF rfl rfl (by omega)) rfl ?_ ?_ ?_); rfl; rfl) | (refine l_not ?_; (refine qaa (OpW.not rfl) rfl ?_ ?_ ?_); rfl; rfl) | (refine qaR ?_; (refine qaa (qax rfl rfl rfl) rfl ?_ ?_ ?_); rfl; rfl) | (refine qaP ?_; (refine qaa (OpW.extract rfl rfl) rfl ?_ ?_ ?_); rfl; rfl) | (refine qaT ?_; refine SXl.alloc ?_ ?_ (fun g => ?_); rfl; rfl) | (refine qaD ?_; first | ((first | refine qah 0 ?_ rfl rfl rfl rfl rfl rfl ?_ | refine qah 1 ?_ rfl rfl rfl rfl rfl rfl ?_ | refine qah 2 ?_ rfl rfl rfl rfl rfl rfl ?_); rfl; simp only [List.set_cons_zero, List.set_cons_succ]) | ((first | refine qad 0 ?_ rfl rfl rfl rfl rfl rfl rfl ?_ | refine qad 1 ?_ rfl rfl rfl rfl rfl rfl rfl ?_ | refine qad 2 ?_ rfl rfl rfl rfl rfl rfl rfl ?_); rfl; simp only [List.set_cons_zero, List.set_cons_succ]) | ((first | refine qac 0 ?_ rfl rfl rfl rfl rfl rfl rfl ?_ | refine qac 1 ?_ rfl rfl rfl rfl rfl rfl rfl ?_ | refine qac 2 ?_ rfl rfl rfl rfl rfl rfl rfl ?_); rfl; simp only [over, List.set_cons_zero, List.set_cons_succ])) | (rw [hv]) | refine qav ?_ | refine qar ?_)
          refine qaL 1 rfl rfl rfl rfl rfl (fun w' hl => ⟨rfl, hl.mod⟩)
    obtain ⟨u, hu⟩ : ∃ u, t[t.length - 1]? = some u := ⟨_, List.getElem?_eq_getElem (by omega)⟩
    have h37 : ¬ (u.toNat : Int) = 37 := fun hc => by
      have e37 : u = 37 := by
        apply UInt8.toNat_inj.1
        simpa using (by omega : u.toNat = 37)
      subst e37
      exact k3 (by rw [List.getLast?_eq_getElem?]; exact hu)
    cases b
    · repeat (first | refine qap ?_ | refine qak ?_ | refine qaf ?_ | refine qab ?_ | refine SX.block ?_ | refine qao rfl ?_ | refine qas rfl ?_ | (refine SXl.no rfl rfl rfl ?_) | (refine qaO ?_; (refine qaa ((qaz (vals := []) (cells := Val.cells ⟨0, 0⟩) rfl (by kernel_rfl))) rfl ?_ ?_ ?_); rfl; rfl) | (refine l_index ?_; (refine qaa ((OpW.indexStr (i := t.length - 1) rfl (congrArg (fun i : Int => some (Value.int .i64 i)) (by omega : (t.length : Int) - 1 = ((t.length - 1 : Nat) : Int))) hu)) rfl ?_ ?_ ?_); rfl; rfl) | (refine qaA ?_; (refine qaa (qal rfl (fun w hl => hr _)) rfl ?_ ?_ ?_); rfl; rfl) | (refine qam ?_; (refine qaa (qag rfl) rfl ?_ ?_ ?_); rfl; rfl) | (refine qau ?_; (refine qaa (qaj rfl) rfl ?_ ?_ ?_); rfl; rfl) | (refine qai ?_; (refine qaa (qae rfl) rfl ?_ ?_ ?_); rfl; rfl) | (refine l_len ?_; (refine qaa (qaS rfl) rfl ?_ ?_ ?_); rfl; rfl) | (refine qaK ?_; (first | refine qaa (qaH rfl rfl (by omega)) rfl ?_ ?_ ?_ | refine qaa (qay rfl rfl (by first | assumption | with_reducible rfl | decide)) rfl ?_ ?_ ?_); rfl; rfl) | (refine l_gtr ?_; (refine qaa (OpW.gtrT rfl rfl (by omega)) rfl ?_ ?_ ?_); rfl; rfl) | (refine l_not ?_; (refine qaa (OpW.not rfl) rfl ?_ ?_ ?_); rfl; rfl) | (refine l_sub ?_; (refine qaa (OpW.subi rfl rfl (by omega) (by omega)) rfl ?_ ?_ ?_); rfl; rfl) | (refine qaR ?_; (refine qaa (qax rfl rfl rfl) rfl ?_ ?_ ?_); rfl; rfl) | (refine qaP ?_; (refine qaa (OpW.extract rfl rfl) rfl ?_ ?_ ?_); rfl; rfl) | (refine qaT ?_; refine SXl.alloc ?_ ?_ (fun g => ?_); rfl; rfl) | (refine qaD ?_; first | ((first | refine qah 0 ?_ rfl rfl rfl rfl rfl rfl ?_ | refine qah 1 ?_ rfl rfl rfl rfl rfl rfl ?_ | refine qah 2 ?_ rfl rfl rfl rfl rfl rfl ?_); rfl; simp only [List.set_cons_zero, List.set_cons_succ]) | ((first | refine qad 0 ?_ rfl rfl rfl rfl rfl rfl rfl ?_ | refine qad 1 ?_ rfl rfl rfl rfl rfl rfl rfl ?_ | refine qad 2 ?_ rfl rfl rfl rfl rfl rfl rfl ?_); rfl; simp only [List.set_cons_zero, List.set_cons_succ]) | ((first | refine qac 0 ?_ rfl rfl rfl rfl rfl rfl rfl ?_ | refine qac 1 ?_ rfl rfl rfl rfl rfl rfl rfl ?_ | refine qac 2 ?_ rfl rfl rfl rfl rfl rfl rfl ?_); rfl; simp only [over, List.set_cons_zero, List.set_cons_succ])) | refine qav ?_ | refine qan ?_ | refine qar ?_)
      refine qaL 1 rfl rfl rfl rfl rfl (fun w' hl => ⟨rfl, hl.mod⟩)
    · cases hv : valOk ⟨1, n⟩
      · repeat (first | refine qap ?_ | refine qak ?_ | refine qaf ?_ | refine qab ?_ | refine SX.block ?_ | refine qao rfl ?_ | refine qas rfl ?_ | (refine qaO ?_; (refine qaa ((qaz (vals := []) (cells := Val.cells ⟨0, 0⟩) rfl (by kernel_rfl))) rfl ?_ ?_ ?_); rfl; rfl) | (refine l_index ?_; (refine qaa ((OpW.indexStr (i := t.length - 1) rfl (congrArg (fun i : Int => some (Value.int .i64 i)) (by omega : (t.length : Int) - 1 = ((t.length - 1 : Nat) : Int))) hu)) rfl ?_ ?_ ?_); rfl; rfl) | (refine qaA ?_; (first | refine qaa (qal rfl (fun w hl => hr _)) rfl ?_ ?_ ?_ | refine qaa (qal rfl (fun w hl => svalueOk_any ⟨1, n⟩ _)) rfl ?_ ?_ ?_); rfl; rfl) | (refine qaF ?_; (refine qaa (qaq 0 rfl rfl rfl) rfl ?_ ?_ ?_); rfl; rfl) | (refine qam ?_; (refine qaa (qag rfl) rfl ?_ ?_ ?_); rfl; rfl) | (refine qau ?_; (refine qaa (qaj rfl) rfl ?_ ?_ ?_); rfl; rfl) | (refine qai ?_; (refine qaa (qae rfl) rfl ?_ ?_ ?_); rfl; rfl) | (refine l_len ?_; (refine qaa (qaS rfl) rfl ?_ ?_ ?_); rfl; rfl) | (refine qaK ?_; (first | refine qaa (qaH rfl rfl (by omega)) rfl ?_ ?_ ?_ | refine qaa (qay rfl rfl (by first | assumption | with_reducible rfl | decide)) rfl ?_ ?_ ?_); rfl; rfl) | (refine l_gtr ?_; (refine qaa (OpW.gtrT rfl rfl (by omega)) rfl ?_ ?_ ?_); rfl; rfl) | (refine l_not ?_; (refine qaa (OpW.not rfl) rfl ?_ ?_ ?_); rfl; rfl) | (refine l_sub ?_; (refine qaa (OpW.subi rfl rfl (by omega) (by omega)) rfl ?_ ?_ ?_); rfl; rfl) | (refine qaR ?_; (refine qaa (qax rfl rfl rfl) rfl ?_ ?_ ?_); rfl; rfl) | (refine qaP ?_; (refine qaa (OpW.extract rfl rfl) rfl ?_ ?_ ?_); rfl; rfl) | (refine qaT ?_; refine SXl.alloc ?_ ?_ (fun g => ?_); rfl; rfl) | (refine qaD ?_; first | ((first | refine qah 0 ?_ rfl rfl rfl rfl rfl rfl ?_ | refine qah 1 ?_ rfl rfl rfl rfl rfl rfl ?_ | refine qah 2 ?_ rfl rfl rfl rfl rfl rfl ?_); rfl; simp only [List.set_cons_zero, List.set_cons_succ]) | ((first | refine qad 0 ?_ rfl rfl rfl rfl rfl rfl rfl ?_ | refine qad 1 ?_ rfl rfl rfl rfl rfl rfl rfl ?_ | refine qad 2 ?_ rfl rfl rfl rfl rfl rfl rfl ?_); rfl; simp only [List.set_cons_zero, List.set_cons_succ]) | ((first | refine qac 0 ?_ rfl rfl rfl rfl rfl rfl rfl ?_ | refine qac 1 ?_ rfl rfl rfl rfl rfl rfl rfl ?_ | refine qac 2 ?_ rfl rfl rfl rfl rfl rfl rfl ?_); rfl; simp only [over, List.set_cons_zero, List.set_cons_succ])) | (rw [hv]) | refine qav ?_ | refine qan ?_ | refine qar ?_)
        refine qaL 1 rfl rfl rfl rfl rfl (fun w' hl => ⟨rfl, hl.mod⟩)
      · repeat (first | refine qap ?_ | refine qak ?_ | refine qaf ?_ | refine qab ?_ | refine SX.block ?_ | refine qaE ?_ | refine qas rfl ?_ | (refine qaO ?_; (refine qaa ((qaz (vals := []) (cells := Val.cells ⟨0, 0⟩) rfl (by kernel_rfl))) rfl ?_ ?_ ?_); rfl; rfl) | (refine l_index ?_; (refine qaa ((OpW.indexStr (i := t.length - 1) rfl (congrArg (fun i : Int => some (Value.int .i64 i)) (by omega : (t.length : Int) - 1 = ((t.length - 1 : Nat) : Int))) hu)) rfl ?_ ?_ ?_); rfl; rfl) | (refine qaA ?_; (first | refine qaa (qal rfl (fun w hl => hr _)) rfl ?_ ?_ ?_ | refine qaa (qal rfl (fun w hl => svalueOk_any ⟨1, n⟩ _)) rfl ?_ ?_ ?_); rfl; rfl) | (refine qaF ?_; (refine qaa (qaq 0 rfl rfl rfl) rfl ?_ ?_ ?_); rfl; rfl) | (refine qam ?_; (refine qaa (qag rfl) rfl ?_ ?_ ?_); rfl; rfl) | (refine qau ?_; (refine qaa (qaj rfl) rfl ?_ ?_ ?_); rfl; rfl) | (refine qai ?_; (refine qaa (qae rfl) rfl ?_ ?_ ?_); rfl; rfl) | (refine l_len ?_; (refine qaa (qaS rfl) rfl ?_ ?_ ?_); rfl; rfl) | (refine qaK ?_; (first | refine qaa (qaH rfl rfl (by omega)) rfl ?_ ?_ ?_ | refine qaa (qay rfl rfl (by first | assumption | with_reducible rfl | decide)) rfl ?_ ?_ ?_); rfl; rfl) | (refine l_gtr ?_; (refine qaa (OpW.gtrT rfl rfl (by omega)) rfl ?_ ?_ ?_); rfl; rfl) | (refine l_not ?_; (refine qaa (OpW.not rfl) rfl ?_ ?_ ?_); rfl; rfl) | (refine l_sub ?_; (refine qaa (OpW.subi rfl rfl (by omega) (by omega)) rfl ?_ ?_ ?_); rfl; rfl) | (refine qaR ?_; (refine qaa (qax rfl rfl rfl) rfl ?_ ?_ ?_); rfl; rfl) | (refine qaP ?_; (refine qaa (OpW.extract rfl rfl) rfl ?_ ?_ ?_); rfl; rfl) | (refine qaT ?_; refine SXl.alloc ?_ ?_ (fun g => ?_); rfl; rfl) | (refine qaD ?_; first | ((first | refine qah 0 ?_ rfl rfl rfl rfl rfl rfl ?_ | refine qah 1 ?_ rfl rfl rfl rfl rfl rfl ?_ | refine qah 2 ?_ rfl rfl rfl rfl rfl rfl ?_); rfl; simp only [List.set_cons_zero, List.set_cons_succ]) | ((first | refine qad 0 ?_ rfl rfl rfl rfl rfl rfl rfl ?_ | refine qad 1 ?_ rfl rfl rfl rfl rfl rfl rfl ?_ | refine qad 2 ?_ rfl rfl rfl rfl rfl rfl rfl ?_); rfl; simp only [List.set_cons_zero, List.set_cons_succ]) | ((first | refine qac 0 ?_ rfl rfl rfl rfl rfl rfl rfl ?_ | refine qac 1 ?_ rfl rfl rfl rfl rfl rfl rfl ?_ | refine qac 2 ?_ rfl rfl rfl rfl rfl rfl rfl ?_); rfl; simp only [over, List.set_cons_zero, List.set_cons_succ])) | (rw [hv]) | refine qav ?_ | refine qar ?_)
        refine qaL 1 rfl rfl rfl rfl rfl (fun w' hl => ⟨rfl, hl.mod⟩)

theorem readPt2_no {k : Int} {suf d : List UInt8} (h : readDec (Lib.trimPrefix d [45]) = (0, false)) : readPt2 k suf d = (⟨0, 0⟩, false) := by
  unfold readPt2
  rw [if_neg fun hc => by rw [h] at hc; cases hc.1]
theorem readPt2_ok {k m n : Int} {suf d t : List UInt8} (h : readDec (Lib.trimPrefix d [45]) = (m, true)) (hn : (if Lib.hasPrefix d [45] then -m else m) = n) (ht : d ++ suf = t) : readPt2 k suf d = if valText ⟨k, n⟩ = t then (⟨k, n⟩, true) else (⟨0, 0⟩, false) := by
  unfold readPt2
  rw [h]
  simp only [hn, ht, true_and]
theorem trimSuffix_app {t : List UInt8} (h : Lib.hasSuffix t [37] = true) : Lib.trimSuffix t [37] ++ [37] = t := by
  have h' := h
  unfold Lib.hasSuffix at h
  rw [List.isSuffixOf_iff_suffix] at h
  obtain ⟨s, rfl⟩ := h
  unfold Lib.trimSuffix
  rw [h']
  simp
theorem trimSuffix_same {t : List UInt8} (h : Lib.hasSuffix t [37] = false) : Lib.trimSuffix t [37] ++ [] = t := by
  unfold Lib.trimSuffix
  rw [h]
  simp
theorem cutSuffix_any (t p : List UInt8) (ht : t.length ≤ 1048576) (w : World) : Calls Tryz.prog 95 #[.string ⟨t.toArray⟩, .string ⟨p.toArray⟩] w fun e w' => e = .returned (.tuple #[.string ⟨(Lib.trimSuffix t p).toArray⟩, .bool (Lib.hasSuffix t p)]) ∧ Mod (fun _ => False) w w' :=
  (Tryz.strings_CutSuffix ⟨t.toArray⟩ ⟨p.toArray⟩ w (by show t.toArray.size ≤ _; simp; omega)).mono fun e w' ⟨he, hw⟩ => ⟨he, hw ▸ Mod.refl _ _⟩
theorem cutPrefix_any (t p : List UInt8) (w : World) : Calls Tryz.prog 96 #[.string ⟨t.toArray⟩, .string ⟨p.toArray⟩] w fun e w' => e = .returned (.tuple #[.string ⟨(Lib.trimPrefix t p).toArray⟩, .bool (Lib.hasPrefix t p)]) ∧ Mod (fun _ => False) w w' :=
  (Tryz.strings_CutPrefix ⟨t.toArray⟩ ⟨p.toArray⟩ w).mono fun e w' ⟨he, hw⟩ => ⟨he, hw ▸ Mod.refl _ _⟩
theorem trimSuffix_le (t p : List UInt8) : (Lib.trimSuffix t p).length ≤ t.length := by
  unfold Lib.trimSuffix; split
  · rw [List.length_take]; omega
  · exact Nat.le_refl _
theorem trimPrefix_le (t p : List UInt8) : (Lib.trimPrefix t p).length ≤ t.length := by
  unfold Lib.trimPrefix; split
  · rw [List.length_drop]; omega
  · exact Nat.le_refl _
section
variable {P : Program} {n : Nat} {W : World} {R : Rg W} {L : List Blk} {O : List Own} {E : List Res} {f : List (Nat × Value)} {d : Option Nat} {x : Operand} {ty T : TypeId} {pos : String} {af : Array Edge} {gd : Option (Nat × Bool)}
end

set_option maxRecDepth 100000 in
set_option maxHeartbeats 8000000 in
theorem readValue_any (t : List UInt8) (ht : t.length ≤ 1048576) (w : World) (htab : Tab w) (hsyn : Syn w) : Calls Tryz.prog 72 #[.string ⟨t.toArray⟩] w fun e w' => e = .returned (.tuple #[.agg (readVal t).1.cells.toArray, .bool (readVal t).2]) ∧ Mod (fun _ => False) w w' := by
  refine calls_sx Tryz.func72 rfl rfl (fun a h1 h2 h3 => ((Fr.nil h1 h2).arg (h3 0 _ rfl))) ?_
  by_cases k1 : t = [110, 111, 110, 101]
  · have e : readVal t = (⟨0, 0⟩, true) := if_pos k1
    rw [e]
    subst k1
    repeat (first | refine qap ?_ | refine qak ?_ | refine qaf ?_ | refine qab ?_ | refine SX.block ?_ | refine qao rfl ?_ | (refine qaO ?_; (refine qaa ((qaz (vals := []) (cells := Val.cells ⟨0, 0⟩) rfl (by kernel_rfl))) rfl ?_ ?_ ?_); rfl; rfl) | (refine qau ?_; (refine qaa (qaj rfl) rfl ?_ ?_ ?_); rfl; rfl) | (refine qai ?_; (refine qaa (qae rfl) rfl ?_ ?_ ?_); rfl; rfl) | (refine qaK ?_; (refine qaa (qaB rfl rfl (by first | assumption | with_reducible rfl | decide)) rfl ?_ ?_ ?_); rfl; rfl) | (refine qaT ?_; refine SXl.alloc ?_ ?_ (fun g => ?_); rfl; rfl) | (refine qaD ?_; first | ((first | refine qah 0 ?_ rfl rfl rfl rfl rfl rfl ?_ | refine qah 1 ?_ rfl rfl rfl rfl rfl rfl ?_ | refine qah 2 ?_ rfl rfl rfl rfl rfl rfl ?_); rfl; simp only [List.set_cons_zero, List.set_cons_succ]) | ((first | refine qad 0 ?_ rfl rfl rfl rfl rfl rfl rfl ?_ | refine qad 1 ?_ rfl rfl rfl rfl rfl rfl rfl ?_ | refine qad 2 ?_ rfl rfl rfl rfl rfl rfl rfl ?_); rfl; simp only [List.set_cons_zero, List.set_cons_succ]) | ((first | refine qac 0 ?_ rfl rfl rfl rfl rfl rfl rfl ?_ | refine qac 1 ?_ rfl rfl rfl rfl rfl rfl rfl ?_ | refine qac 2 ?_ rfl rfl rfl rfl rfl rfl rfl ?_); rfl; simp only [over, List.set_cons_zero, List.set_cons_succ])) | refine qav ?_ | refine qan ?_ | refine qaw ?_)
    refine qaL 0 rfl rfl rfl rfl rfl (fun w' hl => ⟨rfl, hl.mod⟩)
  by_cases k2 : t = [97, 117, 116, 111]
  · have e : readVal t = (⟨3, 0⟩, true) := (if_neg k1).trans (if_pos k2)
    rw [e]
    subst k2
    repeat (first | refine qap ?_ | refine qak ?_ | refine qaf ?_ | refine qab ?_ | refine SX.block ?_ | refine qao rfl ?_ | refine qas rfl ?_ | (refine qaO ?_; (refine qaa ((qaz (vals := [(0, .int .i64 3)]) (cells := Val.cells ⟨3, 0⟩) rfl (by kernel_rfl))) rfl ?_ ?_ ?_); rfl; rfl) | (refine qau ?_; (refine qaa (qaj rfl) rfl ?_ ?_ ?_); rfl; rfl) | (refine qai ?_; (refine qaa (qae rfl) rfl ?_ ?_ ?_); rfl; rfl) | (refine qaK ?_; (first | refine qaa (qaB rfl rfl (by first | assumption | with_reducible rfl | decide)) rfl ?_ ?_ ?_ | refine qaa (qay rfl rfl (by first | assumption | with_reducible rfl | decide)) rfl ?_ ?_ ?_); rfl; rfl) | (refine qaT ?_; refine SXl.alloc ?_ ?_ (fun g => ?_); rfl; rfl) | (refine qaD ?_; first | ((first | refine qah 0 ?_ rfl rfl rfl rfl rfl rfl ?_ | refine qah 1 ?_ rfl rfl rfl rfl rfl rfl ?_ | refine qah 2 ?_ rfl rfl rfl rfl rfl rfl ?_); rfl; simp only [List.set_cons_zero, List.set_cons_succ]) | ((first | refine qad 0 ?_ rfl rfl rfl rfl rfl rfl rfl ?_ | refine qad 1 ?_ rfl rfl rfl rfl rfl rfl rfl ?_ | refine qad 2 ?_ rfl rfl rfl rfl rfl rfl rfl ?_); rfl; simp only [List.set_cons_zero, List.set_cons_succ]) | ((first | refine qac 0 ?_ rfl rfl rfl rfl rfl rfl rfl ?_ | refine qac 1 ?_ rfl rfl rfl rfl rfl rfl rfl ?_ | refine qac 2 ?_ rfl rfl rfl rfl rfl rfl rfl ?_); rfl; simp only [over, List.set_cons_zero, List.set_cons_succ])) | refine qav ?_ | refine qan ?_ | refine qaw ?_)
    refine qaL 0 rfl rfl rfl rfl rfl (fun w' hl => ⟨rfl, hl.mod⟩)
  have e2 := readVal_two k1 k2
  have hcs := cutSuffix_any t [37] ht
  have hdl := trimSuffix_le t [37]
  have hdl2 := trimPrefix_le (Lib.trimSuffix t [37]) [45]
  have hcp := cutPrefix_any (Lib.trimSuffix t [37]) [45]
  have hrd := fun w h h' => readDecimal_any (Lib.trimPrefix (Lib.trimSuffix t [37]) [45]) (by omega) w h h'
  cases hs : Lib.hasSuffix t [37]
  · rw [hs] at hcs e2
    have happ := trimSuffix_same hs
    rw [if_neg (by decide)] at e2
    generalize Lib.trimSuffix t [37] = d at hcs hcp hrd hdl hdl2 happ e2
    cases hp : Lib.hasPrefix d [45]
    · rw [hp] at hcp
      rcases readDec_cases (Lib.trimPrefix d [45]) with h1 | ⟨m, h1, h2, h3, h4⟩
      · rw [readPt2_no h1] at e2
        rw [h1] at hrd
        rw [e2]
        repeat (first | refine qap ?_ | refine qak ?_ | refine qaf ?_ | refine qab ?_ | refine SX.block ?_ | refine qaE ?_ | refine qao rfl ?_ | refine qas rfl ?_ | (refine SXl.no rfl rfl rfl ?_) | (refine qaO ?_; (first | refine qaa ((qaz (vals := []) (cells := Val.cells ⟨0, 0⟩) rfl (by kernel_rfl))) rfl ?_ ?_ ?_ | refine qaa ((qaz (vals := [(0, .int .i64 1)]) (cells := Val.cells ⟨1, 0⟩) rfl (by kernel_rfl))) rfl ?_ ?_ ?_); rfl; rfl) | (refine qaA ?_; (first | refine qaa (qal rfl (fun w hl => hcs _)) rfl ?_ ?_ ?_ | refine qaa (qal rfl (fun w hl => hcp _)) rfl ?_ ?_ ?_ | refine qaa (qal rfl (fun w hl => hrd _ (htab.keep hl.mod) (hsyn.keep hl.mod))) rfl ?_ ?_ ?_); rfl; rfl) | (refine qam ?_; (refine qaa (qag rfl) rfl ?_ ?_ ?_); rfl; rfl) | (refine qau ?_; (refine qaa (qaj rfl) rfl ?_ ?_ ?_); rfl; rfl) | (refine qai ?_; (refine qaa (qae rfl) rfl ?_ ?_ ?_); rfl; rfl) | (refine qaK ?_; (refine qaa (qay rfl rfl (by first | assumption | with_reducible rfl | decide)) rfl ?_ ?_ ?_); rfl; rfl) | (refine l_not ?_; (refine qaa (OpW.not rfl) rfl ?_ ?_ ?_); rfl; rfl) | (refine qaR ?_; (refine qaa (qax rfl rfl rfl) rfl ?_ ?_ ?_); rfl; rfl) | (refine qaP ?_; (refine qaa (OpW.extract rfl rfl) rfl ?_ ?_ ?_); rfl; rfl) | (refine qaT ?_; refine SXl.alloc ?_ ?_ (fun g => ?_); rfl; rfl) | (refine qaD ?_; first | ((first | refine qah 0 ?_ rfl rfl rfl rfl rfl rfl ?_ | refine qah 1 ?_ rfl rfl rfl rfl rfl rfl ?_ | refine qah 2 ?_ rfl rfl rfl rfl rfl rfl ?_); rfl; simp only [List.set_cons_zero, List.set_cons_succ]) | ((first | refine qad 0 ?_ rfl rfl rfl rfl rfl rfl rfl ?_ | refine qad 1 ?_ rfl rfl rfl rfl rfl rfl rfl ?_ | refine qad 2 ?_ rfl rfl rfl rfl rfl rfl rfl ?_); rfl; simp only [List.set_cons_zero, List.set_cons_succ]) | ((first | refine qac 0 ?_ rfl rfl rfl rfl rfl rfl rfl ?_ | refine qac 1 ?_ rfl rfl rfl rfl rfl rfl rfl ?_ | refine qac 2 ?_ rfl rfl rfl rfl rfl rfl rfl ?_); rfl; simp only [over, List.set_cons_zero, List.set_cons_succ])) | refine qav ?_ | refine qan ?_ | refine qar ?_)
        refine qaL 1 rfl rfl rfl rfl rfl (fun w' hl => ⟨rfl, hl.mod⟩)
      · have hn : (if Lib.hasPrefix d [45] then -(m : Int) else (m : Int)) = (m : Int) := by rw [hp]; rfl
        rw [readPt2_ok h1 hn happ] at e2
        rw [h1] at hrd
        have hvt := fun w h => valueText_any ⟨1, (m : Int)⟩ ⟨by show _ ≤ (m : Int); omega, by show (m : Int) ≤ _; omega⟩ w h
        by_cases hv : valText ⟨1, (m : Int)⟩ = t
        · rw [if_pos hv] at e2
          rw [e2]
          repeat (first | refine qap ?_ | refine qak ?_ | refine qaf ?_ | refine qab ?_ | refine SX.block ?_ | refine qaE ?_ | refine qas rfl ?_ | (refine qaO ?_; (refine qaa ((qaz (vals := [(0, .int .i64 1)]) (cells := Val.cells ⟨1, 0⟩) rfl (by kernel_rfl))) rfl ?_ ?_ ?_); rfl; rfl) | (refine qaA ?_; (first | refine qaa (qal rfl (fun w hl => hcs _)) rfl ?_ ?_ ?_ | refine qaa (qal rfl (fun w hl => hcp _)) rfl ?_ ?_ ?_ | refine qaa (qal rfl (fun w hl => hrd _ (htab.keep hl.mod) (hsyn.keep hl.mod))) rfl ?_ ?_ ?_ | refine qaa (qal rfl (fun w hl => hvt _ (htab.keep hl.mod))) rfl ?_ ?_ ?_); rfl; rfl) | (refine qaF ?_; (refine qaa (qaq 0 rfl rfl rfl) rfl ?_ ?_ ?_); rfl; rfl) | (refine qam ?_; (refine qaa (qag rfl) rfl ?_ ?_ ?_); rfl; rfl) | (refine qau ?_; (refine qaa (qaj rfl) rfl ?_ ?_ ?_); rfl; rfl) | (refine qai ?_; (refine qaa (qae rfl) rfl ?_ ?_ ?_); rfl; rfl) | (refine qaK ?_; (refine qaa (qay rfl rfl (by first | assumption | with_reducible rfl | decide)) rfl ?_ ?_ ?_); rfl; rfl) | (refine l_neq ?_; (refine qaa (OpW.neqStrF rfl rfl (by first | assumption | with_reducible rfl | decide)) rfl ?_ ?_ ?_); rfl; rfl) | (refine l_not ?_; (refine qaa (OpW.not rfl) rfl ?_ ?_ ?_); rfl; rfl) | (refine qaR ?_; (refine qaa (qax rfl rfl rfl) rfl ?_ ?_ ?_); rfl; rfl) | (refine qaP ?_; (refine qaa (OpW.extract rfl rfl) rfl ?_ ?_ ?_); rfl; rfl) | (refine qaT ?_; refine SXl.alloc ?_ ?_ (fun g => ?_); rfl; rfl) | (refine qaD ?_; first | ((first | refine qah 0 ?_ rfl rfl rfl rfl rfl rfl ?_ | refine qah 1 ?_ rfl rfl rfl rfl rfl rfl ?_ | refine qah 2 ?_ rfl rfl rfl rfl rfl rfl ?_); rfl; simp only [List.set_cons_zero, List.set_cons_succ]) | ((first | refine qad 0 ?_ rfl rfl rfl rfl rfl rfl rfl ?_ | refine qad 1 ?_ rfl rfl rfl rfl rfl rfl rfl ?_ | refine qad 2 ?_ rfl rfl rfl rfl rfl rfl rfl ?_); rfl; simp only [List.set_cons_zero, List.set_cons_succ]) | ((first | refine qac 0 ?_ rfl rfl rfl rfl rfl rfl rfl ?_ | refine qac 1 ?_ rfl rfl rfl rfl rfl rfl rfl ?_ | refine qac 2 ?_ rfl rfl rfl rfl rfl rfl rfl ?_); rfl; simp only [over, List.set_cons_zero, List.set_cons_succ])) | refine qav ?_ | refine qar ?_)
          refine qaL 1 rfl rfl rfl rfl rfl (fun w' hl => ⟨rfl, hl.mod⟩)
        · rw [if_neg hv] at e2
          rw [e2]
          repeat (first | refine qap ?_ | refine qak ?_ | refine qaf ?_ | refine qab ?_ | refine SX.block ?_ | refine qaE ?_ | refine qao rfl ?_ | refine qas rfl ?_ | (refine qaO ?_; (first | refine qaa ((qaz (vals := []) (cells := Val.cells ⟨0, 0⟩) rfl (by kernel_rfl))) rfl ?_ ?_ ?_ | refine qaa ((qaz (vals := [(0, .int .i64 1)]) (cells := Val.cells ⟨1, 0⟩) rfl (by kernel_rfl))) rfl ?_ ?_ ?_); rfl; rfl) | (refine qaA ?_; (first | refine qaa (qal rfl (fun w hl => hcs _)) rfl ?_ ?_ ?_ | refine qaa (qal rfl (fun w hl => hcp _)) rfl ?_ ?_ ?_ | refine qaa (qal rfl (fun w hl => hrd _ (htab.keep hl.mod) (hsyn.keep hl.mod))) rfl ?_ ?_ ?_ | refine qaa (qal rfl (fun w hl => hvt _ (htab.keep hl.mod))) rfl ?_ ?_ ?_); rfl; rfl) | (refine qaF ?_; (refine qaa (qaq 0 rfl rfl rfl) rfl ?_ ?_ ?_); rfl; rfl) | (refine qam ?_; (refine qaa (qag rfl) rfl ?_ ?_ ?_); rfl; rfl) | (refine qau ?_; (refine qaa (qaj rfl) rfl ?_ ?_ ?_); rfl; rfl) | (refine qai ?_; (refine qaa (qae rfl) rfl ?_ ?_ ?_); rfl; rfl) | (refine qaK ?_; (refine qaa (qay rfl rfl (by first | assumption | with_reducible rfl | decide)) rfl ?_ ?_ ?_); rfl; rfl) | (refine l_neq ?_; (refine qaa (OpW.neqStrT rfl rfl (by first | assumption | with_reducible rfl | decide)) rfl ?_ ?_ ?_); rfl; rfl) | (refine l_not ?_; (refine qaa (OpW.not rfl) rfl ?_ ?_ ?_); rfl; rfl) | (refine qaR ?_; (refine qaa (qax rfl rfl rfl) rfl ?_ ?_ ?_); rfl; rfl) | (refine qaP ?_; (refine qaa (OpW.extract rfl rfl) rfl ?_ ?_ ?_); rfl; rfl) | (refine qaT ?_; refine SXl.alloc ?_ ?_ (fun g => ?_); rfl; rfl) | (refine qaD ?_; first | ((first | refine qah 0 ?_ rfl rfl rfl rfl rfl rfl ?_ | refine qah 1 ?_ rfl rfl rfl rfl rfl rfl ?_ | refine qah 2 ?_ rfl rfl rfl rfl rfl rfl ?_); rfl; simp only [List.set_cons_zero, List.set_cons_succ]) | ((first | refine qad 0 ?_ rfl rfl rfl rfl rfl rfl rfl ?_ | refine qad 1 ?_ rfl rfl rfl rfl rfl rfl rfl ?_ | refine qad 2 ?_ rfl rfl rfl rfl rfl rfl rfl ?_); rfl; simp only [List.set_cons_zero, List.set_cons_succ]) | ((first | refine qac 0 ?_ rfl rfl rfl rfl rfl rfl rfl ?_ | refine qac 1 ?_ rfl rfl rfl rfl rfl rfl rfl ?_ | refine qac 2 ?_ rfl rfl rfl rfl rfl rfl rfl ?_); rfl; simp only [over, List.set_cons_zero, List.set_cons_succ])) | refine qav ?_ | refine qan ?_ | refine qar ?_)
          refine qaL 1 rfl rfl rfl rfl rfl (fun w' hl => ⟨rfl, hl.mod⟩)
    · rw [hp] at hcp
      rcases readDec_cases (Lib.trimPrefix d [45]) with h1 | ⟨m, h1, h2, h3, h4⟩
      · rw [readPt2_no h1] at e2
        rw [h1] at hrd
        rw [e2]
        repeat (first | refine qap ?_ | refine qak ?_ | refine qaf ?_ | refine qab ?_ | refine SX.block ?_ | refine qaE ?_ | refine qao rfl ?_ | refine qas rfl ?_ | (refine SXl.no rfl rfl rfl ?_) | (refine qaO ?_; (first | refine qaa ((qaz (vals := []) (cells := Val.cells ⟨0, 0⟩) rfl (by kernel_rfl))) rfl ?_ ?_ ?_ | refine qaa ((qaz (vals := [(0, .int .i64 1)]) (cells := Val.cells ⟨1, 0⟩) rfl (by kernel_rfl))) rfl ?_ ?_ ?_); rfl; rfl) | (refine qaA ?_; (first | refine qaa (qal rfl (fun w hl => hcs _)) rfl ?_ ?_ ?_ | refine qaa (qal rfl (fun w hl => hcp _)) rfl ?_ ?_ ?_ | refine qaa (qal rfl (fun w hl => hrd _ (htab.keep hl.mod) (hsyn.keep hl.mod))) rfl ?_ ?_ ?_); rfl; rfl) | (refine l_neg ?_; (refine qaa ((OpW.negi rfl (by omega) (by omega))) rfl ?_ ?_ ?_); rfl; rfl) | (refine qam ?_; (refine qaa (qag rfl) rfl ?_ ?_ ?_); rfl; rfl) | (refine qau ?_; (refine qaa (qaj rfl) rfl ?_ ?_ ?_); rfl; rfl) | (refine qai ?_; (refine qaa (qae rfl) rfl ?_ ?_ ?_); rfl; rfl) | (refine qaK ?_; (refine qaa (qay rfl rfl (by first | assumption | with_reducible rfl | decide)) rfl ?_ ?_ ?_); rfl; rfl) | (refine l_not ?_; (refine qaa (OpW.not rfl) rfl ?_ ?_ ?_); rfl; rfl) | (refine qaR ?_; (refine qaa (qax rfl rfl rfl) rfl ?_ ?_ ?_); rfl; rfl) | (refine qaP ?_; (refine qaa (OpW.extract rfl rfl) rfl ?_ ?_ ?_); rfl; rfl) | (refine qaT ?_; refine SXl.alloc ?_ ?_ (fun g => ?_); rfl; rfl) | (refine qaD ?_; first | ((first | refine qah 0 ?_ rfl rfl rfl rfl rfl rfl ?_ | refine qah 1 ?_ rfl rfl rfl rfl rfl rfl ?_ | refine qah 2 ?_ rfl rfl rfl rfl rfl rfl ?_); rfl; simp only [List.set_cons_zero, List.set_cons_succ]) | ((first | refine qad 0 ?_ rfl rfl rfl rfl rfl rfl rfl ?_ | refine qad 1 ?_ rfl rfl rfl rfl rfl rfl rfl ?_ | refine qad 2 ?_ rfl rfl rfl rfl rfl rfl rfl ?_); rfl; simp only [List.set_cons_zero, List.set_cons_succ]) | ((first | refine qac 0 ?_ rfl rfl rfl rfl rfl rfl rfl ?_ | refine qac 1 ?_ rfl rfl rfl rfl rfl rfl rfl ?_ | refine qac 2 ?_ rfl rfl rfl rfl rfl rfl rfl ?_); rfl; simp only [over, List.set_cons_zero, List.set_cons_succ])) | refine qav ?_ | refine qan ?_ | refine qar ?_)
        refine qaL 1 rfl rfl rfl rfl rfl (fun w' hl => ⟨rfl, hl.mod⟩)
      · have hn : (if Lib.hasPrefix d [45] then -(m : Int) else (m : Int)) = -(m : Int) := by rw [hp]; rfl
        rw [readPt2_ok h1 hn happ] at e2
        rw [h1] at hrd
        have hvt := fun w h => valueText_any ⟨1, -(m : Int)⟩ ⟨by show _ ≤ -(m : Int); omega, by show -(m : Int) ≤ _; omega⟩ w h
        by_cases hv : valText ⟨1, -(m : Int)⟩ = t
        · rw [if_pos hv] at e2
          rw [e2]
          repeat (first | refine qap ?_ | refine qak ?_ | refine qaf ?_ | refine qab ?_ | refine SX.block ?_ | refine qaE ?_ | refine qao rfl ?_ | refine qas rfl ?_ | (refine qaO ?_; (refine qaa ((qaz (vals := [(0, .int .i64 1)]) (cells := Val.cells ⟨1, 0⟩) rfl (by kernel_rfl))) rfl ?_ ?_ ?_); rfl; rfl) | (refine qaA ?_; (first | refine qaa (qal rfl (fun w hl => hcs _)) rfl ?_ ?_ ?_ | refine qaa (qal rfl (fun w hl => hcp _)) rfl ?_ ?_ ?_ | refine qaa (qal rfl (fun w hl => hrd _ (htab.keep hl.mod) (hsyn.keep hl.mod))) rfl ?_ ?_ ?_ | refine qaa (qal rfl (fun w hl => hvt _ (htab.keep hl.mod))) rfl ?_ ?_ ?_); rfl; rfl) | (refine l_neg ?_; (refine qaa ((OpW.negi rfl (by omega) (by omega))) rfl ?_ ?_ ?_); rfl; rfl) | (refine qaF ?_; (refine qaa (qaq 0 rfl rfl rfl) rfl ?_ ?_ ?_); rfl; rfl) | (refine qam ?_; (refine qaa (qag rfl) rfl ?_ ?_ ?_); rfl; rfl) | (refine qau ?_; (refine qaa (qaj rfl) rfl ?_ ?_ ?_); rfl; rfl) | (refine qai ?_; (refine qaa (qae rfl) rfl ?_ ?_ ?_); rfl; rfl) | (refine qaK ?_; (refine qaa (qay rfl rfl (by first | assumption | with_reducible rfl | decide)) rfl ?_ ?_ ?_); rfl; rfl) | (refine l_neq ?_; (refine qaa (OpW.neqStrF rfl rfl (by first | assumption | with_reducible rfl | decide)) rfl ?_ ?_ ?_); rfl; rfl) | (refine l_not ?_; (refine qaa (OpW.not rfl) rfl ?_ ?_ ?_); rfl; rfl) | (refine qaR ?_; (refine qaa (qax rfl rfl rfl) rfl ?_ ?_ ?_); rfl; rfl) | (refine qaP ?_; (refine qaa (OpW.extract rfl rfl) rfl ?_ ?_ ?_); rfl; rfl) | (refine qaT ?_; refine SXl.alloc ?_ ?_ (fun g => ?_); rfl; rfl) | (refine qaD ?_; first | ((first | refine qah 0 ?_ rfl rfl rfl rfl rfl rfl ?_ | refine qah 1 ?_ rfl rfl rfl rfl rfl rfl ?_ | refine qah 2 ?_ rfl rfl rfl rfl rfl rfl ?_); rfl; simp only [List.set_cons_zero, List.set_cons_succ]) | ((first | refine qad 0 ?_ rfl rfl rfl rfl rfl rfl rfl ?_ | refine qad 1 ?_ rfl rfl rfl rfl rfl rfl rfl ?_ | refine qad 2 ?_ rfl rfl rfl rfl rfl rfl rfl ?_); rfl; simp only [List.set_cons_zero, List.set_cons_succ]) | ((first | refine qac 0 ?_ rfl rfl rfl rfl rfl rfl rfl ?_ | refine qac 1 ?_ rfl rfl rfl rfl rfl rfl rfl ?_ | refine qac 2 ?_ rfl rfl rfl rfl rfl rfl rfl ?_); rfl; simp only [over, List.set_cons_zero, List.set_cons_succ])) | refine qav ?_ | refine qar ?_)
          refine qaL 1 rfl rfl rfl rfl rfl (fun w' hl => ⟨rfl, hl.mod⟩)
        · rw [if_neg hv] at e2
          rw [e2]
          repeat (first | refine qap ?_ | refine qak ?_ | refine qaf ?_ | refine qab ?_ | refine SX.block ?_ | refine qaE ?_ | refine qao rfl ?_ | refine qas rfl ?_ | (refine qaO ?_; (first | refine qaa ((qaz (vals := []) (cells := Val.cells ⟨0, 0⟩) rfl (by kernel_rfl))) rfl ?_ ?_ ?_ | refine qaa ((qaz (vals := [(0, .int .i64 1)]) (cells := Val.cells ⟨1, 0⟩) rfl (by kernel_rfl))) rfl ?_ ?_ ?_); rfl; rfl) | (refine qaA ?_; (first | refine qaa (qal rfl (fun w hl => hcs _)) rfl ?_ ?_ ?_ | refine qaa (qal rfl (fun w hl => hcp _)) rfl ?_ ?_ ?_ | refine qaa (qal rfl (fun w hl => hrd _ (htab.keep hl.mod) (hsyn.keep hl.mod))) rfl ?_ ?_ ?_ | refine qaa (qal rfl (fun w hl => hvt _ (htab.keep hl.mod))) rfl ?_ ?_ ?_); rfl; rfl) | (refine l_neg ?_; (refine qaa ((OpW.negi rfl (by omega) (by omega))) rfl ?_ ?_ ?_); rfl; rfl) | (refine qaF ?_; (refine qaa (qaq 0 rfl rfl rfl) rfl ?_ ?_ ?_); rfl; rfl) | (refine qam ?_; (refine qaa (qag rfl) rfl ?_ ?_ ?_); rfl; rfl) | (refine qau ?_; (refine qaa (qaj rfl) rfl ?_ ?_ ?_); rfl; rfl) | (refine qai ?_; (refine qaa (qae rfl) rfl ?_ ?_ ?_); rfl; rfl) | (refine qaK ?_; (refine qaa (qay rfl rfl (by first | assumption | with_reducible rfl | decide)) rfl ?_ ?_ ?_); rfl; rfl) | (refine l_neq ?_; (refine qaa (OpW.neqStrT rfl rfl (by first | assumption | with_reducible rfl | decide)) rfl ?_ ?_ ?_); rfl; rfl) | (refine l_not ?_; (refine qaa (OpW.not rfl) rfl ?_ ?_ ?_); rfl; rfl) | (refine qaR ?_; (refine qaa (qax rfl rfl rfl) rfl ?_ ?_ ?_); rfl; rfl) | (refine qaP ?_; (refine qaa (OpW.extract rfl rfl) rfl ?_ ?_ ?_); rfl; rfl) | (refine qaT ?_; refine SXl.alloc ?_ ?_ (fun g => ?_); rfl; rfl) | (refine qaD ?_; first | ((first | refine qah 0 ?_ rfl rfl rfl rfl rfl rfl ?_ | refine qah 1 ?_ rfl rfl rfl rfl rfl rfl ?_ | refine qah 2 ?_ rfl rfl rfl rfl rfl rfl ?_); rfl; simp only [List.set_cons_zero, List.set_cons_succ]) | ((first | refine qad 0 ?_ rfl rfl rfl rfl rfl rfl rfl ?_ | refine qad 1 ?_ rfl rfl rfl rfl rfl rfl rfl ?_ | refine qad 2 ?_ rfl rfl rfl rfl rfl rfl rfl ?_); rfl; simp only [List.set_cons_zero, List.set_cons_succ]) | ((first | refine qac 0 ?_ rfl rfl rfl rfl rfl rfl rfl ?_ | refine qac 1 ?_ rfl rfl rfl rfl rfl rfl rfl ?_ | refine qac 2 ?_ rfl rfl rfl rfl rfl rfl rfl ?_); rfl; simp only [over, List.set_cons_zero, List.set_cons_succ])) | refine qav ?_ | refine qan ?_ | refine qar ?_)
          refine qaL 1 rfl rfl rfl rfl rfl (fun w' hl => ⟨rfl, hl.mod⟩)
  · rw [hs] at hcs e2
    have happ := trimSuffix_app hs
    rw [if_pos rfl] at e2
    generalize Lib.trimSuffix t [37] = d at hcs hcp hrd hdl hdl2 happ e2
    cases hp : Lib.hasPrefix d [45]
    · rw [hp] at hcp
      rcases readDec_cases (Lib.trimPrefix d [45]) with h1 | ⟨m, h1, h2, h3, h4⟩
      · rw [readPt2_no h1] at e2
        rw [h1] at hrd
        rw [e2]
        repeat (first | refine qap ?_ | refine qak ?_ | refine qaf ?_ | refine qab ?_ | refine SX.block ?_ | refine qaE ?_ | refine qao rfl ?_ | refine qas rfl ?_ | (refine SXl.no rfl rfl rfl ?_) | (refine qaO ?_; (first | refine qaa ((qaz (vals := []) (cells := Val.cells ⟨0, 0⟩) rfl (by kernel_rfl))) rfl ?_ ?_ ?_ | refine qaa ((qaz (vals := [(0, .int .i64 1)]) (cells := Val.cells ⟨1, 0⟩) rfl (by kernel_rfl))) rfl ?_ ?_ ?_); rfl; rfl) | (refine qaA ?_; (first | refine qaa (qal rfl (fun w hl => hcs _)) rfl ?_ ?_ ?_ | refine qaa (qal rfl (fun w hl => hcp _)) rfl ?_ ?_ ?_ | refine qaa (qal rfl (fun w hl => hrd _ (htab.keep hl.mod) (hsyn.keep hl.mod))) rfl ?_ ?_ ?_); rfl; rfl) | (refine qam ?_; (refine qaa (qag rfl) rfl ?_ ?_ ?_); rfl; rfl) | (refine qau ?_; (refine qaa (qaj rfl) rfl ?_ ?_ ?_); rfl; rfl) | (refine qai ?_; (refine qaa (qae rfl) rfl ?_ ?_ ?_); rfl; rfl) | (refine qaK ?_; (refine qaa (qay rfl rfl (by first | assumption | with_reducible rfl | decide)) rfl ?_ ?_ ?_); rfl; rfl) | (refine l_not ?_; (refine qaa (OpW.not rfl) rfl ?_ ?_ ?_); rfl; rfl) | (refine qaR ?_; (refine qaa (qax rfl rfl rfl) rfl ?_ ?_ ?_); rfl; rfl) | (refine qaP ?_; (refine qaa (OpW.extract rfl rfl) rfl ?_ ?_ ?_); rfl; rfl) | (refine qaT ?_; refine SXl.alloc ?_ ?_ (fun g => ?_); rfl; rfl) | (refine qaD ?_; first | ((first | refine qah 0 ?_ rfl rfl rfl rfl rfl rfl ?_ | refine qah 1 ?_ rfl rfl rfl rfl rfl rfl ?_ | refine qah 2 ?_ rfl rfl rfl rfl rfl rfl ?_); rfl; simp only [List.set_cons_zero, List.set_cons_succ]) | ((first | refine qad 0 ?_ rfl rfl rfl rfl rfl rfl rfl ?_ | refine qad 1 ?_ rfl rfl rfl rfl rfl rfl rfl ?_ | refine qad 2 ?_ rfl rfl rfl rfl rfl rfl rfl ?_); rfl; simp only [List.set_cons_zero, List.set_cons_succ]) | ((first | refine qac 0 ?_ rfl rfl rfl rfl rfl rfl rfl ?_ | refine qac 1 ?_ rfl rfl rfl rfl rfl rfl rfl ?_ | refine qac 2 ?_ rfl rfl rfl rfl rfl rfl rfl ?_); rfl; simp only [over, List.set_cons_zero, List.set_cons_succ])) | refine qav ?_ | refine qan ?_ | refine qar ?_)
        refine qaL 1 rfl rfl rfl rfl rfl (fun w' hl => ⟨rfl, hl.mod⟩)
      · have hn : (if Lib.hasPrefix d [45] then -(m : Int) else (m : Int)) = (m : Int) := by rw [hp]; rfl
        rw [readPt2_ok h1 hn happ] at e2
        rw [h1] at hrd
        have hvt := fun w h => valueText_any ⟨2, (m : Int)⟩ ⟨by show _ ≤ (m : Int); omega, by show (m : Int) ≤ _; omega⟩ w h
        by_cases hv : valText ⟨2, (m : Int)⟩ = t
        · rw [if_pos hv] at e2
          rw [e2]
          repeat (first | refine qap ?_ | refine qak ?_ | refine qaf ?_ | refine qab ?_ | refine SX.block ?_ | refine qaE ?_ | refine qao rfl ?_ | refine qas rfl ?_ | (refine qaO ?_; (refine qaa ((qaz (vals := [(0, .int .i64 1)]) (cells := Val.cells ⟨1, 0⟩) rfl (by kernel_rfl))) rfl ?_ ?_ ?_); rfl; rfl) | (refine qaA ?_; (first | refine qaa (qal rfl (fun w hl => hcs _)) rfl ?_ ?_ ?_ | refine qaa (qal rfl (fun w hl => hcp _)) rfl ?_ ?_ ?_ | refine qaa (qal rfl (fun w hl => hrd _ (htab.keep hl.mod) (hsyn.keep hl.mod))) rfl ?_ ?_ ?_ | refine qaa (qal rfl (fun w hl => hvt _ (htab.keep hl.mod))) rfl ?_ ?_ ?_); rfl; rfl) | (refine qaF ?_; (refine qaa (qaq 0 rfl rfl rfl) rfl ?_ ?_ ?_); rfl; rfl) | (refine qam ?_; (refine qaa (qag rfl) rfl ?_ ?_ ?_); rfl; rfl) | (refine qau ?_; (refine qaa (qaj rfl) rfl ?_ ?_ ?_); rfl; rfl) | (refine qai ?_; (refine qaa (qae rfl) rfl ?_ ?_ ?_); rfl; rfl) | (refine qaK ?_; (refine qaa (qay rfl rfl (by first | assumption | with_reducible rfl | decide)) rfl ?_ ?_ ?_); rfl; rfl) | (refine l_neq ?_; (refine qaa (OpW.neqStrF rfl rfl (by first | assumption | with_reducible rfl | decide)) rfl ?_ ?_ ?_); rfl; rfl) | (refine l_not ?_; (refine qaa (OpW.not rfl) rfl ?_ ?_ ?_); rfl; rfl) | (refine qaR ?_; (refine qaa (qax rfl rfl rfl) rfl ?_ ?_ ?_); rfl; rfl) | (refine qaP ?_; (refine qaa (OpW.extract rfl rfl) rfl ?_ ?_ ?_); rfl; rfl) | (refine qaT ?_; refine SXl.alloc ?_ ?_ (fun g => ?_); rfl; rfl) | (refine qaD ?_; first | ((first | refine qah 0 ?_ rfl rfl rfl rfl rfl rfl ?_ | refine qah 1 ?_ rfl rfl rfl rfl rfl rfl ?_ | refine qah 2 ?_ rfl rfl rfl rfl rfl rfl ?_); rfl; simp only [List.set_cons_zero, List.set_cons_succ]) | ((first | refine qad 0 ?_ rfl rfl rfl rfl rfl rfl rfl ?_ | refine qad 1 ?_ rfl rfl rfl rfl rfl rfl rfl ?_ | refine qad 2 ?_ rfl rfl rfl rfl rfl rfl rfl ?_); rfl; simp only [List.set_cons_zero, List.set_cons_succ]) | ((first | refine qac 0 ?_ rfl rfl rfl rfl rfl rfl rfl ?_ | refine qac 1 ?_ rfl rfl rfl rfl rfl rfl rfl ?_ | refine qac 2 ?_ rfl rfl rfl rfl rfl rfl rfl ?_); rfl; simp only [over, List.set_cons_zero, List.set_cons_succ])) | refine qav ?_ | refine qar ?_)
          refine qaL 1 rfl rfl rfl rfl rfl (fun w' hl => ⟨rfl, hl.mod⟩)
        · rw [if_neg hv] at e2
          rw [e2]
          repeat (first | refine qap ?_ | refine qak ?_ | refine qaf ?_ | refine qab ?_ | refine SX.block ?_ | refine qaE ?_ | refine qao rfl ?_ | refine qas rfl ?_ | (refine qaO ?_; (first | refine qaa ((qaz (vals := []) (cells := Val.cells ⟨0, 0⟩) rfl (by kernel_rfl))) rfl ?_ ?_ ?_ | refine qaa ((qaz (vals := [(0, .int .i64 1)]) (cells := Val.cells ⟨1, 0⟩) rfl (by kernel_rfl))) rfl ?_ ?_ ?_); rfl; rfl) | (refine qaA ?_; (first | refine qaa (qal rfl (fun w hl => hcs _)) rfl ?_ ?_ ?_ | refine qaa (qal rfl (fun w hl => hcp _)) rfl ?_ ?_ ?_ | refine qaa (qal rfl (fun w hl => hrd _ (htab.keep hl.mod) (hsyn.keep hl.mod))) rfl ?_ ?_ ?_ | refine qaa (qal rfl (fun w hl => hvt _ (htab.keep hl.mod))) rfl ?_ ?_ ?_); rfl; rfl) | (refine qaF ?_; (refine qaa (qaq 0 rfl rfl rfl) rfl ?_ ?_ ?_); rfl; rfl) | (refine qam ?_; (refine qaa (qag rfl) rfl ?_ ?_ ?_); rfl; rfl) | (refine qau ?_; (refine qaa (qaj rfl) rfl ?_ ?_ ?_); rfl; rfl) | (refine qai ?_; (refine qaa (qae rfl) rfl ?_ ?_ ?_); rfl; rfl) | (refine qaK ?_; (refine qaa (qay rfl rfl (by first | assumption | with_reducible rfl | decide)) rfl ?_ ?_ ?_); rfl; rfl) | (refine l_neq ?_; (refine qaa (OpW.neqStrT rfl rfl (by first | assumption | with_reducible rfl | decide)) rfl ?_ ?_ ?_); rfl; rfl) | (refine l_not ?_; (refine qaa (OpW.not rfl) rfl ?_ ?_ ?_); rfl; rfl) | (refine qaR ?_; (refine qaa (qax rfl rfl rfl) rfl ?_ ?_ ?_); rfl; rfl) | (refine qaP ?_; (refine qaa (OpW.extract rfl rfl) rfl ?_ ?_ ?_); rfl; rfl) | (refine qaT ?_; refine SXl.alloc ?_ ?_ (fun g => ?_); rfl; rfl) | (refine qaD ?_; first | ((first | refine qah 0 ?_ rfl rfl rfl rfl rfl rfl ?_ | refine qah 1 ?_ rfl rfl rfl rfl rfl rfl ?_ | refine qah 2 ?_ rfl rfl rfl rfl rfl rfl ?_); rfl; simp only [List.set_cons_zero, List.set_cons_succ]) | ((first | refine qad 0 ?_ rfl rfl rfl rfl rfl rfl rfl ?_ | refine qad 1 ?_ rfl rfl rfl rfl rfl rfl rfl ?_ | refine qad 2 ?_ rfl rfl rfl rfl rfl rfl rfl ?_); rfl; simp only [List.set_cons_zero, List.set_cons_succ]) | ((first | refine qac 0 ?_ rfl rfl rfl rfl rfl rfl rfl ?_ | refine qac 1 ?_ rfl rfl rfl rfl rfl rfl rfl ?_ | refine qac 2 ?_ rfl rfl rfl rfl rfl rfl rfl ?_); rfl; simp only [over, List.set_cons_zero, List.set_cons_succ])) | refine qav ?_ | refine qan ?_ | refine qar ?_)
          refine qaL 1 rfl rfl rfl rfl rfl (fun w' hl => ⟨rfl, hl.mod⟩)
    · rw [hp] at hcp
      rcases readDec_cases (Lib.trimPrefix d [45]) with h1 | ⟨m, h1, h2, h3, h4⟩
      · rw [readPt2_no h1] at e2
        rw [h1] at hrd
        rw [e2]
        repeat (first | refine qap ?_ | refine qak ?_ | refine qaf ?_ | refine qab ?_ | refine SX.block ?_ | refine qaE ?_ | refine qao rfl ?_ | refine qas rfl ?_ | (refine SXl.no rfl rfl rfl ?_) | (refine qaO ?_; (first | refine qaa ((qaz (vals := []) (cells := Val.cells ⟨0, 0⟩) rfl (by kernel_rfl))) rfl ?_ ?_ ?_ | refine qaa ((qaz (vals := [(0, .int .i64 1)]) (cells := Val.cells ⟨1, 0⟩) rfl (by kernel_rfl))) rfl ?_ ?_ ?_); rfl; rfl) | (refine qaA ?_; (first | refine qaa (qal rfl (fun w hl => hcs _)) rfl ?_ ?_ ?_ | refine qaa (qal rfl (fun w hl => hcp _)) rfl ?_ ?_ ?_ | refine qaa (qal rfl (fun w hl => hrd _ (htab.keep hl.mod) (hsyn.keep hl.mod))) rfl ?_ ?_ ?_); rfl; rfl) | (refine l_neg ?_; (refine qaa ((OpW.negi rfl (by omega) (by omega))) rfl ?_ ?_ ?_); rfl; rfl) | (refine qam ?_; (refine qaa (qag rfl) rfl ?_ ?_ ?_); rfl; rfl) | (refine qau ?_; (refine qaa (qaj rfl) rfl ?_ ?_ ?_); rfl; rfl) | (refine qai ?_; (refine qaa (qae rfl) rfl ?_ ?_ ?_); rfl; rfl) | (refine qaK ?_; (refine qaa (qay rfl rfl (by first | assumption | with_reducible rfl | decide)) rfl ?_ ?_ ?_); rfl; rfl) | (refine l_not ?_; (refine qaa (OpW.not rfl) rfl ?_ ?_ ?_); rfl; rfl) | (refine qaR ?_; (refine qaa (qax rfl rfl rfl) rfl ?_ ?_ ?_); rfl; rfl) | (refine qaP ?_; (refine qaa (OpW.extract rfl rfl) rfl ?_ ?_ ?_); rfl; rfl) | (refine qaT ?_; refine SXl.alloc ?_ ?_ (fun g => ?_); rfl; rfl) | (refine qaD ?_; first | ((first | refine qah 0 ?_ rfl rfl rfl rfl rfl rfl ?_ | refine qah 1 ?_ rfl rfl rfl rfl rfl rfl ?_ | refine qah 2 ?_ rfl rfl rfl rfl rfl rfl ?_); rfl; simp only [List.set_cons_zero, List.set_cons_succ]) | ((first | refine qad 0 ?_ rfl rfl rfl rfl rfl rfl rfl ?_ | refine qad 1 ?_ rfl rfl rfl rfl rfl rfl rfl ?_ | refine qad 2 ?_ rfl rfl rfl rfl rfl rfl rfl ?_); rfl; simp only [List.set_cons_zero, List.set_cons_succ]) | ((first | refine qac 0 ?_ rfl rfl rfl rfl rfl rfl rfl ?_ | refine qac 1 ?_ rfl rfl rfl rfl rfl rfl rfl ?_ | refine qac 2 ?_ rfl rfl rfl rfl rfl rfl rfl ?_); rfl; simp only [over, List.set_cons_zero, List.set_cons_succ])) | refine qav ?_ | refine qan ?_ | refine qar ?_)
        refine qaL 1 rfl rfl rfl rfl rfl (fun w' hl => ⟨rfl, hl.mod⟩)
      · have hn : (if Lib.hasPrefix d [45] then -(m : Int) else (m : Int)) = -(m : Int) := by rw [hp]; rfl
        rw [readPt2_ok h1 hn happ] at e2
        rw [h1] at hrd
        have hvt := fun w h => valueText_any ⟨2, -(m : Int)⟩ ⟨by show _ ≤ -(m : Int); omega, by show -(m : Int) ≤ _; omega⟩ w h
        by_cases hv : valText ⟨2, -(m : Int)⟩ = t
        · rw [if_pos hv] at e2
          rw [e2]
          repeat (first | refine qap ?_ | refine qak ?_ | refine qaf ?_ | refine qab ?_ | refine SX.block ?_ | refine qaE ?_ | refine qao rfl ?_ | refine qas rfl ?_ | (refine qaO ?_; (refine qaa ((qaz (vals := [(0, .int .i64 1)]) (cells := Val.cells ⟨1, 0⟩) rfl (by kernel_rfl))) rfl ?_ ?_ ?_); rfl; rfl) | (refine qaA ?_; (first | refine qaa (qal rfl (fun w hl => hcs _)) rfl ?_ ?_ ?_ | refine qaa (qal rfl (fun w hl => hcp _)) rfl ?_ ?_ ?_ | refine qaa (qal rfl (fun w hl => hrd _ (htab.keep hl.mod) (hsyn.keep hl.mod))) rfl ?_ ?_ ?_ | refine qaa (qal rfl (fun w hl => hvt _ (htab.keep hl.mod))) rfl ?_ ?_ ?_); rfl; rfl) | (refine l_neg ?_; (refine qaa ((OpW.negi rfl (by omega) (by omega))) rfl ?_ ?_ ?_); rfl; rfl) | (refine qaF ?_; (refine qaa (qaq 0 rfl rfl rfl) rfl ?_ ?_ ?_); rfl; rfl) | (refine qam ?_; (refine qaa (qag rfl) rfl ?_ ?_ ?_); rfl; rfl) | (refine qau ?_; (refine qaa (qaj rfl) rfl ?_ ?_ ?_); rfl; rfl) | (refine qai ?_; (refine qaa (qae rfl) rfl ?_ ?_ ?_); rfl; rfl) | (refine qaK ?_; (refine qaa (qay rfl rfl (by first | assumption | with_reducible rfl | decide)) rfl ?_ ?_ ?_); rfl; rfl) | (refine l_neq ?_; (refine qaa (OpW.neqStrF rfl rfl (by first | assumption | with_reducible rfl | decide)) rfl ?_ ?_ ?_); rfl; rfl) | (refine l_not ?_; (refine qaa (OpW.not rfl) rfl ?_ ?_ ?_); rfl; rfl) | (refine qaR ?_; (refine qaa (qax rfl rfl rfl) rfl ?_ ?_ ?_); rfl; rfl) | (refine qaP ?_; (refine qaa (OpW.extract rfl rfl) rfl ?_ ?_ ?_); rfl; rfl) | (refine qaT ?_; refine SXl.alloc ?_ ?_ (fun g => ?_); rfl; rfl) | (refine qaD ?_; first | ((first | refine qah 0 ?_ rfl rfl rfl rfl rfl rfl ?_ | refine qah 1 ?_ rfl rfl rfl rfl rfl rfl ?_ | refine qah 2 ?_ rfl rfl rfl rfl rfl rfl ?_); rfl; simp only [List.set_cons_zero, List.set_cons_succ]) | ((first | refine qad 0 ?_ rfl rfl rfl rfl rfl rfl rfl ?_ | refine qad 1 ?_ rfl rfl rfl rfl rfl rfl rfl ?_ | refine qad 2 ?_ rfl rfl rfl rfl rfl rfl rfl ?_); rfl; simp only [List.set_cons_zero, List.set_cons_succ]) | ((first | refine qac 0 ?_ rfl rfl rfl rfl rfl rfl rfl ?_ | refine qac 1 ?_ rfl rfl rfl rfl rfl rfl rfl ?_ | refine qac 2 ?_ rfl rfl rfl rfl rfl rfl rfl ?_); rfl; simp only [over, List.set_cons_zero, List.set_cons_succ])) | refine qav ?_ | refine qar ?_)
          refine qaL 1 rfl rfl rfl rfl rfl (fun w' hl => ⟨rfl, hl.mod⟩)
        · rw [if_neg hv] at e2
          rw [e2]
          repeat (first | refine qap ?_ | refine qak ?_ | refine qaf ?_ | refine qab ?_ | refine SX.block ?_ | refine qaE ?_ | refine qao rfl ?_ | refine qas rfl ?_ | (refine qaO ?_; (first | refine qaa ((qaz (vals := []) (cells := Val.cells ⟨0, 0⟩) rfl (by kernel_rfl))) rfl ?_ ?_ ?_ | refine qaa ((qaz (vals := [(0, .int .i64 1)]) (cells := Val.cells ⟨1, 0⟩) rfl (by kernel_rfl))) rfl ?_ ?_ ?_); rfl; rfl) | (refine qaA ?_; (first | refine qaa (qal rfl (fun w hl => hcs _)) rfl ?_ ?_ ?_ | refine qaa (qal rfl (fun w hl => hcp _)) rfl ?_ ?_ ?_ | refine qaa (qal rfl (fun w hl => hrd _ (htab.keep hl.mod) (hsyn.keep hl.mod))) rfl ?_ ?_ ?_ | refine qaa (qal rfl (fun w hl => hvt _ (htab.keep hl.mod))) rfl ?_ ?_ ?_); rfl; rfl) | (refine l_neg ?_; (refine qaa ((OpW.negi rfl (by omega) (by omega))) rfl ?_ ?_ ?_); rfl; rfl) | (refine qaF ?_; (refine qaa (qaq 0 rfl rfl rfl) rfl ?_ ?_ ?_); rfl; rfl) | (refine qam ?_; (refine qaa (qag rfl) rfl ?_ ?_ ?_); rfl; rfl) | (refine qau ?_; (refine qaa (qaj rfl) rfl ?_ ?_ ?_); rfl; rfl) | (refine qai ?_; (refine qaa (qae rfl) rfl ?_ ?_ ?_); rfl; rfl) | (refine qaK ?_; (refine qaa (qay rfl rfl (by first | assumption | with_reducible rfl | decide)) rfl ?_ ?_ ?_); rfl; rfl) | (refine l_neq ?_; (refine qaa (OpW.neqStrT rfl rfl (by first | assumption | with_reducible rfl | decide)) rfl ?_ ?_ ?_); rfl; rfl) | (refine l_not ?_; (refine qaa (OpW.not rfl) rfl ?_ ?_ ?_); rfl; rfl) | (refine qaR ?_; (refine qaa (qax rfl rfl rfl) rfl ?_ ?_ ?_); rfl; rfl) | (refine qaP ?_; (refine qaa (OpW.extract rfl rfl) rfl ?_ ?_ ?_); rfl; rfl) | (refine qaT ?_; refine SXl.alloc ?_ ?_ (fun g => ?_); rfl; rfl) | (refine qaD ?_; first | ((first | refine qah 0 ?_ rfl rfl rfl rfl rfl rfl ?_ | refine qah 1 ?_ rfl rfl rfl rfl rfl rfl ?_ | refine qah 2 ?_ rfl rfl rfl rfl rfl rfl ?_); rfl; simp only [List.set_cons_zero, List.set_cons_succ]) | ((first | refine qad 0 ?_ rfl rfl rfl rfl rfl rfl rfl ?_ | refine qad 1 ?_ rfl rfl rfl rfl rfl rfl rfl ?_ | refine qad 2 ?_ rfl rfl rfl rfl rfl rfl rfl ?_); rfl; simp only [List.set_cons_zero, List.set_cons_succ]) | ((first | refine qac 0 ?_ rfl rfl rfl rfl rfl rfl rfl ?_ | refine qac 1 ?_ rfl rfl rfl rfl rfl rfl rfl ?_ | refine qac 2 ?_ rfl rfl rfl rfl rfl rfl rfl ?_); rfl; simp only [over, List.set_cons_zero, List.set_cons_succ])) | refine qav ?_ | refine qan ?_ | refine qar ?_)
          refine qaL 1 rfl rfl rfl rfl rfl (fun w' hl => ⟨rfl, hl.mod⟩)

end Go.Proofs.YtkkjjhooamlljaaGreatDoor
namespace Go.Proofs.YtkkjjhooamlljaaGreatDoor

def splitL (c : UInt8) : List UInt8 → List (List UInt8)
  | [] => [[]]
  | x :: l => if x = c then [] :: splitL c l else match splitL c l with
    | [] => [[x]]
    | p :: ps => (x :: p) :: ps
theorem splitL_ne (c : UInt8) (l : List UInt8) : splitL c l ≠ [] := by
  cases l with
  | nil => simp [splitL]
  | cons x l =>
    unfold splitL
    split
    · simp
    · split <;> simp
theorem splitL_cut {c : UInt8} : ∀ {p r : List UInt8}, c ∉ p → splitL c (p ++ c :: r) = p :: splitL c r
  | [], r, _ => by simp [splitL]
  | x :: p, r, h => by
    have hx : ¬ x = c := fun e => h (by simp [e])
    have ih := splitL_cut (p := p) (r := r) (fun m => h (List.mem_cons_of_mem _ m))
    rw [List.cons_append, splitL, if_neg hx, ih]
theorem splitL_whole {c : UInt8} : ∀ {p : List UInt8}, c ∉ p → splitL c p = [p]
  | [], _ => rfl
  | x :: p, h => by
    have hx : ¬ x = c := fun e => h (by simp [e])
    rw [splitL, if_neg hx, splitL_whole (fun m => h (List.mem_cons_of_mem _ m))]
theorem splitL_len (c : UInt8) : ∀ l : List UInt8, (splitL c l).length ≤ l.length + 1
  | [] => by simp [splitL]
  | x :: l => by
    have ih := splitL_len c l
    unfold splitL
    split
    · simp only [List.length_cons]; omega
    · split
      · simp
      · rename_i h
        rw [h] at ih
        simp only [List.length_cons] at ih ⊢
        omega
theorem splitL_short (c : UInt8) : ∀ (l : List UInt8), ∀ p ∈ splitL c l, p.length ≤ l.length
  | [], p, h => by simp [splitL] at h; subst h; simp
  | x :: l, p, h => by
    have ih := splitL_short c l
    unfold splitL at h
    split at h
    · rcases List.mem_cons.1 h with rfl | h
      · simp
      · have := ih p h; simp only [List.length_cons]; omega
    · split at h
      · simp at h; subst h; simp
      · rename_i e
        rcases List.mem_cons.1 h with rfl | h
        · have := ih _ (by rw [e]; exact List.mem_cons_self); simp only [List.length_cons]; omega
        · have := ih p (by rw [e]; exact List.mem_cons_of_mem _ h); simp only [List.length_cons]; omega
/-- Joined, and cut again. -/
theorem splitL_join {c : UInt8} : ∀ {l : List (List UInt8)}, l ≠ [] → (∀ x ∈ l, c ∉ x) → splitL c (Lib.join l [c]) = l
  | [], h, _ => (h rfl).elim
  | [x], _, h => by rw [Lib.join_one]; exact splitL_whole (h x List.mem_cons_self)
  | x :: y :: l, _, h => by
    have ih := splitL_join (c := c) (l := y :: l) (by simp) (fun z hz => h z (List.mem_cons_of_mem _ hz))
    have e : Lib.join (x :: y :: l) [c] = x ++ c :: Lib.join (y :: l) [c] := by
      rw [Lib.join_cons, Lib.join_cons]
      simp [Lib.joinTail]
    rw [e, splitL_cut (h x List.mem_cons_self), ih]
/-- The place of a sign. -/
theorem index_sign {c : UInt8} : ∀ (l : List UInt8), (Lib.index l [c] = -1 ∧ c ∉ l) ∨ ∃ p r, l = p ++ c :: r ∧ c ∉ p ∧ Lib.index l [c] = (p.length : Int)
  | [] => .inl ⟨by simp [Lib.index], by simp⟩
  | x :: l => by
    by_cases hx : c = x
    · subst hx
      exact .inr ⟨[], l, rfl, by simp, by simp [Lib.index]⟩
    · have hp : ([c].isPrefixOf (x :: l)) = false := by simp [List.isPrefixOf, hx]
      rcases index_sign (c := c) l with ⟨h1, h2⟩ | ⟨p, r, rfl, h2, h3⟩
      · left
        refine ⟨?_, by simp [hx, h2]⟩
        rw [Lib.index, hp, h1]; rfl
      · right
        refine ⟨x :: p, r, rfl, by simp [hx, h2], ?_⟩
        rw [Lib.index, hp, h3]
        have : ((p.length : Int) == -1) = false := by rw [beq_eq_false_iff_ne]; omega
        rw [if_neg (by simp), this]
        simp
theorem splitK_sign (c : UInt8) : ∀ (n : Nat) (l : List UInt8), l.length ≤ n → Lib.splitK [c] 0 (Lib.count l [c]) l = splitL c l
  | n, l, hn => by
    rcases index_sign (c := c) l with ⟨h1, h2⟩ | ⟨p, r, rfl, h2, h3⟩
    · rw [Lib.count_miss h1, splitL_whole h2]; rfl
    · have e : (p ++ c :: r).drop (p.length + [c].length) = r := by
        rw [List.drop_append]
        simp
      have hc := Lib.count_hit (by simp) h3
      rw [e] at hc
      rw [hc, Nat.add_comm 1, Lib.splitK, splitL_cut h2, h3]
      have : ((p.length : Int) == -1) = false := by rw [beq_eq_false_iff_ne]; omega
      have e2 : ((p.length : Int)).toNat = p.length := by omega
      rw [this, if_neg (by simp), e2, e]
      have hl : r.length < n := by
        simp only [List.length_append, List.length_cons] at hn
        omega
      match n, hl with
      | m + 1, hl => rw [splitK_sign c m r (by omega)]; simp
theorem splitB_sign (c : UInt8) (t : List UInt8) : (Lib.splitB ⟨#[c]⟩ 0 (Lib.countB ⟨t.toArray⟩ ⟨#[c]⟩) ⟨t.toArray⟩).map Value.string = (splitL c t).map fun x => Value.string ⟨x.toArray⟩ := by
  have h := Lib.splitB_data ⟨#[c]⟩ 0 (Lib.countB ⟨t.toArray⟩ ⟨#[c]⟩) ⟨t.toArray⟩
  have h2 : Lib.splitK [c] 0 (Lib.count t [c]) t = splitL c t := splitK_sign c t.length t (Nat.le_refl _)
  rw [← h2]
  have h3 : (Lib.splitB ⟨#[c]⟩ 0 (Lib.countB ⟨t.toArray⟩ ⟨#[c]⟩) ⟨t.toArray⟩).map (·.data.toList) = Lib.splitK [c] 0 (Lib.count t [c]) t := h
  rw [← h3, List.map_map]
  rfl
theorem countB_sign (c : UInt8) (t : List UInt8) : Lib.countB ⟨t.toArray⟩ ⟨#[c]⟩ + 1 = (splitL c t).length := by
  have h := Lib.splitB_all ⟨#[c]⟩ (by show 1 ≤ 1; decide) 0 _ ⟨t.toArray⟩ rfl
  have h2 := congrArg List.length (splitB_sign c t)
  rw [List.length_map, List.length_map, h] at h2
  exact h2
end Go.Proofs.YtkkjjhooamlljaaGreatDoor
namespace Go.Proofs.YtkkjjhooamlljaaGreatDoor
open Go.RowKit

theorem decDigits_short : ∀ (k u : Nat), 1 ≤ k → u < 10 ^ k → (Lib.decDigits u).length ≤ k
  | 0, _, h, _ => by omega
  | k + 1, u, _, h => by
    rw [Lib.decDigits]
    split
    · simp
    · rename_i h10
      have hk : 1 ≤ k := by
        rcases Nat.eq_zero_or_pos k with rfl | hk
        · omega
        · exact hk
      have := decDigits_short k (u / 10) hk (by rw [Nat.pow_succ] at h; omega)
      simp only [List.length_append, List.length_cons, List.length_nil]
      omega
theorem itoa_signs (n : Int) {u : UInt8} (h : u ∈ Lib.itoa n) : u.toNat = 45 ∨ (48 ≤ u.toNat ∧ u.toNat ≤ 57) := by
  have hd : ∀ m : Nat, u ∈ Lib.decDigits m → 48 ≤ u.toNat ∧ u.toNat ≤ 57 := fun m hm => by
    obtain ⟨i, hi⟩ := List.mem_iff_getElem?.1 hm
    obtain ⟨d, hd⟩ := Lib.digit_of_decFrom _ 0 m (decFrom_digits m) i u hi
    unfold Lib.digitVal at hd
    split at hd
    · assumption
    · cases hd
  unfold Lib.itoa at h
  split at h
  · rcases List.mem_cons.1 h with rfl | h
    · exact .inl (by decide)
    · exact .inr (hd _ h)
  · exact .inr (hd _ h)
theorem itoa_no {c : UInt8} (n : Int) (h : c.toNat ≠ 45 ∧ ¬ (48 ≤ c.toNat ∧ c.toNat ≤ 57)) : c ∉ Lib.itoa n := fun hm => by
  rcases itoa_signs n hm with h1 | h1
  · exact h.1 h1
  · exact h.2 h1
theorem ruleWord_no44 (r : Rule) : (44 : UInt8) ∉ ruleWord r := by
  have h := fun n => itoa_no (c := 44) n (by decide)
  simp [ruleWord, h]
theorem readDec_itoa {n : Int} (h0 : 0 ≤ n) (h1 : n ≤ 1000000000) : readDec (Lib.itoa n) = (n, true) := by
  obtain ⟨m, rfl⟩ : ∃ m : Nat, n = m := ⟨n.toNat, by omega⟩
  exact readDec_of (itoa_nat m).symm (by rw [itoa_nat]; exact decDigits_short 10 m (by decide) (by omega)) (by omega)
def readRoom (t : List UInt8) : Int × Bool := if t = [45, 49] then (-1, true) else readDec t
theorem itoa_neg1 : Lib.itoa (-1) = [45, 49] := by
  have := Lib.itoa_neg 1 (by decide)
  rw [show (-((1 : Nat) : Int)) = -1 from rfl] at this
  rw [this, Lib.decDigits]; rfl
theorem itoa_ne1 {n : Int} (h : 0 ≤ n) : Lib.itoa n ≠ [45, 49] := fun e => by
  obtain ⟨m, rfl⟩ : ∃ m : Nat, n = m := ⟨n.toNat, by omega⟩
  rw [itoa_nat] at e
  exact absurd (digits_head m e) (by decide)
theorem readRoom_itoa {n : Int} (h0 : -1 ≤ n) (h1 : n ≤ 1000000000) : readRoom (Lib.itoa n) = (n, true) := by
  unfold readRoom
  by_cases h : n = -1
  · subst h; rw [itoa_neg1]; rfl
  · rw [if_neg (itoa_ne1 (by omega)), readDec_itoa (by omega) h1]
theorem readInt_dec {t : List UInt8} (h : (readDec t).2 = true) : readInt t = readDec t := by
  obtain ⟨m, _, _, h3, _⟩ := readDec_true (n := (readDec t).1) (t := t) (by rw [← h])
  unfold readInt
  rw [if_neg]
  rintro ⟨_, h1⟩
  cases t with
  | nil => cases h1
  | cons b r =>
    have := digits_head m h3
    simp at h1
    subst h1
    revert this; decide
theorem readDec_one : readDec [49] = (1, true) := readDec_of (m := 1) (by rw [Lib.decDigits]; rfl) (by decide) (by decide)
theorem readInt_room {t : List UInt8} (h : (readRoom t).2 = true) : (readInt t).1 = (readRoom t).1 := by
  unfold readRoom at h ⊢
  split
  · rename_i e
    subst e
    unfold readInt
    rw [if_pos (by decide)]
    show -(readDec [49]).1 = -1
    rw [readDec_one]
  · rename_i e
    rw [if_neg e] at h
    rw [readInt_dec h]

/-- A rule's text, read as the program reads it. -/
def triI (p : List UInt8) : Option Rule := match splitL 58 p with
  | [a, b, d] => if (readRoom a).2 && (readDec b).2 && (readDec d).2 then some ⟨(readRoom a).1, (readDec b).1, (readDec d).1⟩ else none
  | _ => none
/-- .. and as the reference does. -/
def triS (p : List UInt8) : Option Rule := match splitL 58 p with
  | [a, b, d] => some ⟨(readInt a).1, (readInt b).1, (readInt d).1⟩
  | _ => none
theorem triS_of {p : List UInt8} {r : Rule} (h : triI p = some r) : triS p = some r := by
  unfold triI at h
  unfold triS
  split at h
  · split at h
    · rename_i hc
      simp only [Bool.and_eq_true] at hc
      rw [← Option.some.inj h, readInt_room hc.1.1, readInt_dec hc.1.2, readInt_dec hc.2]
    · cases h
  · cases h
theorem split_word (r : Rule) : splitL 58 (ruleWord r) = [Lib.itoa r.room, Lib.itoa r.wide, Lib.itoa r.high] := by
  have h := fun n => itoa_no (c := 58) n (by decide)
  have e : ruleWord r = Lib.itoa r.room ++ 58 :: (Lib.itoa r.wide ++ 58 :: Lib.itoa r.high) := by simp [ruleWord]
  rw [e, splitL_cut (h _), splitL_cut (h _), splitL_whole (h _)]
theorem ruleIn_b {r : Rule} (h : ruleIn r = true) : (-1 ≤ r.room ∧ r.room ≤ 1048576) ∧ (0 ≤ r.wide ∧ r.wide ≤ 1048576) ∧ 0 ≤ r.high ∧ r.high ≤ 1048576 := by
  unfold ruleIn inB at h
  simp only [Bool.and_eq_true, decide_eq_true_eq] at h
  obtain ⟨⟨⟨a, b⟩, c, d⟩, e, f⟩ := h
  exact ⟨⟨by omega, by omega⟩, ⟨by omega, by omega⟩, by omega, by omega⟩
theorem triI_word {r : Rule} (h : ruleIn r = true) : triI (ruleWord r) = some r := by
  obtain ⟨⟨a, b⟩, ⟨c, d⟩, e, f⟩ := ruleIn_b h
  unfold triI
  rw [split_word]
  simp only
  rw [readRoom_itoa a (by omega), readDec_itoa c (by omega), readDec_itoa e (by omega)]
  rfl
def rulesBy (tri : List UInt8 → Option Rule) : List (List UInt8) → List Rule → Option (List Rule)
  | [], acc => some acc
  | p :: ps, acc => if 6 ≤ acc.length then none else match tri p with
    | some r => rulesBy tri ps (acc ++ [r])
    | none => none
theorem rulesBy_more {f g : List UInt8 → Option Rule} (h : ∀ p r, f p = some r → g p = some r) : ∀ {ps : List (List UInt8)} {acc l : List Rule}, rulesBy f ps acc = some l → rulesBy g ps acc = some l
  | [], _, _, e => e
  | p :: ps, acc, l, e => by
    unfold rulesBy at e ⊢
    split at e
    · cases e
    · rename_i h6
      rw [if_neg h6]
      split at e
      · rename_i r hr
        rw [h p r hr]
        exact rulesBy_more h e
      · cases e
theorem rulesBy_len {f : List UInt8 → Option Rule} : ∀ {ps : List (List UInt8)} {acc l : List Rule}, rulesBy f ps acc = some l → l.length = acc.length + ps.length
  | [], _, _, e => by cases e; rfl
  | p :: ps, acc, l, e => by
    unfold rulesBy at e
    split at e
    · cases e
    · split at e
      · have := rulesBy_len e
        rw [List.length_append] at this
        simp only [List.length_cons, List.length_nil] at this ⊢
        omega
      · cases e
theorem rulesBy_words : ∀ {l acc : List Rule}, acc.length + l.length ≤ 6 → (∀ r ∈ l, ruleIn r = true) → rulesBy triI (l.map ruleWord) acc = some (acc ++ l)
  | [], acc, _, _ => by simp [rulesBy]
  | r :: l, acc, h, hr => by
    have ih := rulesBy_words (l := l) (acc := acc ++ [r]) (by simp only [List.length_append, List.length_cons, List.length_nil] at h ⊢; omega) (fun x hx => hr x (List.mem_cons_of_mem _ hx))
    rw [List.map_cons, rulesBy, if_neg (by simp only [List.length_cons] at h; omega), triI_word (hr r List.mem_cons_self)]
    simp only
    rw [ih]
    simp
def readRules (t : List UInt8) : List Rule × Bool := if t = [45] then ([], true) else match rulesBy triI (splitL 44 t) [] with
  | some l => if tableOk l && decide (ruleTextOf l = t) then (l, true) else ([], false)
  | none => ([], false)
def readRulesS (t : List UInt8) : List Rule × Bool := if t = [45] then ([], true) else match rulesBy triS (splitL 44 t) [] with
  | some l => if !decide (ruleTextOf l = []) && decide (ruleTextOf l = t) then (l, true) else ([], false)
  | none => ([], false)
theorem itoa_ne (n : Int) : Lib.itoa n ≠ [] := by
  unfold Lib.itoa
  split
  · simp
  · exact decDigits_ne _
theorem ruleTextOf_ne {l : List Rule} (h : tableOk l = true) : ruleTextOf l ≠ [] := by
  unfold ruleTextOf
  rw [h]
  cases l with
  | nil => simp
  | cons r l =>
    rw [if_neg (by simp), if_pos rfl, List.map_cons, Lib.join_cons]
    have := itoa_ne r.room
    simp [ruleWord, this]
/-- The two ways agree. -/
theorem readRulesS_eq (t : List UInt8) : readRulesS t = readRules t := by
  unfold readRulesS readRules
  by_cases h0 : t = [45]
  · rw [if_pos h0, if_pos h0]
  rw [if_neg h0, if_neg h0]
  cases hI : rulesBy triI (splitL 44 t) [] with
  | some l =>
    rw [rulesBy_more (fun _ _ => triS_of) hI]
    simp only
    have hne : l ≠ [] := by
      have := rulesBy_len hI
      have h2 := List.length_pos_iff.2 (splitL_ne 44 t)
      rintro rfl
      simp only [List.length_nil] at this
      omega
    cases hok : tableOk l
    · have : ruleTextOf l = [] := by unfold ruleTextOf; rw [if_neg (by simpa using hne), hok]; rfl
      simp [this]
    · simp [ruleTextOf_ne hok]
  | none =>
    cases hS : rulesBy triS (splitL 44 t) [] with
    | none => rfl
    | some l =>
      simp only
      rw [if_neg]
      intro hc
      simp only [Bool.and_eq_true, Bool.not_eq_true', decide_eq_false_iff_not, decide_eq_true_eq] at hc
      obtain ⟨hn, ht⟩ := hc
      have hne : l ≠ [] := by
        have := rulesBy_len hS
        have h2 := List.length_pos_iff.2 (splitL_ne 44 t)
        rintro rfl
        simp only [List.length_nil] at this
        omega
      have hl0 : ¬ l.length = 0 := by simpa using hne
      cases hok : tableOk l
      · exact hn (by unfold ruleTextOf; rw [if_neg hl0, hok]; rfl)
      obtain ⟨h6, hall⟩ := tableOk_parts hok
      have e : ruleTextOf l = Lib.join (l.map ruleWord) [44] := by unfold ruleTextOf; rw [if_neg hl0, hok]; rfl
      have hs : splitL 44 t = l.map ruleWord := by
        rw [← ht, e]
        exact splitL_join (by simpa using hne) (fun x hx => by
          obtain ⟨r, _, rfl⟩ := List.mem_map.1 hx
          exact ruleWord_no44 r)
      rw [hs, rulesBy_words (by simpa using h6) hall] at hI
      cases hI
theorem rulesBy_six {f : List UInt8 → Option Rule} : ∀ {ps : List (List UInt8)} {acc l : List Rule}, acc.length ≤ 6 → rulesBy f ps acc = some l → l.length ≤ 6
  | [], _, _, h, e => by cases e; exact h
  | p :: ps, acc, l, h, e => by
    unfold rulesBy at e
    split at e
    · cases e
    · split at e
      · exact rulesBy_six (by rw [List.length_append, List.length_singleton]; omega) e
      · cases e
theorem readRules_len (t : List UInt8) : (readRules t).1.length ≤ 6 := by
  unfold readRules
  split
  · simp
  · split
    · rename_i l hl
      have := rulesBy_six (by simp) hl
      split
      · exact this
      · simp
    · simp
/-- A table is read back from its text. -/
theorem readRules_back {l : List Rule} (h : ruleTextOf l ≠ []) : readRules (ruleTextOf l) = (l, true) := by
  unfold ruleTextOf at h ⊢
  split at h
  · rename_i h0
    have : l = [] := by simpa using h0
    subst this
    rfl
  rename_i h0
  rw [if_neg h0]
  cases hok : tableOk l
  · rw [hok] at h; exact (h rfl).elim
  rw [if_pos rfl]
  have hne : l ≠ [] := by simpa using h0
  obtain ⟨h6, hall⟩ := tableOk_parts hok
  have hs : splitL 44 (Lib.join (l.map ruleWord) [44]) = l.map ruleWord := splitL_join (by simpa using hne) (fun x hx => by
    obtain ⟨r, _, rfl⟩ := List.mem_map.1 hx
    exact ruleWord_no44 r)
  have h45 : Lib.join (l.map ruleWord) [44] ≠ [45] := fun e => by
    rw [e] at hs
    cases l with
    | nil => exact hne rfl
    | cons r l =>
      have h3 : splitL 44 [45] = [[45]] := splitL_whole (by decide)
      rw [h3] at hs
      simp only [List.map_cons, List.cons.injEq] at hs
      have h4 := split_word r
      rw [← hs.1, splitL_whole (by decide)] at h4
      have h5 := congrArg List.length h4
      simp at h5
  unfold readRules
  rw [if_neg h45, hs, rulesBy_words (by simpa using h6) hall]
  have e : ruleTextOf l = Lib.join (l.map ruleWord) [44] := by unfold ruleTextOf; rw [if_neg h0, hok]; rfl
  simp [hok, e]
end Go.Proofs.YtkkjjhooamlljaaGreatDoor
namespace Go.Proofs.YtkkjjhooamlljaaGreatDoor
open Go.RowKit

theorem digits_short {m : Nat} (h : m ≤ 1048576) : (Lib.decDigits m).length ≤ 10 := decDigits_short 10 m (by decide) (by omega)
theorem readInt_itoa {n : Int} (h0 : -1048576 ≤ n) (h1 : n ≤ 1048576) : readInt (Lib.itoa n) = (n, true) := by
  by_cases hn : 0 ≤ n
  · obtain ⟨m, rfl⟩ : ∃ m : Nat, n = m := ⟨n.toNat, by omega⟩
    rw [itoa_nat]
    unfold readInt
    have hne : ¬ (1 < (Lib.decDigits m).length ∧ (Lib.decDigits m)[0]? = some 45) := fun ⟨_, h⟩ => by
      cases hd : Lib.decDigits m with
      | nil => exact decDigits_ne m hd
      | cons b r =>
        rw [hd] at h
        have hb := digits_head m hd
        simp only [List.getElem?_cons_zero, Option.some.injEq] at h
        rw [h] at hb
        exact absurd hb.1 (by decide)
    rw [if_neg hne]
    exact readDec_of rfl (digits_short (by omega)) (by omega)
  · rw [itoa_neg' (by omega)]
    unfold readInt
    have hl : 1 < (45 :: Lib.decDigits n.natAbs).length ∧ (45 :: Lib.decDigits n.natAbs)[0]? = some (45 : UInt8) := ⟨by
      have := List.length_pos_iff.2 (decDigits_ne n.natAbs)
      simp only [List.length_cons]; omega, rfl⟩
    rw [if_pos hl, List.drop_succ_cons, List.drop_zero, readDec_of rfl (digits_short (by omega)) (by omega)]
    simp only
    have e : -((n.natAbs : Nat) : Int) = n := by omega
    have e2 : decide ((0 : Int) < (n.natAbs : Nat)) = true := decide_eq_true (by omega)
    rw [e, e2]; rfl
theorem readVal_back {v : Val} (h : valOk v = true) : readVal (valText v) = (v, true) := by
  obtain ⟨k, n⟩ := v
  have hcase : (k = 0 ∧ n = 0) ∨ (k = 3 ∧ n = 0) ∨ (k = 1 ∧ -1048576 ≤ n ∧ n ≤ 1048576) ∨ (k = 2 ∧ -1000 ≤ n ∧ n ≤ 1000) := by
    have h' := h
    simp only [valOk] at h'
    split at h'
    · rename_i hk
      have := of_decide_eq_true h'
      rcases hk with hk | hk
      · exact .inl ⟨hk, this⟩
      · exact .inr (.inl ⟨hk, this⟩)
    · split at h'
      · rename_i hk; simp [inB] at h'; exact .inr (.inr (.inl ⟨hk, h'.1, h'.2⟩))
      · split at h'
        · rename_i hk; simp [inB] at h'; exact .inr (.inr (.inr ⟨hk, h'.1, h'.2⟩))
        · cases h'
  rcases hcase with ⟨rfl, rfl⟩ | ⟨rfl, rfl⟩ | ⟨rfl, h0, h1⟩ | ⟨rfl, h0, h1⟩
  · decide
  · decide
  · have ht : valText ⟨1, n⟩ = Lib.itoa n := by rw [valText_pt (.inl ⟨rfl, rfl⟩), if_pos h, List.append_nil]
    have n1 : Lib.itoa n ≠ [110, 111, 110, 101] := fun e => itoa_no (c := 110) n (by decide) (by rw [e]; decide)
    have n2 : Lib.itoa n ≠ [97, 117, 116, 111] := fun e => itoa_no (c := 97) n (by decide) (by rw [e]; decide)
    have n3 : ¬ (Lib.itoa n).getLast? = some 37 := fun e => itoa_no (c := 37) n (by decide) (List.mem_of_getLast? e)
    rw [ht]
    unfold readVal
    rw [if_neg n1, if_neg n2, if_neg n3]
    unfold readPt
    rw [readInt_itoa h0 h1, if_pos (by simp [h])]
  · have ht : valText ⟨2, n⟩ = Lib.itoa n ++ [37] := by rw [valText_pt (.inr ⟨rfl, rfl⟩), if_pos h]
    have n3 : (Lib.itoa n ++ [37]).getLast? = some 37 := by simp
    have n1 : Lib.itoa n ++ [37] ≠ [110, 111, 110, 101] := fun e => by rw [e] at n3; exact absurd n3 (by decide)
    have n2 : Lib.itoa n ++ [37] ≠ [97, 117, 116, 111] := fun e => by rw [e] at n3; exact absurd n3 (by decide)
    rw [ht]
    unfold readVal
    rw [if_neg n1, if_neg n2, if_pos n3, List.dropLast_concat]
    unfold readPt
    rw [readInt_itoa (by omega) (by omega), if_pos (by simp [h])]
end Go.Proofs.YtkkjjhooamlljaaGreatDoor
namespace Go.Proofs.YtkkjjhooamlljaaGreatDoor
open Go.RowKit
set_option linter.unusedVariables false
set_option linter.unusedSimpArgs false

def okB (u : UInt8) : Bool := decide (32 ≤ u.toNat) && decide (u.toNat ≤ 126)
def partsF (t : List UInt8) : List (List UInt8) := (splitL 32 t).filter fun p => decide (p ≠ [])
def partsOf (t : List UInt8) : List (List UInt8) × Bool := if t.length ≤ 600 ∧ t.all okB = true ∧ (partsF t).length ≤ 12 then (partsF t, true) else ([], false)
/-- Words: none is empty, none holds a blank. -/
structure Words (p : List (List UInt8)) : Prop where
  ne : ∀ x ∈ p, x ≠ []
  no : ∀ x ∈ p, (32 : UInt8) ∉ x
theorem splitL_no (c : UInt8) : ∀ (l : List UInt8), ∀ p ∈ splitL c l, c ∉ p
  | [], p, h => by simp [splitL] at h; subst h; simp
  | x :: l, p, h => by
    have ih := splitL_no c l
    unfold splitL at h
    split at h
    · rcases List.mem_cons.1 h with rfl | h
      · simp
      · exact ih p h
    · rename_i hx
      split at h
      · simp at h; subst h; simpa using fun e => hx e.symm
      · rename_i e
        rcases List.mem_cons.1 h with rfl | h
        · intro hm
          rcases List.mem_cons.1 hm with rfl | hm
          · exact hx rfl
          · exact ih _ (by rw [e]; exact List.mem_cons_self) hm
        · exact ih p (by rw [e]; exact List.mem_cons_of_mem _ h)
theorem partsF_words (t : List UInt8) : Words (partsF t) where
  ne := fun x hx => by
    have := (List.mem_filter.1 hx).2
    simpa using this
  no := fun x hx => splitL_no 32 t x (List.mem_filter.1 hx).1
theorem partsF_join {l : List (List UInt8)} (h : Words l) : partsF (Lib.join l [32]) = l := by
  by_cases h0 : l = []
  · subst h0; rfl
  · unfold partsF
    rw [splitL_join h0 h.no, List.filter_eq_self]
    exact fun x hx => by simpa using h.ne x hx
theorem join_same {l m : List (List UInt8)} (hl : Words l) (hm : Words m) (h : Lib.join l [32] = Lib.join m [32]) : l = m := by
  rw [← partsF_join hl, h, partsF_join hm]
theorem partsF_before (t : List UInt8) : partsF (32 :: t) = partsF t := by
  unfold partsF
  rw [show splitL 32 (32 :: t) = [] :: splitL 32 t by rw [splitL, if_pos rfl]]
  simp
theorem splitL_after (c : UInt8) : ∀ t : List UInt8, splitL c (t ++ [c]) = splitL c t ++ [[]]
  | [] => by simp [splitL]
  | x :: t => by
    rw [List.cons_append, splitL, splitL, splitL_after c t]
    split
    · rfl
    · cases hs : splitL c t with
      | nil => exact (splitL_ne c t hs).elim
      | cons a b => rfl
theorem partsF_after (t : List UInt8) : partsF (t ++ [32]) = partsF t := by
  unfold partsF
  rw [splitL_after, List.filter_append]
  simp
theorem partsOf_words (t : List UInt8) : Words (partsOf t).1 := by
  unfold partsOf
  split
  · exact partsF_words t
  · exact ⟨fun x h => by simp at h, fun x h => by simp at h⟩
theorem partsOf_short (t : List UInt8) : (partsOf t).1.length ≤ 12 ∧ ∀ x ∈ (partsOf t).1, x.length ≤ 600 := by
  unfold partsOf
  split
  · rename_i h
    exact ⟨h.2.2, fun x hx => Nat.le_trans (splitL_short 32 t x (List.mem_filter.1 hx).1) h.1⟩
  · exact ⟨by simp, fun x h => by simp at h⟩

/-- An act whose line is written. -/
def goodA (x : ActL) : Bool := okA x && fitA x && inB x.wide (-1) 1000000000 && inB x.high (-1) 1000000000 && toldA x && decide (x = onlyA x)
theorem actLine_good (x : ActL) : actLine x = if goodA x = true then Lib.join (actParts x) [32] else [] := rfl
structure GoodA (x : ActL) : Prop where
  ok : okA x = true
  fit : fitA x = true
  wide : inB x.wide (-1) 1000000000 = true
  high : inB x.high (-1) 1000000000 = true
  told : toldA x = true
  only : x = onlyA x
theorem goodA_of {x : ActL} (h : goodA x = true) : GoodA x := by
  unfold goodA at h
  simp only [Bool.and_eq_true, decide_eq_true_eq] at h
  exact ⟨h.1.1.1.1.1, h.1.1.1.1.2, h.1.1.1.2, h.1.1.2, h.1.2, h.2⟩
theorem GoodA.good {x : ActL} (h : GoodA x) : goodA x = true := by
  unfold goodA
  rw [h.ok, h.fit, h.wide, h.high, h.told, decide_eq_true h.only]; rfl

/-- What a word may hold: no blank, nothing that a line may not hold. -/
def okW (u : UInt8) : Bool := decide (33 ≤ u.toNat) && decide (u.toNat ≤ 126)
theorem okW_itoa (n : Int) : (Lib.itoa n).all okW = true := List.all_eq_true.2 fun u hu => by
  have := itoa_signs n hu
  unfold okW
  simp only [Bool.and_eq_true, decide_eq_true_eq]
  omega
theorem okW_key {k : List UInt8} (h : hasKey k = true) : k.all okW = true ∧ k ≠ [] := by
  have hall : ∀ k ∈ keyTexts, k.all okW = true ∧ k ≠ [] := by decide
  exact hall k (hasKey_mem.1 h)
theorem okW_val {v : Val} (h : valOk v = true) : (valText v).all okW = true ∧ valText v ≠ [] := by
  unfold valText
  rw [if_pos h]
  split
  · exact ⟨okW_itoa _, itoa_ne _⟩
  · split
    · rw [List.all_append, okW_itoa]
      exact ⟨by decide, by simp⟩
    · split
      · exact ⟨by decide, by decide⟩
      · exact ⟨by decide, by decide⟩
theorem okW_join {l : List (List UInt8)} (h : ∀ x ∈ l, x.all okW = true) : (Lib.join l [44]).all okW = true := by
  cases l with
  | nil => rfl
  | cons y l =>
    rw [Lib.join_cons, List.all_append, h y List.mem_cons_self, Bool.true_and]
    unfold Lib.joinTail
    rw [List.all_eq_true]
    intro u hu
    obtain ⟨z, hz, huz⟩ := List.mem_flatten.1 hu
    obtain ⟨q, hq, rfl⟩ := List.mem_map.1 hz
    rcases List.mem_append.1 huz with h1 | h1
    · have : u = 44 := by simpa using h1
      subst this; decide
    · exact List.all_eq_true.1 (h q (List.mem_cons_of_mem _ hq)) u h1
theorem okW_rules (l : List Rule) : (ruleTextOf l).all okW = true := by
  unfold ruleTextOf
  split
  · decide
  · split
    · refine okW_join fun x hx => ?_
      obtain ⟨r, _, rfl⟩ := List.mem_map.1 hx
      unfold ruleWord
      simp only [List.all_append, okW_itoa, Bool.true_and, Bool.and_true]
      decide
    · rfl
theorem okW_size (n : Int) : (sizeW n).all okW = true ∧ sizeW n ≠ [] := by
  unfold sizeW
  split
  · exact ⟨by decide, by decide⟩
  · exact ⟨okW_itoa _, itoa_ne _⟩
theorem okW_dir (b : Bool) : (dirW b).all okW = true ∧ dirW b ≠ [] := by cases b <;> decide
theorem parts_okW {x : ActL} (h : GoodA x) : ∀ y ∈ actParts x, y.all okW = true ∧ y ≠ [] := by
  have hi := fun n => And.intro (okW_itoa n) (itoa_ne n)
  obtain ⟨_, hk⟩ := okA_kinds h.ok
  have ht := h.told
  unfold toldA at ht
  unfold actParts
  have hI : ∀ n : Int, (Lib.itoa n).all okW = true ∧ Lib.itoa n ≠ [] := hi
  rcases hk with hk | hk | hk | hk | hk | hk | hk <;> rw [hk] at ht ⊢
  · simp only [if_true, List.mem_cons, List.not_mem_nil, or_false, forall_eq]
    decide
  · rw [if_neg (by decide), if_pos rfl]
    simp only [List.mem_cons, List.not_mem_nil, or_false]
    rintro y (rfl | rfl | rfl | rfl)
    · decide
    all_goals exact hI _
  · rw [if_neg (by decide), if_neg (by decide), if_pos rfl]
    simp only [List.mem_cons, List.not_mem_nil, or_false]
    rintro y (rfl | rfl | rfl)
    · decide
    all_goals exact hI _
  · rw [if_neg (by decide), if_neg (by decide), if_neg (by decide), if_pos rfl]
    rw [if_pos rfl, Bool.and_eq_true] at ht
    simp only [List.mem_cons, List.not_mem_nil, or_false]
    rintro y (rfl | rfl | rfl | rfl)
    · decide
    · exact hI _
    · exact okW_key ht.1
    · exact okW_val ht.2
  · rw [if_neg (by decide), if_neg (by decide), if_neg (by decide), if_neg (by decide), if_pos rfl]
    rw [if_neg (by decide), if_pos rfl] at ht
    simp only [List.mem_cons, List.not_mem_nil, or_false]
    rintro y (rfl | rfl | rfl)
    · decide
    · exact hI _
    · exact ⟨okW_rules _, by simpa using ht⟩
  · rw [if_neg (by decide), if_neg (by decide), if_neg (by decide), if_neg (by decide), if_neg (by decide), if_pos rfl]
    simp only [List.mem_cons, List.not_mem_nil, or_false]
    rintro y (rfl | rfl)
    · decide
    all_goals exact hI _
  · rw [if_neg (by decide), if_neg (by decide), if_neg (by decide), if_neg (by decide), if_neg (by decide), if_neg (by decide)]
    simp only [List.mem_cons, List.not_mem_nil, or_false]
    rintro y (rfl | rfl | rfl | rfl | rfl)
    · decide
    · exact hI _
    · exact okW_size _
    · exact okW_size _
    · exact okW_dir _
theorem okW_no {x : List UInt8} (h : x.all okW = true) : (32 : UInt8) ∉ x := fun hm => absurd (List.all_eq_true.1 h 32 hm) (by decide)
theorem parts_words {x : ActL} (h : GoodA x) : Words (actParts x) where
  ne := fun y hy => (parts_okW h y hy).2
  no := fun y hy => okW_no (parts_okW h y hy).1
theorem parts_ne (x : ActL) : actParts x ≠ [] := by
  unfold actParts
  repeat' split
  all_goals simp
theorem parts_five (x : ActL) : (actParts x).length ≤ 5 := by
  unfold actParts
  repeat' split
  all_goals simp
/-- The line of an act is these fields' line: just if the act is good and its fields are these. -/
theorem acc_iff {x : ActL} {p : List (List UInt8)} (hp : Words p) (h0 : p ≠ []) : actLine x = Lib.join p [32] ↔ goodA x = true ∧ actParts x = p := by
  rw [actLine_good]
  constructor
  · intro h
    cases hg : goodA x
    · rw [hg] at h
      simp only [Bool.false_eq_true, if_false] at h
      have := partsF_join hp
      rw [← h] at this
      exact (h0 (this.symm.trans rfl)).elim
    · rw [if_pos hg] at h
      exact ⟨rfl, join_same (parts_words (goodA_of hg)) hp h⟩
  · rintro ⟨hg, rfl⟩
    rw [if_pos hg]

def wordAt (p : List (List UInt8)) (i : Nat) : List UInt8 := (p[i]?).getD []
def readSize (t : List UInt8) : Int × Bool := if t = [97, 110, 121] then (-1, true) else readDec t
def numAt (p : List (List UInt8)) (i : Nat) : Int := (readDec (wordAt p i)).1
def sizeAt (p : List (List UInt8)) (i : Nat) : Int := (readSize (wordAt p i)).1
def zeroA : ActL := ⟨0, 0, 0, 0, [], ⟨0, 0⟩, [], 0, 0, false⟩
/-- The act that fields may be the line of, on the program's side. -/
def guessI (p : List (List UInt8)) : ActL :=
  if wordAt p 0 = [97, 100, 100] then ⟨1, 0, 0, 0, [], ⟨0, 0⟩, [], 0, 0, false⟩
  else if wordAt p 0 = [105, 110, 115, 101, 114, 116] then ⟨2, numAt p 1, numAt p 2, numAt p 3, [], ⟨0, 0⟩, [], 0, 0, false⟩
  else if wordAt p 0 = [114, 101, 109, 111, 118, 101] then ⟨3, numAt p 1, numAt p 2, 0, [], ⟨0, 0⟩, [], 0, 0, false⟩
  else if wordAt p 0 = [115, 101, 116] then ⟨4, numAt p 1, 0, 0, wordAt p 2, (readVal (wordAt p 3)).1, [], 0, 0, false⟩
  else if wordAt p 0 = [116, 97, 98, 108, 101] then ⟨5, numAt p 1, 0, 0, [], ⟨0, 0⟩, (readRules (wordAt p 2)).1, 0, 0, false⟩
  else if wordAt p 0 = [100, 105, 114, 116, 121] then ⟨6, numAt p 1, 0, 0, [], ⟨0, 0⟩, [], 0, 0, false⟩
  else if wordAt p 0 = [108, 97, 121] then ⟨7, numAt p 1, 0, 0, [], ⟨0, 0⟩, [], (readSize (wordAt p 2)).1, (readSize (wordAt p 3)).1, decide (wordAt p 4 = [114, 116, 108])⟩
  else ⟨0, numAt p 1, 0, 0, [], ⟨0, 0⟩, [], 0, 0, false⟩
def kindOf (t : List UInt8) : Int :=
  if t = [97, 100, 100] then 1 else if t = [105, 110, 115, 101, 114, 116] then 2 else if t = [114, 101, 109, 111, 118, 101] then 3 else if t = [115, 101, 116] then 4 else if t = [116, 97, 98, 108, 101] then 5 else if t = [100, 105, 114, 116, 121] then 6 else if t = [108, 97, 121] then 7 else 0
/-- The same, on the reference's side. -/
def guessS (p : List (List UInt8)) : ActL :=
  ⟨kindOf (wordAt p 0), sizeAt p 1,
    if kindOf (wordAt p 0) = 2 ∨ kindOf (wordAt p 0) = 3 then sizeAt p 2 else 0,
    if kindOf (wordAt p 0) = 2 ∨ kindOf (wordAt p 0) = 3 then sizeAt p 3 else 0,
    if kindOf (wordAt p 0) = 4 ∧ p.length = 4 then wordAt p 2 else [],
    if kindOf (wordAt p 0) = 4 ∧ p.length = 4 then (readVal (wordAt p 3)).1 else ⟨0, 0⟩,
    if kindOf (wordAt p 0) = 5 ∧ p.length = 3 then (readRules (wordAt p 2)).1 else [],
    if kindOf (wordAt p 0) = 7 then sizeAt p 2 else 0,
    if kindOf (wordAt p 0) = 7 then sizeAt p 3 else 0,
    if kindOf (wordAt p 0) = 7 then decide (p.length = 5) && decide (wordAt p 4 = [114, 116, 108]) else false⟩

theorem itoa_any (n : Int) : Lib.itoa n ≠ [97, 110, 121] := fun e => itoa_no (c := 97) n (by decide) (by rw [e]; decide)
theorem readSize_itoa {n : Int} (h0 : 0 ≤ n) (h1 : n ≤ 1000000000) : readSize (Lib.itoa n) = (n, true) := by
  unfold readSize
  rw [if_neg (itoa_any n), readDec_itoa h0 h1]
theorem readSize_size {n : Int} (h0 : -1 ≤ n) (h1 : n ≤ 1000000000) : readSize (sizeW n) = (n, true) := by
  unfold sizeW
  split
  · rename_i h; subst h; rfl
  · exact readSize_itoa (by omega) h1
theorem readSize_nil : readSize [] = (0, false) := rfl
theorem dir_back (b : Bool) : decide (dirW b = [114, 116, 108]) = b := by cases b <;> decide

theorem guess_back {x : ActL} (h : GoodA x) : guessI (actParts x) = x ∧ guessS (actParts x) = x := by
  obtain ⟨_, hk⟩ := okA_kinds h.ok
  obtain ⟨hn, hkd, hpl⟩ := fitA_b h.fit
  have hw := inB_b h.wide
  have hh := inB_b h.high
  have ht := h.told
  have ho := h.only
  obtain ⟨kind, n, kid, pl, key, v, rules, wide, high, rtl⟩ := x
  unfold onlyA at ho
  unfold toldA at ht
  simp only [ActL.mk.injEq] at ho
  simp only at hk hn hkd hpl hw hh ht
  have en := readDec_itoa hn.1 hn.2
  have ek := readDec_itoa hkd.1 hkd.2
  have ep := readDec_itoa hpl.1 hpl.2
  have sn := readSize_itoa hn.1 hn.2
  have sk := readSize_itoa hkd.1 hkd.2
  have sp := readSize_itoa hpl.1 hpl.2
  have sw := readSize_size hw.1 hw.2
  have sh := readSize_size hh.1 hh.2
  have sd := dir_back rtl
  rcases hk with rfl | rfl | rfl | rfl | rfl | rfl | rfl <;> simp only [Int.reduceEq, or_self, or_true, true_or, if_true, if_false, true_and] at ho
  · obtain ⟨rfl, rfl, rfl, rfl, rfl, rfl, rfl, rfl, rfl⟩ := ho
    decide
  · obtain ⟨rfl, rfl, rfl, rfl, rfl, rfl⟩ := ho
    constructor
    · simp [guessI, actParts, wordAt, numAt, en, ek, ep]
    · simp [guessS, actParts, wordAt, sizeAt, kindOf, sn, sk, sp]
  · obtain ⟨rfl, rfl, rfl, rfl, rfl, rfl, rfl⟩ := ho
    constructor
    · simp [guessI, actParts, wordAt, numAt, en, ek, ep]
    · simp [guessS, actParts, wordAt, sizeAt, kindOf, sn, sk, readSize_nil]
  · obtain ⟨rfl, rfl, rfl, rfl, rfl, rfl⟩ := ho
    rw [if_pos rfl, Bool.and_eq_true] at ht
    have ev := readVal_back ht.2
    constructor
    · simp [guessI, actParts, wordAt, numAt, en, ev]
    · simp [guessS, actParts, wordAt, sizeAt, kindOf, sn, ev]
  · obtain ⟨rfl, rfl, rfl, rfl, rfl, rfl, rfl⟩ := ho
    rw [if_neg (by decide), if_pos rfl] at ht
    have er := readRules_back (l := rules) (by simpa using ht)
    constructor
    · simp [guessI, actParts, wordAt, numAt, en, er]
    · simp [guessS, actParts, wordAt, sizeAt, kindOf, sn, er]
  · obtain ⟨rfl, rfl, rfl, rfl, rfl, rfl, rfl, rfl⟩ := ho
    constructor
    · simp [guessI, actParts, wordAt, numAt, en]
    · simp [guessS, actParts, wordAt, sizeAt, kindOf, sn]
  · obtain ⟨rfl, rfl, rfl, rfl, rfl, _⟩ := ho
    constructor
    · simp [guessI, actParts, wordAt, numAt, en, sw, sh, sd]
    · simp [guessS, actParts, wordAt, sizeAt, kindOf, sn, sw, sh, sd]

/-- What ReadAct answers. -/
def readAct (t : List UInt8) : ActL × Bool := if (partsOf t).2 = true ∧ (partsOf t).1 ≠ [] ∧ actLine (guessI (partsOf t).1) = Lib.join (partsOf t).1 [32] then (guessI (partsOf t).1, true) else (zeroA, false)
def readActS (t : List UInt8) : ActL × Bool := if (partsOf t).2 = true ∧ (partsOf t).1 ≠ [] ∧ actLine (guessS (partsOf t).1) ≠ [] ∧ actLine (guessS (partsOf t).1) = Lib.join (partsOf t).1 [32] then (guessS (partsOf t).1, true) else (zeroA, false)
theorem join_ne {p : List (List UInt8)} (hp : Words p) (h0 : p ≠ []) : Lib.join p [32] ≠ [] := fun e => by
  have := partsF_join hp
  rw [e] at this
  exact h0 (this.symm.trans rfl)
theorem readActS_eq (t : List UInt8) : readActS t = readAct t := by
  symm
  unfold readActS readAct
  by_cases h1 : (partsOf t).2 = true
  rotate_left
  · rw [if_neg fun h => h1 h.1, if_neg fun h => h1 h.1]
  by_cases h2 : (partsOf t).1 ≠ []
  rotate_left
  · rw [if_neg fun h => h2 h.2.1, if_neg fun h => h2 h.2.1]
  have hp := partsOf_words t
  generalize (partsOf t).1 = p at h2 hp
  have hj := join_ne hp h2
  by_cases h3 : actLine (guessI p) = Lib.join p [32]
  · rw [if_pos ⟨h1, h2, h3⟩]
    obtain ⟨hg, hpp⟩ := (acc_iff hp h2).1 h3
    have hb := (guess_back (goodA_of hg)).2
    rw [hpp] at hb
    rw [hb, if_pos ⟨h1, h2, by rw [h3]; exact hj, h3⟩]
  · rw [if_neg fun h => h3 h.2.2]
    refine (if_neg fun h => h3 ?_).symm
    obtain ⟨_, _, _, h4⟩ := h
    obtain ⟨hg, hpp⟩ := (acc_iff hp h2).1 h4
    have hb := (guess_back (goodA_of hg)).1
    rw [hpp] at hb
    rw [hb]; exact h4
theorem readAct_rules (t : List UInt8) : (readAct t).1.rules.length ≤ 6 := by
  have hr := readRules_len
  have hz : zeroA.rules.length ≤ 6 := by decide
  unfold readAct
  split
  · unfold guessI
    repeat' split
    all_goals first | exact hr _ | exact Nat.zero_le _
  · exact hz

/-- A line with blanks around it. -/
theorem partsOf_round {x : ActL} (h : GoodA x) (hl : (Lib.join (actParts x) [32]).length ≤ 590) : partsOf ([32, 32] ++ Lib.join (actParts x) [32] ++ [32]) = (actParts x, true) := by
  have hw := parts_words h
  have hF : partsF ([32, 32] ++ Lib.join (actParts x) [32] ++ [32]) = actParts x := by
    rw [partsF_after, List.cons_append, partsF_before, List.cons_append, partsF_before, List.nil_append, partsF_join hw]
  have hall : (Lib.join (actParts x) [32]).all okB = true := by
    have hok := fun y hy => (parts_okW h y hy).1
    have hmono : ∀ u, okW u = true → okB u = true := fun u hu => by
      unfold okW at hu
      unfold okB
      simp only [Bool.and_eq_true, decide_eq_true_eq] at hu ⊢
      omega
    generalize actParts x = l at hok
    cases l with
    | nil => rfl
    | cons y l =>
      rw [Lib.join_cons, List.all_append]
      rw [List.all_eq_true.2 fun u hu => hmono u (List.all_eq_true.1 (hok y List.mem_cons_self) u hu), Bool.true_and]
      unfold Lib.joinTail
      rw [List.all_eq_true]
      intro u hu
      obtain ⟨z, hz, huz⟩ := List.mem_flatten.1 hu
      obtain ⟨q, hq, rfl⟩ := List.mem_map.1 hz
      rcases List.mem_append.1 huz with h1 | h1
      · have : u = 32 := by simpa using h1
        subst this; decide
      · exact hmono u (List.all_eq_true.1 (hok q (List.mem_cons_of_mem _ hq)) u h1)
  unfold partsOf
  rw [hF]
  refine if_pos ⟨by simp only [List.length_append, List.length_cons, List.length_nil]; omega, ?_, by have := parts_five x; omega⟩
  simp only [List.all_append, hall]
  decide
theorem readAct_round {x : ActL} (h : GoodA x) (hl : (Lib.join (actParts x) [32]).length ≤ 590) : readAct ([32, 32] ++ actLine x ++ [32]) = (x, true) := by
  have e : actLine x = Lib.join (actParts x) [32] := by rw [actLine_good, if_pos h.good]
  have hb := (guess_back h).1
  unfold readAct
  rw [e, partsOf_round h hl]
  simp only
  rw [hb]
  exact if_pos ⟨trivial, parts_ne x, e⟩
theorem readAct_blank : readAct ([32, 32] ++ [] ++ [32]) = (zeroA, false) := by decide
theorem actLine_len {x : ActL} (h : GoodA x) : (Lib.join (actParts x) [32]).length ≤ 590 := by
  obtain ⟨_, hk⟩ := okA_kinds h.ok
  obtain ⟨hn, hkd, hpl⟩ := fitA_b h.fit
  have hw := sizeW_short h.wide
  have hh := sizeW_short h.high
  have hd := dirW_short x.rtl
  have ln := Lib.itoa_length_le x.n (by omega) (by omega)
  have lk := Lib.itoa_length_le x.kid (by omega) (by omega)
  have lp := Lib.itoa_length_le x.pl (by omega) (by omega)
  have ht := h.told
  unfold toldA at ht
  unfold actParts
  rcases hk with hk | hk | hk | hk | hk | hk | hk <;> rw [hk] at ht ⊢ <;> simp only [Int.reduceEq, if_true, if_false, Lib.join_cons, Lib.joinTail, List.map_cons, List.map_nil, List.flatten_cons, List.flatten_nil, List.length_append, List.length_cons, List.length_nil] at ht ⊢
  · omega
  · omega
  · omega
  · rw [Bool.and_eq_true] at ht
    have h1 := key_short ht.1
    have h2 := valText_short x.v (valOk_b ht.2)
    omega
  · have h1 : (ruleTextOf x.rules).length ≤ 396 := by
      unfold ruleTextOf
      split
      · decide
      · split
        · rename_i hok
          have := ruleJoin_length (tableOk_parts hok).2
          have := (tableOk_parts hok).1
          omega
        · decide
    omega
  · omega
  · omega

end Go.Proofs.YtkkjjhooamlljaaGreatDoor
