/-
  PROVED: contracts of functions and words on memory, several texts put together: what each says stands at its theorems. Conditions: as told there.
-/
import Derived.Test.YtkkjjhooamlljaaGreatDoorMBd
import Derived.ProofKit
set_option linter.unusedVariables false
set_option linter.unusedSimpArgs false
namespace Go.Proofs.YtkkjjhooamlljaaGreatDoor
open Go.RowKit
set_option linter.unusedVariables false
set_option linter.unusedSimpArgs false

theorem l30Told_gen (x : ActL) (a : Option Addr) (c : Nat) (w : World) : Calls Tryz.prog 60 #[.agg (x.row a c).toArray] w fun e w' => e = .returned (.agg ((onlyA x).row (toldAddr x a) (toldCap x c)).toArray) ∧ Mod (fun _ => False) w w' := by
  by_cases hk : x.kind = 1 ∨ x.kind = 2 ∨ x.kind = 3 ∨ x.kind = 4 ∨ x.kind = 5 ∨ x.kind = 6 ∨ x.kind = 7
  · exact l30Told_any x a c w hk
  refine calls_sx Tryz.func60 rfl rfl (fun a h1 h2 h3 => ((Fr.nil h1 h2).arg (h3 0 _ rfl))) ?_
  have e1 : ¬ x.kind = 1 := by omega
  have e2 : ¬ x.kind = 2 := by omega
  have e3 : ¬ x.kind = 3 := by omega
  have e4 : ¬ x.kind = 4 := by omega
  have e5 : ¬ x.kind = 5 := by omega
  have e7 : ¬ x.kind = 7 := by omega
  have hy : onlyA x = ⟨x.kind, x.n, 0, 0, [], ⟨0, 0⟩, [], 0, 0, false⟩ := by simp [onlyA, e1, e2, e3, e4, e5, e7]
  have h1 : toldAddr x a = none := by simp [toldAddr, e5]
  have h2 : toldCap x c = 0 := by simp [toldCap, e5]
  rw [hy, h1, h2]
  repeat (first | refine qap ?_ | refine qak ?_ | refine qaf ?_ | refine qab ?_ | refine SX.block ?_ | refine qaE ?_ | refine qas rfl ?_ | (refine qaO ?_; (refine qaa ((qaz (vals := [(0, .int .i64 x.kind), (1, .int .i64 x.n)]) (cells := [.int .i64 x.kind, .int .i64 x.n, .int .i64 0, .int .i64 0, .string ⟨#[]⟩, .int .i64 0, .int .i64 0, .slice none 0 0, .int .i64 0, .int .i64 0, .bool false]) rfl (by kernel_rfl))) rfl ?_ ?_ ?_); rfl; rfl) | (refine qaF ?_; (first | refine qaa (qat 1 rfl rfl rfl) rfl ?_ ?_ ?_ | refine qaa (qat 2 rfl rfl rfl) rfl ?_ ?_ ?_ | refine qaa (qaq 0 rfl rfl rfl) rfl ?_ ?_ ?_); rfl; rfl) | (refine qam ?_; (refine qaa (qag rfl) rfl ?_ ?_ ?_); rfl; rfl) | (refine qai ?_; (refine qaa (qae rfl) rfl ?_ ?_ ?_); rfl; rfl) | (refine qaK ?_; (refine qaa (qaH rfl rfl (by omega)) rfl ?_ ?_ ?_); rfl; rfl) | (refine qaT ?_; refine SXl.alloc ?_ ?_ (fun g => ?_); rfl; rfl) | (refine l_box ?_; refine qaV ?_ ?_ rfl rfl (fun g => ?_); rfl; rfl) | (refine qaD ?_; first | ((first | refine qah 0 ?_ rfl rfl rfl rfl rfl rfl ?_ | refine qah 1 ?_ rfl rfl rfl rfl rfl rfl ?_ | refine qah 2 ?_ rfl rfl rfl rfl rfl rfl ?_); rfl; simp only [List.set_cons_zero, List.set_cons_succ]) | ((first | refine qad 0 ?_ rfl rfl rfl rfl rfl rfl rfl ?_ | refine qad 1 ?_ rfl rfl rfl rfl rfl rfl rfl ?_ | refine qad 2 ?_ rfl rfl rfl rfl rfl rfl rfl ?_); rfl; simp only [List.set_cons_zero, List.set_cons_succ]) | ((first | refine qac 0 ?_ rfl rfl rfl rfl rfl rfl rfl ?_ | refine qac 1 ?_ rfl rfl rfl rfl rfl rfl rfl ?_ | refine qac 2 ?_ rfl rfl rfl rfl rfl rfl rfl ?_); rfl; simp only [over, List.set_cons_zero, List.set_cons_succ])) | refine qav ?_ | refine qar ?_)
  refine qaN 1 rfl rfl rfl rfl (fun w' hl => ⟨rfl, hl.mod⟩)

set_option maxRecDepth 100000 in
set_option maxHeartbeats 16000000 in
theorem l27AnyAct_o (B gc : Nat) (w : World) (hc : Cur B 100 w gc) :
    Calls Tryz.prog 80 #[.pointer (some ⟨gc, 0, none⟩)] w (DrewO ActQ 100 B gc ActQ.v (fun q => [q.o]) (fun q => q.x.rules.length ≤ 7) w) := by
  refine calls_draw (as_ := [.pointer (some ⟨gc, 0, none⟩)]) hc Tryz.func80 rfl rfl (fun a h1 h2 h3 => ((Fr.nil h1 h2).arg (h3 0 _ rfl))) ?_
  repeat (first | refine qap ?_ | refine qak ?_ | refine qaf ?_ | refine qab ?_ | (refine qau ?_; (refine qaa (qaj rfl) rfl ?_ ?_ ?_); rfl; rfl) | (refine qaT ?_; refine SXl.alloc ?_ ?_ (fun g => ?_); rfl; rfl))
  revert g; intro g2
  refine qaA ?_
  refine SXl.drawOJ rfl rfl rfl (fun w hl => l27Act_o B gc w hl.inv) (fun q hq => ?_)
  obtain ⟨⟨kind, n, kid, pl, key, v, rules, wide, high, rtl⟩, a, c⟩ := q
  simp only at hq
  repeat (first | refine qap ?_ | refine qak ?_ | refine qaf ?_ | refine qab ?_ | (refine qau ?_; (refine qaa (qaj rfl) rfl ?_ ?_ ?_); rfl; rfl) | (refine qaT ?_; refine SXl.alloc ?_ ?_ (fun g => ?_); rfl; rfl) | (refine qaD ?_; first | ((first | refine qah 0 ?_ rfl rfl rfl rfl rfl rfl ?_ | refine qah 1 ?_ rfl rfl rfl rfl rfl rfl ?_ | refine qah 2 ?_ rfl rfl rfl rfl rfl rfl ?_); rfl; simp only [List.set_cons_zero, List.set_cons_succ]) | ((first | refine qad 0 ?_ rfl rfl rfl rfl rfl rfl rfl ?_ | refine qad 1 ?_ rfl rfl rfl rfl rfl rfl rfl ?_ | refine qad 2 ?_ rfl rfl rfl rfl rfl rfl rfl ?_); rfl; simp only [List.set_cons_zero, List.set_cons_succ]) | ((first | refine qac 0 ?_ rfl rfl rfl rfl rfl rfl rfl ?_ | refine qac 1 ?_ rfl rfl rfl rfl rfl rfl rfl ?_ | refine qac 2 ?_ rfl rfl rfl rfl rfl rfl rfl ?_); rfl; simp only [over, List.set_cons_zero, List.set_cons_succ])))
  revert g; intro g3
  refine qaA ?_
  refine SXl.draw (ξ := Int) (v := fun x : Int => .int .i64 x) rfl rfl rfl (fun x => 0 ≤ x ∧ x < 12) (fun w hl => below_d B gc w hl.inv 12 (by decide) (by decide)) (fun y hy => ?_)
  by_cases y0 : y = 0
  · repeat (first | refine qap ?_ | refine qak ?_ | refine qaf ?_ | refine qab ?_ | refine SX.block ?_ | refine qao rfl ?_ | (refine qau ?_; (refine qaa (qaj rfl) rfl ?_ ?_ ?_); rfl; rfl) | (refine qai ?_; (refine qaa (qae rfl) rfl ?_ ?_ ?_); rfl; rfl) | (refine qaK ?_; (refine qaa (qaI rfl rfl (by omega)) rfl ?_ ?_ ?_); rfl; rfl))
    refine qaG ?_
    refine SXl.lit (cells := ([0, 1, 7, 8, -1] : List Int).map (.int .i64)) (z := .int .i64 0) ?_ ?_ rfl (by decide) (by kernel_rfl) rfl (fun gl => ?_)
    rfl; rfl
    skip
    refine qaA ?_
    refine SXl.draw (ξ := Int) (v := fun x => .int .i64 x) rfl rfl rfl (fun x => x ∈ ([0, 1, 7, 8, -1] : List Int)) (fun w hl => pick_d (l := [0, 1, 7, 8, -1]) hl (by decide) (by decide)) (fun u hu => ?_)
    refine SXl.drop1 ?_
    repeat (first | refine qap ?_ | refine qak ?_ | refine qaf ?_ | refine qab ?_ | (refine qaF ?_; (refine qaa (qaq 0 rfl rfl rfl) rfl ?_ ?_ ?_); rfl; rfl) | (refine qam ?_; (refine qaa (qag rfl) rfl ?_ ?_ ?_); rfl; rfl) | (refine qaD ?_; first | ((first | refine qah 0 ?_ rfl rfl rfl rfl rfl rfl ?_ | refine qah 1 ?_ rfl rfl rfl rfl rfl rfl ?_ | refine qah 2 ?_ rfl rfl rfl rfl rfl rfl ?_); rfl; simp only [List.set_cons_zero, List.set_cons_succ]) | ((first | refine qad 0 ?_ rfl rfl rfl rfl rfl rfl rfl ?_ | refine qad 1 ?_ rfl rfl rfl rfl rfl rfl rfl ?_ | refine qad 2 ?_ rfl rfl rfl rfl rfl rfl rfl ?_); rfl; simp only [List.set_cons_zero, List.set_cons_succ]) | ((first | refine qac 0 ?_ rfl rfl rfl rfl rfl rfl rfl ?_ | refine qac 1 ?_ rfl rfl rfl rfl rfl rfl rfl ?_ | refine qac 2 ?_ rfl rfl rfl rfl rfl rfl rfl ?_); rfl; simp only [over, List.set_cons_zero, List.set_cons_succ])) | refine qav ?_ | refine qar ?_)
    refine qaN 1 rfl rfl rfl rfl (fun w' hl => ⟨⟨⟨u, n, kid, pl, key, v, rules, wide, high, rtl⟩, a, c⟩, rfl, by simp only; omega, hl.owns, hl.mod, hl.inv⟩)
  by_cases y1 : y = 1
  · repeat (first | refine qap ?_ | refine qak ?_ | refine qaf ?_ | refine qab ?_ | refine SX.block ?_ | refine qao rfl ?_ | refine qas rfl ?_ | (refine qau ?_; (refine qaa (qaj rfl) rfl ?_ ?_ ?_); rfl; rfl) | (refine qai ?_; (refine qaa (qae rfl) rfl ?_ ?_ ?_); rfl; rfl) | (refine qaK ?_; (first | refine qaa (qaI rfl rfl (by omega)) rfl ?_ ?_ ?_ | refine qaa (qaH rfl rfl (by omega)) rfl ?_ ?_ ?_); rfl; rfl))
    refine qaG ?_
    refine SXl.lit (cells := ([0, -1, 13, 9223372036854775807] : List Int).map (.int .i64)) (z := .int .i64 0) ?_ ?_ rfl (by decide) (by kernel_rfl) rfl (fun gl => ?_)
    rfl; rfl
    skip
    refine qaA ?_
    refine SXl.draw (ξ := Int) (v := fun x => .int .i64 x) rfl rfl rfl (fun x => x ∈ ([0, -1, 13, 9223372036854775807] : List Int)) (fun w hl => pick_d (l := [0, -1, 13, 9223372036854775807]) hl (by decide) (by decide)) (fun u hu => ?_)
    refine SXl.drop1 ?_
    repeat (first | refine qap ?_ | refine qak ?_ | refine qaf ?_ | refine qab ?_ | (refine qaF ?_; (refine qaa (qaq 0 rfl rfl rfl) rfl ?_ ?_ ?_); rfl; rfl) | (refine qam ?_; (refine qaa (qag rfl) rfl ?_ ?_ ?_); rfl; rfl) | (refine qaD ?_; first | ((first | refine qah 0 ?_ rfl rfl rfl rfl rfl rfl ?_ | refine qah 1 ?_ rfl rfl rfl rfl rfl rfl ?_ | refine qah 2 ?_ rfl rfl rfl rfl rfl rfl ?_); rfl; simp only [List.set_cons_zero, List.set_cons_succ]) | ((first | refine qad 0 ?_ rfl rfl rfl rfl rfl rfl rfl ?_ | refine qad 1 ?_ rfl rfl rfl rfl rfl rfl rfl ?_ | refine qad 2 ?_ rfl rfl rfl rfl rfl rfl rfl ?_); rfl; simp only [List.set_cons_zero, List.set_cons_succ]) | ((first | refine qac 0 ?_ rfl rfl rfl rfl rfl rfl rfl ?_ | refine qac 1 ?_ rfl rfl rfl rfl rfl rfl rfl ?_ | refine qac 2 ?_ rfl rfl rfl rfl rfl rfl rfl ?_); rfl; simp only [over, List.set_cons_zero, List.set_cons_succ])) | refine qav ?_ | refine qar ?_)
    refine qaN 1 rfl rfl rfl rfl (fun w' hl => ⟨⟨⟨kind, u, kid, pl, key, v, rules, wide, high, rtl⟩, a, c⟩, rfl, by simp only; omega, hl.owns, hl.mod, hl.inv⟩)
  by_cases y2 : y = 2
  · repeat (first | refine qap ?_ | refine qak ?_ | refine qaf ?_ | refine qab ?_ | refine SX.block ?_ | refine qao rfl ?_ | refine qas rfl ?_ | (refine qau ?_; (refine qaa (qaj rfl) rfl ?_ ?_ ?_); rfl; rfl) | (refine qai ?_; (refine qaa (qae rfl) rfl ?_ ?_ ?_); rfl; rfl) | (refine qaK ?_; (first | refine qaa (qaI rfl rfl (by omega)) rfl ?_ ?_ ?_ | refine qaa (qaH rfl rfl (by omega)) rfl ?_ ?_ ?_); rfl; rfl))
    refine qaA ?_
    refine SXl.drawOJ rfl rfl rfl (fun w hl => l09Any_o B gc w hl.inv) (fun q hr => ?_)
    obtain ⟨ql, qa, qc⟩ := q
    simp only at hr
    repeat (first | refine qap ?_ | refine qak ?_ | refine qaf ?_ | refine qab ?_ | (refine qaF ?_; (refine qaa (qaq 0 rfl rfl rfl) rfl ?_ ?_ ?_); rfl; rfl) | (refine qam ?_; (refine qaa (qag rfl) rfl ?_ ?_ ?_); rfl; rfl) | (refine qaD ?_; first | ((first | refine qah 0 ?_ rfl rfl rfl rfl rfl rfl ?_ | refine qah 1 ?_ rfl rfl rfl rfl rfl rfl ?_ | refine qah 2 ?_ rfl rfl rfl rfl rfl rfl ?_); rfl; simp only [List.set_cons_zero, List.set_cons_succ]) | ((first | refine qad 0 ?_ rfl rfl rfl rfl rfl rfl rfl ?_ | refine qad 1 ?_ rfl rfl rfl rfl rfl rfl rfl ?_ | refine qad 2 ?_ rfl rfl rfl rfl rfl rfl rfl ?_); rfl; simp only [List.set_cons_zero, List.set_cons_succ]) | ((first | refine qac 0 ?_ rfl rfl rfl rfl rfl rfl rfl ?_ | refine qac 1 ?_ rfl rfl rfl rfl rfl rfl rfl ?_ | refine qac 2 ?_ rfl rfl rfl rfl rfl rfl rfl ?_); rfl; simp only [over, List.set_cons_zero, List.set_cons_succ])) | refine qav ?_ | refine qar ?_)
    refine qaN 1 rfl rfl rfl rfl (fun w' hl => ⟨⟨⟨kind, n, kid, pl, key, v, ql, wide, high, rtl⟩, qa, qc⟩, rfl, by simp only; omega, Owns.sub (os := [ActQ.o ⟨⟨kind, n, kid, pl, key, v, ql, wide, high, rtl⟩, qa, qc⟩]) hl.owns (List.Sublist.cons_cons _ (List.nil_sublist _)), hl.mod, hl.inv⟩)
  by_cases y3 : y = 3
  · repeat (first | refine qap ?_ | refine qak ?_ | refine qaf ?_ | refine qab ?_ | refine SX.block ?_ | refine qao rfl ?_ | refine qas rfl ?_ | (refine qau ?_; (refine qaa (qaj rfl) rfl ?_ ?_ ?_); rfl; rfl) | (refine qai ?_; (refine qaa (qae rfl) rfl ?_ ?_ ?_); rfl; rfl) | (refine qaK ?_; (first | refine qaa (qaI rfl rfl (by omega)) rfl ?_ ?_ ?_ | refine qaa (qaH rfl rfl (by omega)) rfl ?_ ?_ ?_); rfl; rfl))
    refine qaA ?_
    refine SXl.draw (ξ := Val) (v := fun v => .agg v.cells.toArray) rfl rfl rfl (fun v => AllOk v.cells) (fun w hl => l04Any_d B gc w hl.inv) (fun u hu => ?_)
    obtain ⟨uk, un⟩ := u
    repeat (first | refine qap ?_ | refine qak ?_ | refine qaf ?_ | refine qab ?_ | (refine qaF ?_; (refine qaa (qaq 0 rfl rfl rfl) rfl ?_ ?_ ?_); rfl; rfl) | (refine qam ?_; (refine qaa (qag rfl) rfl ?_ ?_ ?_); rfl; rfl) | (refine qaD ?_; first | ((first | refine qah 0 ?_ rfl rfl rfl rfl rfl rfl ?_ | refine qah 1 ?_ rfl rfl rfl rfl rfl rfl ?_ | refine qah 2 ?_ rfl rfl rfl rfl rfl rfl ?_); rfl; simp only [List.set_cons_zero, List.set_cons_succ]) | ((first | refine qad 0 ?_ rfl rfl rfl rfl rfl rfl rfl ?_ | refine qad 1 ?_ rfl rfl rfl rfl rfl rfl rfl ?_ | refine qad 2 ?_ rfl rfl rfl rfl rfl rfl rfl ?_); rfl; simp only [List.set_cons_zero, List.set_cons_succ]) | ((first | refine qac 0 ?_ rfl rfl rfl rfl rfl rfl rfl ?_ | refine qac 1 ?_ rfl rfl rfl rfl rfl rfl rfl ?_ | refine qac 2 ?_ rfl rfl rfl rfl rfl rfl rfl ?_); rfl; simp only [over, List.set_cons_zero, List.set_cons_succ])) | refine qav ?_ | refine qar ?_)
    refine qaN 1 rfl rfl rfl rfl (fun w' hl => ⟨⟨⟨kind, n, kid, pl, key, ⟨uk, un⟩, rules, wide, high, rtl⟩, a, c⟩, rfl, by simp only; omega, hl.owns, hl.mod, hl.inv⟩)
  by_cases y4 : y = 4
  · repeat (first | refine qap ?_ | refine qak ?_ | refine qaf ?_ | refine qab ?_ | refine SX.block ?_ | refine qao rfl ?_ | refine qas rfl ?_ | (refine qau ?_; (refine qaa (qaj rfl) rfl ?_ ?_ ?_); rfl; rfl) | (refine qai ?_; (refine qaa (qae rfl) rfl ?_ ?_ ?_); rfl; rfl) | (refine qaK ?_; (first | refine qaa (qaI rfl rfl (by omega)) rfl ?_ ?_ ?_ | refine qaa (qaH rfl rfl (by omega)) rfl ?_ ?_ ?_); rfl; rfl))
    refine qaA ?_
    refine SXl.draw (ξ := List UInt8) (v := fun x => .string ⟨x.toArray⟩) rfl rfl rfl (fun x => x.length ≤ 20) (fun w hl => l26Key_d B gc w hl.inv) (fun u hu => ?_)
    repeat (first | refine qap ?_ | refine qak ?_ | refine qaf ?_ | refine qab ?_ | (refine qaF ?_; (refine qaa (qaq 0 rfl rfl rfl) rfl ?_ ?_ ?_); rfl; rfl) | (refine qam ?_; (refine qaa (qag rfl) rfl ?_ ?_ ?_); rfl; rfl) | (refine qaD ?_; first | ((first | refine qah 0 ?_ rfl rfl rfl rfl rfl rfl ?_ | refine qah 1 ?_ rfl rfl rfl rfl rfl rfl ?_ | refine qah 2 ?_ rfl rfl rfl rfl rfl rfl ?_); rfl; simp only [List.set_cons_zero, List.set_cons_succ]) | ((first | refine qad 0 ?_ rfl rfl rfl rfl rfl rfl rfl ?_ | refine qad 1 ?_ rfl rfl rfl rfl rfl rfl rfl ?_ | refine qad 2 ?_ rfl rfl rfl rfl rfl rfl rfl ?_); rfl; simp only [List.set_cons_zero, List.set_cons_succ]) | ((first | refine qac 0 ?_ rfl rfl rfl rfl rfl rfl rfl ?_ | refine qac 1 ?_ rfl rfl rfl rfl rfl rfl rfl ?_ | refine qac 2 ?_ rfl rfl rfl rfl rfl rfl rfl ?_); rfl; simp only [over, List.set_cons_zero, List.set_cons_succ])) | refine qav ?_ | refine qar ?_)
    refine qaN 1 rfl rfl rfl rfl (fun w' hl => ⟨⟨⟨kind, n, kid, pl, u, v, rules, wide, high, rtl⟩, a, c⟩, rfl, by simp only; omega, hl.owns, hl.mod, hl.inv⟩)
  repeat (first | refine qap ?_ | refine qak ?_ | refine qaf ?_ | refine qab ?_ | refine SX.block ?_ | refine qaE ?_ | refine qas rfl ?_ | (refine qaF ?_; (refine qaa (qaq 0 rfl rfl rfl) rfl ?_ ?_ ?_); rfl; rfl) | (refine qai ?_; (refine qaa (qae rfl) rfl ?_ ?_ ?_); rfl; rfl) | (refine qaK ?_; (refine qaa (qaH rfl rfl (by omega)) rfl ?_ ?_ ?_); rfl; rfl) | (refine qaD ?_; first | ((first | refine qah 0 ?_ rfl rfl rfl rfl rfl rfl ?_ | refine qah 1 ?_ rfl rfl rfl rfl rfl rfl ?_ | refine qah 2 ?_ rfl rfl rfl rfl rfl rfl ?_); rfl; simp only [List.set_cons_zero, List.set_cons_succ]) | ((first | refine qad 0 ?_ rfl rfl rfl rfl rfl rfl rfl ?_ | refine qad 1 ?_ rfl rfl rfl rfl rfl rfl rfl ?_ | refine qad 2 ?_ rfl rfl rfl rfl rfl rfl rfl ?_); rfl; simp only [List.set_cons_zero, List.set_cons_succ]) | ((first | refine qac 0 ?_ rfl rfl rfl rfl rfl rfl rfl ?_ | refine qac 1 ?_ rfl rfl rfl rfl rfl rfl rfl ?_ | refine qac 2 ?_ rfl rfl rfl rfl rfl rfl rfl ?_); rfl; simp only [over, List.set_cons_zero, List.set_cons_succ])) | refine qav ?_ | refine qar ?_)
  refine qaN 1 rfl rfl rfl rfl (fun w' hl => ⟨⟨⟨kind, n, kid, pl, key, v, rules, wide, high, rtl⟩, a, c⟩, rfl, by simp only; omega, hl.owns, hl.mod, hl.inv⟩)

set_option maxRecDepth 100000 in
set_option maxHeartbeats 16000000 in
theorem l30Act_o (B gc : Nat) (w : World) (hc : Cur B 100 w gc) :
    Calls Tryz.prog 35 #[.pointer (some ⟨gc, 0, none⟩)] w (DrewO ActQ 100 B gc ActQ.v (fun q => [q.o]) (fun q => q.x.rules.length ≤ 7) w) := by
  refine calls_draw (as_ := [.pointer (some ⟨gc, 0, none⟩)]) hc Tryz.func35 rfl rfl (fun a h1 h2 h3 => ((Fr.nil h1 h2).arg (h3 0 _ rfl))) ?_
  repeat (first | refine qap ?_ | refine qak ?_ | refine qaf ?_ | refine qab ?_ | (refine qau ?_; (refine qaa (qaj rfl) rfl ?_ ?_ ?_); rfl; rfl) | (refine qaT ?_; refine SXl.alloc ?_ ?_ (fun g => ?_); rfl; rfl))
  revert g; intro g2
  refine qaA ?_
  refine SXl.drawOJ rfl rfl rfl (fun w hl => l27AnyAct_o B gc w hl.inv) (fun q hq => ?_)
  obtain ⟨x, a, c⟩ := q
  simp only at hq
  repeat (first | refine qap ?_ | refine qak ?_ | refine qaf ?_ | refine qab ?_ | (refine qau ?_; (refine qaa (qaj rfl) rfl ?_ ?_ ?_); rfl; rfl) | (refine qaT ?_; refine SXl.alloc ?_ ?_ (fun g => ?_); rfl; rfl) | (refine qaD ?_; first | ((first | refine qad 0 ?_ rfl rfl rfl rfl rfl rfl rfl ?_ | refine qad 1 ?_ rfl rfl rfl rfl rfl rfl rfl ?_ | refine qad 2 ?_ rfl rfl rfl rfl rfl rfl rfl ?_); rfl; simp only [List.set_cons_zero, List.set_cons_succ]) | ((first | refine qac 0 ?_ rfl rfl rfl rfl rfl rfl rfl ?_ | refine qac 1 ?_ rfl rfl rfl rfl rfl rfl rfl ?_ | refine qac 2 ?_ rfl rfl rfl rfl rfl rfl rfl ?_); rfl; simp only [over, List.set_cons_zero, List.set_cons_succ])))
  revert g; intro g3
  refine qaA ?_
  refine SXl.draw (ξ := Bool) (v := fun b => .bool b) rfl rfl rfl (fun _ => True) (fun w hl => once_d B gc w hl.inv 4 (by decide)) (fun b _ => ?_)
  cases b
  rotate_left
  · repeat (first | refine qap ?_ | refine qak ?_ | refine qaf ?_ | refine qab ?_ | refine qao rfl ?_ | (refine qaF ?_; (refine qaa (qaq 0 rfl rfl rfl) rfl ?_ ?_ ?_); rfl; rfl) | (refine qaD ?_; first | ((first | refine qad 0 ?_ rfl rfl rfl rfl rfl rfl rfl ?_ | refine qad 1 ?_ rfl rfl rfl rfl rfl rfl rfl ?_ | refine qad 2 ?_ rfl rfl rfl rfl rfl rfl rfl ?_); rfl; simp only [List.set_cons_zero, List.set_cons_succ]) | ((first | refine qac 0 ?_ rfl rfl rfl rfl rfl rfl rfl ?_ | refine qac 1 ?_ rfl rfl rfl rfl rfl rfl rfl ?_ | refine qac 2 ?_ rfl rfl rfl rfl rfl rfl rfl ?_); rfl; simp only [over, List.set_cons_zero, List.set_cons_succ])) | refine qav ?_ | refine qan ?_)
    refine qaN 1 rfl rfl rfl rfl (fun w' hl => ⟨⟨x, a, c⟩, rfl, hq, hl.owns, hl.mod, hl.inv⟩)
  have hT := fun w => l30Told_gen x a c w
  by_cases h5 : x.kind = 5
  · have e : onlyA x = ⟨x.kind, x.n, 0, 0, [], ⟨0, 0⟩, x.rules, 0, 0, false⟩ := by simp [onlyA, h5]
    have h1 : toldAddr x a = a := by simp [toldAddr, h5]
    have h2 : toldCap x c = c := by simp [toldCap, h5]
    rw [e, h1, h2] at hT
    repeat (first | refine qap ?_ | refine qak ?_ | refine qaf ?_ | refine qab ?_ | refine qaE ?_ | refine qas rfl ?_ | (refine qaA ?_; (refine qaa (qal rfl (fun w hl => hT _)) rfl ?_ ?_ ?_); rfl; rfl) | (refine qaF ?_; (refine qaa (qaq 0 rfl rfl rfl) rfl ?_ ?_ ?_); rfl; rfl) | (refine qaD ?_; first | ((first | refine qad 0 ?_ rfl rfl rfl rfl rfl rfl rfl ?_ | refine qad 1 ?_ rfl rfl rfl rfl rfl rfl rfl ?_ | refine qad 2 ?_ rfl rfl rfl rfl rfl rfl rfl ?_); rfl; simp only [List.set_cons_zero, List.set_cons_succ]) | ((first | refine qac 0 ?_ rfl rfl rfl rfl rfl rfl rfl ?_ | refine qac 1 ?_ rfl rfl rfl rfl rfl rfl rfl ?_ | refine qac 2 ?_ rfl rfl rfl rfl rfl rfl rfl ?_); rfl; simp only [over, List.set_cons_zero, List.set_cons_succ])) | refine qav ?_)
    refine qaN 1 rfl rfl rfl rfl (fun w' hl => ⟨⟨⟨x.kind, x.n, 0, 0, [], ⟨0, 0⟩, x.rules, 0, 0, false⟩, a, c⟩, rfl, hq, hl.owns, hl.mod, hl.inv⟩)
  · have hr : (onlyA x).rules = [] := by simp [onlyA, h5]
    have h1 : toldAddr x a = none := by simp [toldAddr, h5]
    have h2 : toldCap x c = 0 := by simp [toldCap, h5]
    rw [h1, h2] at hT
    generalize onlyA x = y at hT hr
    obtain ⟨kind, n, kid, pl, key, v, rules, wide, high, rtl⟩ := y
    simp only at hr
    subst hr
    refine SXl.ownNil 70 3 ?_
    repeat (first | refine qap ?_ | refine qak ?_ | refine qaf ?_ | refine qab ?_ | refine qaE ?_ | refine qas rfl ?_ | (refine qaA ?_; (refine qaa (qal rfl (fun w hl => hT _)) rfl ?_ ?_ ?_); rfl; rfl) | (refine qaF ?_; (refine qaa (qaq 0 rfl rfl rfl) rfl ?_ ?_ ?_); rfl; rfl) | (refine qaD ?_; first | ((first | refine qad 0 ?_ rfl rfl rfl rfl rfl rfl rfl ?_ | refine qad 1 ?_ rfl rfl rfl rfl rfl rfl rfl ?_ | refine qad 2 ?_ rfl rfl rfl rfl rfl rfl rfl ?_); rfl; simp only [List.set_cons_zero, List.set_cons_succ]) | ((first | refine qac 0 ?_ rfl rfl rfl rfl rfl rfl rfl ?_ | refine qac 1 ?_ rfl rfl rfl rfl rfl rfl rfl ?_ | refine qac 2 ?_ rfl rfl rfl rfl rfl rfl rfl ?_); rfl; simp only [over, List.set_cons_zero, List.set_cons_succ])) | refine qav ?_)
    refine qaN 1 rfl rfl rfl rfl (fun w' hl => ⟨⟨⟨kind, n, kid, pl, key, v, [], wide, high, rtl⟩, none, 0⟩, rfl, by simp, Owns.sub (os := [ActQ.o ⟨⟨kind, n, kid, pl, key, v, [], wide, high, rtl⟩, none, 0⟩]) hl.owns (List.Sublist.cons_cons _ (List.nil_sublist _)), hl.mod, hl.inv⟩)
end Go.Proofs.YtkkjjhooamlljaaGreatDoor
namespace Go.Proofs.YtkkjjhooamlljaaGreatDoor
open Go.RowKit

/-- The cells cs read as a datum of type t. -/
def Rd (P : Program) (w : World) (t : TypeId) (cs : List Value) : Prop :=
  ∃ (H : Type) (enc : TypeId × Value → H) (fuel : Nat) (x : DataW H × List MemPlace), DataW.trod enc P w 0 (fun _ => true) true fuel t cs = some x

section
variable {P : Program} {w : World} {t e : TypeId} {cs : List Value}
theorem Rd.int {k : IntKind} (h : Rd P w t cs) (hu : P.underlying t = some (.int k)) : ∃ n, cs = [.int k n] ∧ (Lit.int k n).wf = true := by
  obtain ⟨H, enc, fuel, x, h⟩ := h
  obtain ⟨n, h1, _, h2⟩ := DataW.trod_int hu h
  exact ⟨n, h1, h2⟩
theorem Rd.bool (h : Rd P w t cs) (hu : P.underlying t = some .bool) : ∃ b, cs = [.bool b] := by
  obtain ⟨H, enc, fuel, x, h⟩ := h
  obtain ⟨n, h1, _⟩ := DataW.trod_bool hu h
  exact ⟨n, h1⟩
theorem Rd.string (h : Rd P w t cs) (hu : P.underlying t = some .string) : ∃ s : ByteArray, cs = [.string s] ∧ s.size ≤ maxLen := by
  obtain ⟨H, enc, fuel, x, h⟩ := h
  obtain ⟨n, h1, _, h2⟩ := DataW.trod_string hu h
  exact ⟨n, h1, h2⟩
theorem Rd.struct {fs : Array Field} (h : Rd P w t cs) (hu : P.underlying t = some (.struct fs)) :
    cs.length = P.cellsOf t ∧ ∀ (i : Nat) (f : Field), fs[i]? = some f → Rd P w f.type ((cs.drop f.offset).take (P.cellsOf f.type)) := by
  obtain ⟨H, enc, fuel, x, h⟩ := h
  obtain ⟨xs, n, _, _, hl, hxl, hf⟩ := DataW.trod_struct hu h
  refine ⟨hl, fun i f hi => ?_⟩
  have h1 := hf i f hi
  have hil : i < xs.length := by rw [hxl]; exact (Array.getElem?_eq_some_iff.1 hi).1
  rw [List.getElem?_eq_getElem hil] at h1
  exact ⟨H, enc, n, _, h1⟩
theorem Rd.slice (h : Rd P w t cs) (hu : P.underlying t = some (.slice e)) (hc : 0 < P.cellsOf e) :
    ∃ (a : Option Addr) (len cap : Nat), cs = [.slice a len cap] ∧ len ≤ cap ∧ cap ≤ maxLen ∧
      (len = 0 ∨ ∃ b o, a = some ⟨b, o, none⟩ ∧ b < w.heap.size ∧ ∀ i, i < len → ∃ cs', (cs'.length = P.cellsOf e ∧ ∀ (j : Nat) (v : Value), cs'[j]? = some v → w.cell? ⟨b, o + i * P.cellsOf e + j, none⟩ = some v) ∧ Rd P w e cs') := by
  obtain ⟨H, enc, fuel, x, h⟩ := h
  rcases DataW.trod_slice hu h with ⟨h1, _⟩ | ⟨a, len, cap, elems, rest, n, _, h1, _, _, hl, hm, hlen, hel, _⟩
  · exact ⟨_, _, _, h1, Nat.le_refl _, Nat.zero_le _, .inl rfl⟩
  · refine ⟨some a, len, cap, h1, hl, hm, ?_⟩
    by_cases h0 : len = 0
    · exact .inl h0
    · have rows : ∀ i, i < len → ∃ cs', (cs'.length = P.cellsOf e ∧ ∀ (j : Nat), j < P.cellsOf e → w.cell? ((a.add (i * P.cellsOf e)).add j) = cs'[j]?) ∧ Rd P w e cs' := by
        intro i hi
        have h2 := hel i hi
        rw [List.getElem?_eq_getElem (by omega)] at h2
        obtain ⟨cs', h3, h4⟩ := Option.bind_eq_some_iff.1 h2
        obtain ⟨_, h5, h6⟩ := World.cells?_some h3
        exact ⟨cs', ⟨h5, h6⟩, H, enc, n, _, h4⟩
      obtain ⟨b, o, s⟩ := a
      have hs : s = none := by
        obtain ⟨cs', ⟨h5, h6⟩, _⟩ := rows 0 (by omega)
        have h7 := h6 0 hc
        rw [List.getElem?_eq_getElem (by omega)] at h7
        simpa [Addr.add] using World.cell?_spot h7
      subst hs
      have ea : ∀ p q r : Nat, ((⟨p, q, none⟩ : Addr).add r) = ⟨p, q + r, none⟩ := by intro p q r; unfold Addr.add; split <;> simp_all
      have hb : b < w.heap.size := by
        obtain ⟨cs', ⟨h5, h6⟩, _⟩ := rows 0 (by omega)
        have h7 := h6 0 hc
        rw [List.getElem?_eq_getElem (by omega), ea, ea] at h7
        exact World.block_lt_of_cell? w ⟨b, _, none⟩ h7
      refine .inr ⟨b, o, rfl, hb, fun i hi => ?_⟩
      obtain ⟨cs', ⟨h5, h6⟩, h7⟩ := rows i hi
      refine ⟨cs', ⟨h5, fun j v hj => ?_⟩, h7⟩
      have h8 := h6 j (by have := (List.getElem?_eq_some_iff.1 hj).1; omega)
      rw [ea, ea] at h8
      rw [h8, hj]
end

theorem rd_list {α : Type} {rep : List Value → α → Prop} {Q : Nat → List Value → Prop} (n : Nat) (h : ∀ i, i < n → ∃ cs, Q i cs ∧ ∃ x, rep cs x) :
    ∃ (rows : List (List Value)) (l : List α), rows.length = n ∧ l.length = n ∧ (∀ (i : Nat) (r : List Value), rows[i]? = some r → Q i r) ∧ ∀ (i : Nat) (r : List Value) (x : α), rows[i]? = some r → l[i]? = some x → rep r x := by
  induction n with
  | zero => exact ⟨[], [], rfl, rfl, fun i r h => by simp at h, fun i r x h => by simp at h⟩
  | succ n ih =>
    obtain ⟨rows, l, h1, h2, h3, h4⟩ := ih fun i hi => h i (by omega)
    obtain ⟨cs, hQ, x, hr⟩ := h n (by omega)
    refine ⟨rows ++ [cs], l ++ [x], by simp [h1], by simp [h2], fun i r hi => ?_, fun i r y hi hl => ?_⟩
    · by_cases e : i < rows.length
      · rw [List.getElem?_append_left e] at hi
        exact h3 i r hi
      · rw [List.getElem?_append_right (by omega)] at hi
        have : i = n := by
          have := (List.getElem?_eq_some_iff.1 hi).1
          simp at this
          omega
        subst this
        rw [h1, Nat.sub_self] at hi
        simp at hi
        subst hi
        exact hQ
    · by_cases e : i < rows.length
      · rw [List.getElem?_append_left e] at hi
        rw [List.getElem?_append_left (by omega)] at hl
        exact h4 i r y hi hl
      · rw [List.getElem?_append_right (by omega)] at hi
        rw [List.getElem?_append_right (by omega)] at hl
        have : i = n := by
          have := (List.getElem?_eq_some_iff.1 hi).1
          simp at this
          omega
        subst this
        rw [h1, Nat.sub_self] at hi
        rw [h2, Nat.sub_self] at hl
        simp at hi hl
        subst hi; subst hl
        exact hr

/-- A slice argument reads as a list. -/
theorem Rd.list {P : Program} {w : World} {t e : TypeId} {cs : List Value} {α : Type} {rep : World → List Value → α → Prop} {sz : Nat} (h : Rd P w t cs) (hu : P.underlying t = some (.slice e)) (hsz : P.cellsOf e = sz) (hp : 0 < sz)
    (hr : ∀ cs', Rd P w e cs' → ∃ x, rep w cs' x) :
    ∃ (a : Option Addr) (l : List α) (cap : Nat), cs = [.slice a l.length cap] ∧ l.length ≤ cap ∧ cap ≤ maxLen ∧ SliceAt rep sz (fun k => k < w.heap.size) w a l := by
  obtain ⟨a, len, cap, hcs, hl, hm, hrest⟩ := h.slice hu (by omega)
  rw [hsz] at hrest
  rcases hrest with h0 | ⟨b, o, rfl, hb, hrows⟩
  · subst h0
    exact ⟨a, [], cap, hcs, hl, hm, SliceAt.nil⟩
  · obtain ⟨rows, l, h1, h2, h3, h4⟩ := rd_list (rep := rep w) (Q := fun i cs' => cs'.length = sz ∧ ∀ (j : Nat) (v : Value), cs'[j]? = some v → w.cell? ⟨b, o + i * sz + j, none⟩ = some v) len
      fun i hi => by
        obtain ⟨cs', hQ, hrd⟩ := hrows i hi
        exact ⟨cs', hQ, hr cs' hrd⟩
    subst h2
    exact ⟨_, l, cap, hcs, hl, hm, rows, .inr ⟨b, o, rfl, hb, hb, h3⟩, h1, h4⟩

/-- A reading with a property of each element: the reading, and the property of all. -/
theorem SliceAt.split {α : Type} {cells : α → List Value} {p : α → Prop} {sz : Nat} {R : Nat → Prop} {w : World} {a : Option Addr} {l : List α} (h : SliceAt (fun _ r x => r = cells x ∧ p x) sz R w a l) :
    SliceAt (Flat cells) sz R w a l ∧ ∀ x ∈ l, p x := by
  obtain ⟨rows, h1, h2, h3⟩ := h
  refine ⟨⟨rows, h1, h2, fun i r x hr hx => (h3 i r x hr hx).1⟩, fun x hx => ?_⟩
  obtain ⟨i, hi, rfl⟩ := List.mem_iff_getElem.1 hx
  have hr : rows[i]? = some (rows[i]'(by omega)) := List.getElem?_eq_getElem (by omega)
  exact (h3 i _ _ hr (List.getElem?_eq_getElem hi)).2

end Go.Proofs.YtkkjjhooamlljaaGreatDoor
namespace Go.Proofs.YtkkjjhooamlljaaGreatDoor
open Go.RowKit

theorem tooBig_any (a : Option Addr) (len cap : Nat) (h : len ≤ 9223372036854775807) (w : World) : Calls Tryz.prog 10 #[.slice a len cap] w fun e w' => e = .returned (.bool (decide (1048576 < len))) ∧ w = w' := by
  by_cases hl : 1048576 < len
  · go_enter Tryz.func10, Tryz.ntmps10
    go_wp2
    go_ret
    exact ⟨ret_bool (by simp; omega), rfl⟩
  · go_enter Tryz.func10, Tryz.ntmps10
    go_wp2
    go_ret
    exact ⟨ret_bool (by simp; omega), rfl⟩

end Go.Proofs.YtkkjjhooamlljaaGreatDoor
namespace Go.Proofs.YtkkjjhooamlljaaGreatDoor
open Go.RowKit
set_option linter.unusedVariables false
set_option linter.unusedSimpArgs false

theorem bytes_of_rd {w : World} {a : Option Addr} {len cap : Nat} (rd : Rd Tryz.prog w 34 [.slice a len cap]) : len ≤ maxLen ∧ Bytes w.heap.size w a len := by
  have hc : Tryz.prog.cellsOf 5 = 1 := by kernel_rfl
  obtain ⟨a', len', cap', e, hl, hm, h⟩ := rd.slice Tryz.underlying34 (by rw [hc]; decide)
  simp only [List.cons.injEq, Value.slice.injEq, and_true] at e
  obtain ⟨rfl, rfl, rfl⟩ := e
  refine ⟨by omega, ?_⟩
  rcases h with h | ⟨b, o, h1, h2, h3⟩
  · exact .inl h
  · refine .inr ⟨b, o, h1, h2, fun i hi => ?_⟩
    obtain ⟨cs, ⟨_, h4⟩, h5⟩ := h3 i hi
    obtain ⟨n, rfl, h6⟩ := h5.int Tryz.underlying5
    have h7 := h4 0 _ rfl
    rw [hc, Nat.mul_one, Nat.add_zero] at h7
    simp [Lit.wf, IntKind.min, IntKind.max, IntKind.signed, IntKind.bits] at h6
    exact ⟨n, by omega, by omega, h7⟩
theorem bigT (a : Option Addr) {len : Nat} (cap : Nat) (hl : len ≤ maxLen) (h : 1048576 < len) (w : World) : Calls Tryz.prog 10 #[.slice a len cap] w fun e w' => e = .returned (.bool true) ∧ Mod (fun _ => False) w w' :=
  (tooBig_any a len cap (by unfold maxLen at hl; omega) w).mono fun e w' ⟨h1, h2⟩ => ⟨by rw [h1, decide_eq_true h], h2 ▸ Mod.refl _ _⟩
theorem bigF (a : Option Addr) {len : Nat} (cap : Nat) (hl : len ≤ maxLen) (h : ¬ 1048576 < len) (w : World) : Calls Tryz.prog 10 #[.slice a len cap] w fun e w' => e = .returned (.bool false) ∧ Mod (fun _ => False) w w' :=
  (tooBig_any a len cap (by unfold maxLen at hl; omega) w).mono fun e w' ⟨h1, h2⟩ => ⟨by rw [h1, decide_eq_false h], h2 ▸ Mod.refl _ _⟩
/-- A fact of no memory. -/
def factRes (K : Prop) : Res where
  foot := fun _ => False
  says := fun _ => K
  stable := fun _ _ _ h _ _ => h
theorem SXl.fact {P : Program} {n : Nat} {W : World} {R : Rg W} {L : List Blk} {O : List Own} {E : List Res} {f : List (Nat × Value)} {Q : Exit → Go.Act → World → Prop} {ops : Array Oper} {rest : List Oper} {K : Prop} (h : K → SXl P n W R ops L O E f rest Q) : SXl P n W R ops L O (factRes K :: E) f rest Q := ⟨fun a w hf hl => (h (hl.res _ (.head _)).1).run a w hf (hl.dropE)⟩

/-- The bytes of an argument, later. -/
theorem bytes_loc {W : World} {R : Rg W} {L : List Blk} {O : List Own} {E : List Res} {w : World} {a : Option Addr} {len : Nat} (hy : Bytes W.heap.size W a len) (hR : ∀ k, k < W.heap.size → ¬ R.p k) (hl : Loc W R L O E w) : Bytes w.heap.size w a len := by
  have := hy.same (w' := w) fun k hk => hl.mod.block k hk (hR k hk)
  rcases this with h | ⟨b, o, h1, h2, h3⟩
  · exact .inl h
  · exact .inr ⟨b, o, h1, Nat.lt_of_lt_of_le h2 hl.mod.size, h3⟩
end Go.Proofs.YtkkjjhooamlljaaGreatDoor
namespace Go.Proofs.YtkkjjhooamlljaaGreatDoor
open Go.RowKit
set_option linter.unusedVariables false
set_option linter.unusedSimpArgs false

theorem actLine_590 (x : ActL) : (actLine x).length ≤ 590 := by
  rw [actLine_good]
  cases h : goodA x
  · simp
  · rw [if_pos rfl]; exact actLine_len (goodA_of h)
def lineTails : List (List UInt8) := [[32, 49], [120], [32, 114, 116, 108]]
def oddLines : List (List UInt8) := [[], [97, 100, 100], [97, 100, 100, 32, 49], [105, 110, 115, 101, 114, 116, 32, 49, 32, 50], [105, 110, 115, 101, 114, 116, 32, 49, 32, 50, 32, 97, 110, 121], [115, 101, 116, 32, 49, 32, 103, 114, 111, 119, 32, 49], [115, 101, 116, 32, 49, 32, 103, 114, 111, 119], [115, 101, 116, 32, 49, 32, 103, 114, 111, 119, 115, 32, 49], [108, 97, 121, 32, 49, 32, 97, 110, 121, 32, 97, 110, 121, 32, 108, 116, 114], [108, 97, 121, 32, 49, 32, 53, 32, 53], [116, 97, 98, 108, 101, 32, 49, 32, 45], [100, 105, 114, 116, 121], [100, 105, 114, 116, 121, 32, 48, 49], [119, 97, 108, 107], [35, 32, 97, 100, 100]]
def oddRules : List (List UInt8) := [[], [45], [49, 58, 50], [49, 58, 50, 58, 51, 44], [48, 49, 58, 50, 58, 51], [45, 49, 58, 48, 58, 48], [49, 58, 45, 50, 58, 51], [49, 58, 50, 58, 51, 44, 52, 58, 53, 58, 54], [120, 58, 50, 58, 51], [45, 50, 58, 48, 58, 48], [48, 58, 48, 58, 48, 44, 48, 58, 48, 58, 48, 44, 48, 58, 48, 58, 48, 44, 48, 58, 48, 58, 48, 44, 48, 58, 48, 58, 48, 44, 48, 58, 48, 58, 48, 44, 48, 58, 48, 58, 48]]
theorem own_rules {W : World} {L : List Blk} {O : List Own} {E : List Res} {w : World} {l : List Rule} {a : Option Addr} {c : Nat} (hl : Loc W (Rg.none W) L O E w) (hm : (⟨.slice a l.length c, 70, 3, l.length, (l.map Rule.cells).flatten⟩ : Own) ∈ O) : SliceAt (Flat Rule.cells) 3 (fun k => W.heap.size ≤ k) w a l := own_slice (hl.own _ hm).1 (fun _ => rfl) (by decide)
section
variable (a : Option Addr) (len cap : Nat) (w : World) (hlen : len ≤ 1048576) (hy : Bytes w.heap.size w a len)
include hlen hy
set_option maxRecDepth 100000 in
set_option maxHeartbeats 4000000 in
theorem drawActLine_o : Calls Tryz.prog 11 #[.slice a len cap] w (NewO ActQ ActQ.v (fun q => [q.o]) (fun q => q.x.rules.length ≤ 7) w) := by
  refine calls_sx Tryz.func11 rfl rfl (fun a h1 h2 h3 => ((Fr.nil h1 h2).arg (h3 0 _ rfl))) ?_
  repeat (first | refine qap ?_ | refine qak ?_ | refine qaf ?_ | refine qab ?_ | (refine qau ?_; (refine qaa (qaj rfl) rfl ?_ ?_ ?_); rfl; rfl) | (refine qaT ?_; refine SXl.alloc ?_ ?_ (fun g => ?_); rfl; rfl))
  refine qaA ?_
  refine SXl.newCur rfl rfl rfl (fun w hl => l01New_loc hlen hy hl) (fun gc => ?_)
  skip
  refine qaA ?_
  refine SXl.drawO 0 rfl rfl rfl rfl (fun w hl hc => l30Act_o _ _ w hc) (fun q hq => ?_)
  repeat (first | refine qak ?_ | refine qab ?_ | (refine qaD ?_; first | ((first | refine qad 0 ?_ rfl rfl rfl rfl rfl rfl rfl ?_ | refine qad 1 ?_ rfl rfl rfl rfl rfl rfl rfl ?_ | refine qad 2 ?_ rfl rfl rfl rfl rfl rfl rfl ?_); rfl; simp only [List.set_cons_zero, List.set_cons_succ]) | ((first | refine qac 0 ?_ rfl rfl rfl rfl rfl rfl rfl ?_ | refine qac 1 ?_ rfl rfl rfl rfl rfl rfl rfl ?_ | refine qac 2 ?_ rfl rfl rfl rfl rfl rfl rfl ?_); rfl; simp only [over, List.set_cons_zero, List.set_cons_succ])) | refine qav ?_)
  refine qaN 0 rfl rfl rfl rfl (fun w' hl => ⟨q, rfl, hq, hl.owns, hl.mod⟩)
set_option maxRecDepth 100000 in
set_option maxHeartbeats 4000000 in
theorem drawRuleText_o : Calls Tryz.prog 13 #[.slice a len cap] w (NewO RuleQ RuleQ.v (fun q => [q.o]) (fun q => q.l.length ≤ 7) w) := by
  refine calls_sx Tryz.func13 rfl rfl (fun a h1 h2 h3 => ((Fr.nil h1 h2).arg (h3 0 _ rfl))) ?_
  repeat (first | refine qap ?_ | refine qak ?_ | refine qaf ?_ | refine qab ?_ | (refine qau ?_; (refine qaa (qaj rfl) rfl ?_ ?_ ?_); rfl; rfl) | (refine qaT ?_; refine SXl.alloc ?_ ?_ (fun g => ?_); rfl; rfl))
  refine qaA ?_
  refine SXl.newCur rfl rfl rfl (fun w hl => l01New_loc hlen hy hl) (fun gc => ?_)
  skip
  refine qaA ?_
  refine SXl.drawO 0 rfl rfl rfl rfl (fun w hl hc => l09Any_o _ _ w hc) (fun q hq => ?_)
  repeat (first | refine qak ?_ | refine qab ?_ | (refine qaD ?_; first | ((first | refine qad 0 ?_ rfl rfl rfl rfl rfl rfl rfl ?_ | refine qad 1 ?_ rfl rfl rfl rfl rfl rfl rfl ?_ | refine qad 2 ?_ rfl rfl rfl rfl rfl rfl rfl ?_); rfl; simp only [List.set_cons_zero, List.set_cons_succ]) | ((first | refine qac 0 ?_ rfl rfl rfl rfl rfl rfl rfl ?_ | refine qac 1 ?_ rfl rfl rfl rfl rfl rfl rfl ?_ | refine qac 2 ?_ rfl rfl rfl rfl rfl rfl rfl ?_); rfl; simp only [over, List.set_cons_zero, List.set_cons_succ])) | refine qav ?_)
  refine qaN 0 rfl rfl rfl rfl (fun w' hl => ⟨q, rfl, hq, hl.owns, hl.mod⟩)
set_option maxRecDepth 100000 in
set_option maxHeartbeats 8000000 in
theorem drawReadAct_d : Calls Tryz.prog 16 #[.slice a len cap] w fun e w' => ∃ t : List UInt8, e = .returned (.string ⟨t.toArray⟩) ∧ t.length ≤ 2000 ∧ Mod (fun _ => False) w w' := by
  refine calls_sx Tryz.func16 rfl rfl (fun a h1 h2 h3 => ((Fr.nil h1 h2).arg (h3 0 _ rfl))) ?_
  repeat (first | refine qap ?_ | refine qak ?_ | refine qaf ?_ | refine qab ?_ | (refine qau ?_; (refine qaa (qaj rfl) rfl ?_ ?_ ?_); rfl; rfl) | (refine qai ?_; (refine qaa (qae rfl) rfl ?_ ?_ ?_); rfl; rfl))
  refine qaA ?_
  refine SXl.newCur rfl rfl rfl (fun w hl => l01New_loc hlen hy hl) (fun gc => ?_)
  repeat (first | refine qap ?_ | refine qak ?_ | refine qaf ?_ | refine qab ?_ | (refine qau ?_; (refine qaa (qaj rfl) rfl ?_ ?_ ?_); rfl; rfl) | (refine qai ?_; (refine qaa (qae rfl) rfl ?_ ?_ ?_); rfl; rfl))
  refine qaA ?_
  refine SXl.drawO 0 rfl rfl rfl rfl (fun w hl hc => l30Act_o _ _ w hc) (fun q hq => ?_)
  obtain ⟨x, xa, xc⟩ := q
  simp only at hq
  have hA := fun R w h => sactLine_any x xa xc R w (by omega) h
  have hn := actLine_590 x
  repeat (first | refine qap ?_ | refine qak ?_ | refine qaf ?_ | refine qab ?_ | (refine qaA ?_; (refine qaa (qal rfl (fun w hl => hA _ _ (own_rules hl (.head _)))) rfl ?_ ?_ ?_); rfl; rfl) | (refine qau ?_; (refine qaa (qaj rfl) rfl ?_ ?_ ?_); rfl; rfl) | (refine qai ?_; (refine qaa (qae rfl) rfl ?_ ?_ ?_); rfl; rfl))
  generalize actLine x = s at hn
  refine qaA ?_
  refine SXl.drawC (ξ := Int) (v := fun x : Int => .int .i64 x) 0 rfl rfl rfl rfl (fun x => 0 ≤ x ∧ x < 6) (fun w hl hc => below_d _ _ w hc 6 (by decide) (by decide)) (fun y hy => ?_)
  by_cases y0 : y = 0
  · repeat (first | refine qap ?_ | refine qak ?_ | refine qaf ?_ | refine qab ?_ | refine SX.block ?_ | refine qao rfl ?_ | (refine l_add ?_; (refine qaa ((OpW.cat rfl rfl (by simp only [List.length_append, List.length_cons, List.length_nil]; omega))) rfl ?_ ?_ ?_); rfl; rfl) | (refine qau ?_; (refine qaa (qaj rfl) rfl ?_ ?_ ?_); rfl; rfl) | (refine qai ?_; (refine qaa (qae rfl) rfl ?_ ?_ ?_); rfl; rfl) | (refine qaK ?_; (refine qaa (qaI rfl rfl (by omega)) rfl ?_ ?_ ?_); rfl; rfl) | refine qav ?_ | refine qan ?_ | refine qaw ?_)
    refine qaC rfl rfl (fun w' hl => ⟨[32, 32] ++ s ++ [32, 32], rfl, by first | omega | (simp only [List.length_append, List.length_cons, List.length_nil]; omega), hl.mod⟩)
  by_cases y1 : y = 1
  · repeat (first | refine qap ?_ | refine qak ?_ | refine qaf ?_ | refine qab ?_ | refine SX.block ?_ | refine qao rfl ?_ | refine qas rfl ?_ | (refine qau ?_; (refine qaa (qaj rfl) rfl ?_ ?_ ?_); rfl; rfl) | (refine qai ?_; (refine qaa (qae rfl) rfl ?_ ?_ ?_); rfl; rfl) | (refine qaK ?_; (first | refine qaa (qaI rfl rfl (by omega)) rfl ?_ ?_ ?_ | refine qaa (qaH rfl rfl (by omega)) rfl ?_ ?_ ?_); rfl; rfl))
    refine qaG ?_
    refine SXl.lit (cells := lineTails.map fun x => Value.string ⟨x.toArray⟩) (z := .string ⟨#[]⟩) ?_ ?_ rfl (by decide) (by kernel_rfl) rfl (fun gl => ?_)
    rfl; rfl
    skip
    refine qaA ?_
    refine SXl.drawC (ξ := List UInt8) (v := fun x => .string ⟨x.toArray⟩) 0 rfl rfl rfl rfl (fun x => x ∈ lineTails) (fun w hl hc => l01Pick_d _ _ gl _ w hc lineTails (by decide) (by decide) (fun i x hi => by rw [Nat.zero_add]; exact blk_cell (hl.blk _ (.head _)).2 (by rw [List.getElem?_map, hi]; rfl)) (fun e => (hl.res _ (.head _)).2.2.1 _ (.head _) e)) (fun u hu => ?_)
    have hsu : u.length ≤ 64 := (by decide : ∀ k ∈ lineTails, k.length ≤ 64) u hu
    repeat (first | refine qak ?_ | refine qab ?_ | (refine l_add ?_; (refine qaa (OpW.cat rfl rfl (by omega)) rfl ?_ ?_ ?_); rfl; rfl) | (refine qai ?_; (refine qaa (qae rfl) rfl ?_ ?_ ?_); rfl; rfl) | refine qav ?_ | refine qan ?_ | refine qaw ?_)
    refine qaC rfl rfl (fun w' hl => ⟨s ++ u, rfl, by first | omega | (simp only [List.length_append, List.length_cons, List.length_nil]; omega), hl.mod⟩)
  by_cases y2 : y = 2
  · repeat (first | refine qap ?_ | refine qak ?_ | refine qaf ?_ | refine qab ?_ | refine SX.block ?_ | refine qao rfl ?_ | refine qas rfl ?_ | (refine qau ?_; (refine qaa (qaj rfl) rfl ?_ ?_ ?_); rfl; rfl) | (refine qai ?_; (refine qaa (qae rfl) rfl ?_ ?_ ?_); rfl; rfl) | (refine qaK ?_; (first | refine qaa (qaI rfl rfl (by omega)) rfl ?_ ?_ ?_ | refine qaa (qaH rfl rfl (by omega)) rfl ?_ ?_ ?_); rfl; rfl))
    refine qaG ?_
    refine SXl.lit (cells := oddLines.map fun x => Value.string ⟨x.toArray⟩) (z := .string ⟨#[]⟩) ?_ ?_ rfl (by decide) (by kernel_rfl) rfl (fun gl => ?_)
    rfl; rfl
    skip
    refine qaA ?_
    refine SXl.drawC (ξ := List UInt8) (v := fun x => .string ⟨x.toArray⟩) 0 rfl rfl rfl rfl (fun x => x ∈ oddLines) (fun w hl hc => l01Pick_d _ _ gl _ w hc oddLines (by decide) (by decide) (fun i x hi => by rw [Nat.zero_add]; exact blk_cell (hl.blk _ (.head _)).2 (by rw [List.getElem?_map, hi]; rfl)) (fun e => (hl.res _ (.head _)).2.2.1 _ (.head _) e)) (fun u hu => ?_)
    have hsu : u.length ≤ 64 := (by decide : ∀ k ∈ oddLines, k.length ≤ 64) u hu
    repeat (first | refine qak ?_ | refine qab ?_ | (refine qai ?_; (refine qaa (qae rfl) rfl ?_ ?_ ?_); rfl; rfl) | refine qav ?_ | refine qan ?_ | refine qaw ?_)
    refine qaC rfl rfl (fun w' hl => ⟨u, rfl, by first | omega | (simp only [List.length_append, List.length_cons, List.length_nil]; omega), hl.mod⟩)
  repeat (first | refine qap ?_ | refine qak ?_ | refine qaf ?_ | refine qab ?_ | refine SX.block ?_ | refine qaE ?_ | refine qas rfl ?_ | (refine qau ?_; (refine qaa (qaj rfl) rfl ?_ ?_ ?_); rfl; rfl) | (refine qai ?_; (refine qaa (qae rfl) rfl ?_ ?_ ?_); rfl; rfl) | (refine qaK ?_; (refine qaa (qaH rfl rfl (by omega)) rfl ?_ ?_ ?_); rfl; rfl) | refine qav ?_ | refine qar ?_)
  refine qaC rfl rfl (fun w' hl => ⟨s, rfl, by first | omega | (simp only [List.length_append, List.length_cons, List.length_nil]; omega), hl.mod⟩)
set_option maxRecDepth 100000 in
set_option maxHeartbeats 8000000 in
theorem drawReadRules_d : Calls Tryz.prog 17 #[.slice a len cap] w fun e w' => ∃ t : List UInt8, e = .returned (.string ⟨t.toArray⟩) ∧ t.length ≤ 2000 ∧ Mod (fun _ => False) w w' := by
  refine calls_sx Tryz.func17 rfl rfl (fun a h1 h2 h3 => ((Fr.nil h1 h2).arg (h3 0 _ rfl))) ?_
  repeat (first | refine qap ?_ | refine qak ?_ | refine qaf ?_ | refine qab ?_ | (refine qau ?_; (refine qaa (qaj rfl) rfl ?_ ?_ ?_); rfl; rfl) | (refine qai ?_; (refine qaa (qae rfl) rfl ?_ ?_ ?_); rfl; rfl))
  refine qaA ?_
  refine SXl.newCur rfl rfl rfl (fun w hl => l01New_loc hlen hy hl) (fun gc => ?_)
  repeat (first | refine qap ?_ | refine qak ?_ | refine qaf ?_ | refine qab ?_ | (refine qau ?_; (refine qaa (qaj rfl) rfl ?_ ?_ ?_); rfl; rfl) | (refine qai ?_; (refine qaa (qae rfl) rfl ?_ ?_ ?_); rfl; rfl))
  refine qaA ?_
  refine SXl.drawC (ξ := Bool) (v := fun b => .bool b) 0 rfl rfl rfl rfl (fun _ => True) (fun w hl hc => once_d _ _ w hc 4 (by decide)) (fun b _ => ?_)
  cases b
  rotate_left
  · repeat (first | refine qap ?_ | refine qak ?_ | refine qaf ?_ | refine qab ?_ | refine qao rfl ?_ | (refine qau ?_; (refine qaa (qaj rfl) rfl ?_ ?_ ?_); rfl; rfl))
    refine qaG ?_
    refine SXl.lit (cells := oddRules.map fun x => Value.string ⟨x.toArray⟩) (z := .string ⟨#[]⟩) ?_ ?_ rfl (by decide) (by kernel_rfl) rfl (fun gl => ?_)
    rfl; rfl
    skip
    refine qaA ?_
    refine SXl.drawC (ξ := List UInt8) (v := fun x => .string ⟨x.toArray⟩) 0 rfl rfl rfl rfl (fun x => x ∈ oddRules) (fun w hl hc => l01Pick_d _ _ gl _ w hc oddRules (by decide) (by decide) (fun i x hi => by rw [Nat.zero_add]; exact blk_cell (hl.blk _ (.head _)).2 (by rw [List.getElem?_map, hi]; rfl)) (fun e => (hl.res _ (.head _)).2.2.1 _ (.head _) e)) (fun u hu => ?_)
    have hsu : u.length ≤ 64 := (by decide : ∀ k ∈ oddRules, k.length ≤ 64) u hu
    repeat (first | refine qak ?_ | refine qab ?_ | (refine qai ?_; (refine qaa (qae rfl) rfl ?_ ?_ ?_); rfl; rfl) | refine qav ?_ | refine qan ?_)
    refine qaC rfl rfl (fun w' hl => ⟨u, rfl, by first | omega | (simp only [List.length_append, List.length_cons, List.length_nil]; omega), hl.mod⟩)
  repeat (first | refine qap ?_ | refine qak ?_ | refine qaf ?_ | refine qab ?_ | refine qaE ?_ | refine qas rfl ?_ | (refine qau ?_; (refine qaa (qaj rfl) rfl ?_ ?_ ?_); rfl; rfl))
  refine qaA ?_
  refine SXl.drawO 0 rfl rfl rfl rfl (fun w hl hc => l09Any_o _ _ w hc) (fun q hq => ?_)
  obtain ⟨l, la, lc⟩ := q
  simp only at hq
  have hX := fun R w h => sruleText_any l la lc R w (by omega) h
  have hn := ruleText_short (l := l) (by omega)
  repeat (first | refine qak ?_ | refine qab ?_ | (refine qaA ?_; (refine qaa (qal rfl (fun w hl => hX _ _ (own_rules hl (.head _)))) rfl ?_ ?_ ?_); rfl; rfl) | (refine qai ?_; (refine qaa (qae rfl) rfl ?_ ?_ ?_); rfl; rfl) | refine qav ?_)
  refine qaC rfl rfl (fun w' hl => ⟨ruleTextOf l, rfl, by omega, hl.mod⟩)
end
end Go.Proofs.YtkkjjhooamlljaaGreatDoor
namespace Go.Proofs.YtkkjjhooamlljaaGreatDoor
open Go.RowKit
set_option linter.unusedVariables false
set_option linter.unusedSimpArgs false

section
variable {P : Program} {n : Nat} {W : World} {R : Rg W} {L : List Blk} {O : List Own} {E : List Res} {f : List (Nat × Value)} {Q : Exit → Act → World → Prop} {ops : Array Oper} {rest : List Oper} {d : Option Tmp} {ty T : TypeId} {pos : String} {af : Array Edge} {gd : Option (Nat × Bool)} {dn : Nat}
theorem l_makeFuncC {fn : Fn} {a b : Array Operand} (h : SXl P n W R ops L O E f (⟨d, .makeFunc fn a b, ty, pos, af, gd⟩ :: rest) Q) : SXl P n W R ops L O E f (⟨d, .makeFunc fn a b, ty, pos, af, gd⟩ :: rest) Q := h
theorem OpW.makeFuncC {fn : Fn} {bound : List Operand} {vs : List Value} (hb : evL f bound = some vs) : OpW P n W R L O E f ⟨d, .makeFunc fn #[] bound.toArray, ty, pos, af, gd⟩ (.func fn #[] vs.toArray) :=
  OpW.of (fun a w hf hl => by
    have e := evL_map hf bound vs hb
    simp [execOp, Instr.makeFunc, e])
theorem run_callC {x : Operand} {fn : FuncId} {bound : List Value} {ars : List Operand} {args : List Value} {aT : Array TypeId} {a : Act} (hf : Fr n f a) (hx : evO f x = some (.func (.func fn) #[] bound.toArray)) (ha : evL f ars = some args) (w : World) (dd : Option Tmp) (g : Option (Nat × Bool)) :
    (execOp a.eval ⟨dd, .call ⟨.value x, ars.toArray, aT⟩, ty, pos, af, g⟩).run P w = (callFunc fn (args ++ bound).toArray).run P w := by
  have e := evL_map hf ars args ha
  simp [execOp, resolve, hf.eval hx, Deferred.ofValue, invoke, e]
theorem OpW.callC {v : Value} {x : Operand} {fn : FuncId} {bound : List Value} {ars : List Operand} {args : List Value} {aT : Array TypeId} [TFun P fn] (hx : evO f x = some (.func (.func fn) #[] bound.toArray)) (ha : evL f ars = some args)
    (hc : ∀ w, Loc W R L O E w → Calls P fn (args ++ bound).toArray w fun e w' => e = .returned v ∧ Mod (fun _ => False) w w') : OpW P n W R L O E f ⟨d, .call ⟨.value x, ars.toArray, aT⟩, ty, pos, af, gd⟩ v :=
  OpW.enter (fun _ w hf _ => (run_callC hf hx ha w _ _).trans (run_call _)) hc
theorem l_callC {t : Nat} {ars : Array Operand} {aT : Array TypeId} (h : SXl P n W R ops L O E f (⟨d, .call ⟨.value (.tmp t), ars, aT⟩, ty, pos, af, gd⟩ :: rest) Q) : SXl P n W R ops L O E f (⟨d, .call ⟨.value (.tmp t), ars, aT⟩, ty, pos, af, gd⟩ :: rest) Q := h
end
end Go.Proofs.YtkkjjhooamlljaaGreatDoor
namespace Go.Proofs.YtkkjjhooamlljaaGreatDoor
open Go.RowKit

/-- The cells of the rows l in block g. -/
structure RowsKept {α : Type} (cells : α → List Value) (sz : Nat) (l : List α) (g : Nat) (w : World) : Prop where
  h : ∀ (i : Nat) (x : α) (j : Nat) (v : Value), l[i]? = some x → (cells x)[j]? = some v → w.cell? ⟨g, i * sz + j, none⟩ = some v
def rowsRes {α : Type} (cells : α → List Value) (sz : Nat) (l : List α) (p : Nat × Nat) : Res where
  foot := fun k => k = p.1
  says := RowsKept cells sz l p.1
  stable := fun S w w' h hm hs => ⟨fun i x j v hi hj => by
    have := h.h i x j v hi hj
    rw [hm.cell (World.block_lt_of_cell? w _ this) (hs p.1 rfl)]
    exact this⟩
theorem rows_of {α : Type} {cells : α → List Value} {e sz : Nat} {l : List α} {w w' : World} {en : Ending} (hne : l ≠ []) (hsz : ∀ x, (cells x).length = sz) (h : NewSlice e sz w l.length (l.map cells).flatten en w') : NewR (Nat × Nat) (fun p => .slice (some ⟨p.1, 0, none⟩) l.length p.2) (rowsRes cells sz l) w en w' := by
  obtain ⟨a, c, he, ho, hm⟩ := h
  rcases own_parts ho with h0 | ⟨b, rfl, h1, h2, h3, _⟩
  · exact (hne (List.length_eq_zero_iff.1 h0)).elim
  · refine ⟨(b, c), he, ⟨⟨fun i x j v hi hj => ?_⟩, fun k hk => by subst hk; exact ⟨h1, h2⟩⟩, hm⟩
    refine h3 _ _ ?_
    have hmem : (l.map cells)[i]? = some (cells x) := by rw [List.getElem?_map, hi]; rfl
    exact flatten_at (rows := l.map cells) (sz := sz) (by intro r hr; obtain ⟨z, _, rfl⟩ := List.mem_map.1 hr; exact hsz z) hmem hj
abbrev textsRes := rowsRes tcell 1
theorem texts_at {l : List (List UInt8)} {p : Nat × Nat} {i : Nat} {x : List UInt8} (hi : l[i]? = some x) : ∀ w, (textsRes l p).says w → w.cell? ⟨p.1, 0 + i, none⟩ = some (.string ⟨x.toArray⟩) := fun w h => by
  have := h.h i x 0 _ hi rfl
  rw [Nat.zero_add]
  simpa using this
end Go.Proofs.YtkkjjhooamlljaaGreatDoor
namespace Go.Proofs.YtkkjjhooamlljaaGreatDoor
open Go.RowKit
set_option linter.unusedVariables false
set_option linter.unusedSimpArgs false

instance tfunSplit : TFun Tryz.prog 50 := ⟨Tryz.f50, by kernel_rfl, by kernel_rfl, by kernel_rfl⟩
theorem NewSlice.lit {w : World} {l : List (List UInt8)} (hl : l.length ≤ 4294967282) : NewSlice 9 1 w l.length (l.map tcell).flatten (.returned (.slice (some ⟨w.heap.size, 0, none⟩) l.length l.length)) (w.alloc (.cells (l.map tcell).flatten.toArray 9)) := by
  have hfl := flat_length (cells := tcell) (sz := 1) (fun _ => rfl) l
  refine ⟨_, _, rfl, ⟨by rw [hfl], .inr ⟨w.heap.size, l.length, _, rfl, Nat.le_refl _, heap_alloc_new w _, Nat.le_refl _, by unfold maxLen; omega, by rw [List.size_toArray, hfl], ?_⟩⟩, (Mod.refl _ w).alloc _⟩
  exact List.take_of_length_le (by show (l.map tcell).flatten.length ≤ _; omega)
theorem tcell_flat (l : List (List UInt8)) : (l.map tcell).flatten = l.map fun x => Value.string ⟨x.toArray⟩ := by
  induction l with
  | nil => rfl
  | cons x l ih => rw [List.map_cons, List.flatten_cons, ih]; rfl
theorem split_new (t : List UInt8) (c : UInt8) (ht : t.length ≤ 1048576) (w : World) (hz : Num0 w) : Calls Tryz.prog 50 #[.string ⟨t.toArray⟩, .string ⟨#[c]⟩] w (NewR (Nat × Nat) (fun p => .slice (some ⟨p.1, 0, none⟩) (splitL c t).length p.2) (textsRes (splitL c t)) w) := by
  obtain ⟨m, hm⟩ := hz
  refine (Tryz.strings_Split ⟨t.toArray⟩ ⟨#[c]⟩ m w (by show t.toArray.size < _; simp; omega) hm (by show 1 ≤ 1; decide)).mono ?_
  rintro e w' ⟨rfl, rfl⟩
  have hl := splitL_len c t
  rw [countB_sign, splitB_sign, ← tcell_flat]
  exact rows_of (splitL_ne c t) (fun _ => rfl) (NewSlice.lit (by omega))

theorem drop_take_at {t : List UInt8} {b k : Nat} {c : UInt8} (hbk : b ≤ k) (hk : t[k]? = some c) : t.drop b = (t.drop b).take (k - b) ++ c :: t.drop (k + 1) := by
  have h1 : (t.drop b)[k - b]? = some c := by rw [List.getElem?_drop, show b + (k - b) = k by omega]; exact hk
  have hlt := (List.getElem?_eq_some_iff.1 h1).1
  have h2 : (t.drop b).drop (k - b) = c :: (t.drop b).drop (k - b + 1) := by
    rw [List.drop_eq_getElem_cons hlt]
    have := (List.getElem?_eq_some_iff.1 h1).2
    rw [this]
  have h3 : (t.drop b).drop (k - b + 1) = t.drop (k + 1) := by rw [List.drop_drop]; congr 1; omega
  rw [h3] at h2
  rw [← h2, List.take_append_drop]
/-- The reference's cut up to place k: the pieces, and where the next begins. -/
structure CutTo (c : UInt8) (t : List UInt8) (k b : Nat) (out : List (List UInt8)) : Prop where
  whole : splitL c t = out ++ splitL c (t.drop b)
  le : b ≤ k
  none : c ∉ (t.drop b).take (k - b)
theorem CutTo.cut {c : UInt8} {t : List UInt8} {k b : Nat} {out : List (List UInt8)} (h : CutTo c t k b out) (hk : t[k]? = some c) : CutTo c t (k + 1) (k + 1) (out ++ [(t.drop b).take (k - b)]) where
  whole := by
    have e := drop_take_at h.le hk
    rw [h.whole]
    conv => lhs; rw [e, splitL_cut h.none]
    simp
  le := Nat.le_refl _
  none := by simp
theorem CutTo.step {c x : UInt8} {t : List UInt8} {k b : Nat} {out : List (List UInt8)} (h : CutTo c t k b out) (hk : t[k]? = some x) (hx : x ≠ c) : CutTo c t (k + 1) b out where
  whole := h.whole
  le := Nat.le_succ_of_le h.le
  none := by
    have hle := h.le
    rw [show k + 1 - b = k - b + 1 by omega, List.take_add_one]
    have h1 : (t.drop b)[k - b]? = some x := by rw [List.getElem?_drop, show b + (k - b) = k by omega]; exact hk
    rw [h1]
    intro hm
    rcases List.mem_append.1 hm with hm | hm
    · exact h.none hm
    · have : c = x := by simpa using hm
      exact hx this.symm
theorem CutTo.last {c : UInt8} {t : List UInt8} {b : Nat} {out : List (List UInt8)} (h : CutTo c t t.length b out) : splitL c t = out ++ [(t.drop b).take (t.length - b)] := by
  have e : (t.drop b).take (t.length - b) = t.drop b := List.take_of_length_le (by rw [List.length_drop]; omega)
  rw [h.whole, e]
  have := h.none
  rw [e] at this
  rw [splitL_whole this]

set_option maxRecDepth 100000 in
set_option maxHeartbeats 4000000 in
theorem l30Split_new (t : List UInt8) (c : UInt8) (ht : t.length ≤ 1048576) (w : World) : Calls Tryz.prog 56 #[.string ⟨t.toArray⟩, .int .u8 (c.toNat : Int)] w (NewSlice 9 1 w (splitL c t).length ((splitL c t).map tcell).flatten) := by
  refine calls_sx Tryz.func56 rfl rfl (fun a h1 h2 h3 => (((Fr.nil h1 h2).arg (h3 1 _ rfl)).arg (h3 0 _ rfl))) ?_
  repeat (first | refine qap ?_ | refine qak ?_ | refine qaf ?_ | refine qab ?_ | refine SX.block ?_ | (refine qai ?_; (refine qaa (qae rfl) rfl ?_ ?_ ?_); rfl; rfl) | (refine qaG ?_; first | (refine SXl.lit1 ?_ ?_ rfl rfl rfl (fun g => ?_); rfl; rfl) | (refine SXl.lit0 ?_ ?_ (fun _ h => h) rfl (fun g => ?_); rfl; rfl)))
  refine SX.loop3 (fun (p : Nat × Nat) (out : List (List UInt8)) (_ : Option Addr × Nat) => p.1 ≤ t.length + 1 ∧ out.length ≤ p.1 ∧ (if p.1 ≤ t.length then CutTo c t p.1 p.2 out else splitL c t = out)) (fun p _ _ => t.length + 1 - p.1) (fun _ _ _ => []) (fun _ out q => [⟨.slice q.1 out.length q.2, 9, 1, out.length, (out.map tcell).flatten⟩]) (fun _ _ _ => []) (fun p out q => [(0, .string ⟨t.toArray⟩), (1, .int .u8 (c.toNat : Int)), (5, .slice q.1 out.length q.2), (6, .int .i64 p.2), (7, .int .i64 p.1)]) (0, 0) [] (_, 0) ⟨by omega, by simp, by rw [if_pos (by omega)]; exact ⟨by simp, by simp, by simp⟩⟩ ?_ (fun _ hl => hl) ?_
  · (repeat (first | exact subF_nil _ | (refine subF_cons rfl ?_) | (refine subF_consv rfl (by rfl) ?_)))
  rintro ⟨k, b⟩ out ⟨a, cp⟩ ⟨hk, ho, hI⟩
  simp only at hk ho hI
  by_cases hle : k ≤ t.length
  · rw [if_pos hle] at hI
    have hbk := hI.le
    by_cases hlt : k < t.length
    · have hu : t[k]? = some t[k] := List.getElem?_eq_getElem hlt
      generalize t[k] = u at hu
      by_cases huc : u = c
      · subst huc
        have hn := hI.cut hu
        repeat (first | refine qap ?_ | refine qak ?_ | refine qaf ?_ | refine qab ?_ | refine SX.block ?_ | refine qaE ?_ | refine qao rfl ?_ | (refine qau ?_; (refine qaa (qaj rfl) rfl ?_ ?_ ?_); rfl; rfl) | (refine qai ?_; (refine qaa (qae rfl) rfl ?_ ?_ ?_); rfl; rfl) | (refine l_len ?_; (refine qaa (qaS rfl) rfl ?_ ?_ ?_); rfl; rfl) | (refine l_index ?_; (refine qaa (OpW.indexStr rfl rfl (by assumption)) rfl ?_ ?_ ?_); rfl; rfl) | (refine l_slice ?_; (refine qaa (OpW.sliceOf rfl rfl rfl (by omega) (by omega)) rfl ?_ ?_ ?_); rfl; rfl) | (refine l_add ?_; (refine qaa (OpW.succ rfl rfl (by omega)) rfl ?_ ?_ ?_); rfl; rfl) | (refine qaK ?_; (first | refine qaa (qaI rfl rfl (by omega)) rfl ?_ ?_ ?_ | refine qaa (qaH rfl rfl (by omega)) rfl ?_ ?_ ?_); rfl; rfl) | (refine l_leq ?_; (refine qaa (OpW.leqT rfl rfl (by omega)) rfl ?_ ?_ ?_); rfl; rfl) | (refine qaR ?_; (refine qaa (qax rfl rfl rfl) rfl ?_ ?_ ?_); rfl; rfl) | (refine qaG ?_; first | (refine SXl.lit1 ?_ ?_ rfl rfl rfl (fun g => ?_); rfl; rfl) | (refine SXl.lit0 ?_ ?_ (fun _ h => h) rfl (fun g => ?_); rfl; rfl)) | (refine l_append ?_; first | (refine SXl.append 0 0 rfl rfl rfl rfl rfl rfl rfl rfl (by omega) (by omega) (fun a c => ?_); simp only [List.set_cons_zero, List.set_cons_succ]) | (refine SXl.append 1 0 rfl rfl rfl rfl rfl rfl rfl rfl (by omega) (by omega) (fun a c => ?_); simp only [List.set_cons_zero, List.set_cons_succ])) | refine qar ?_)
        refine SQ.round3 (k + 1, k + 1) (out ++ [(t.drop b).take (k - b)]) (_, _) ⟨by simp only; omega, by simp; omega, by simp only; rw [if_pos (by omega)]; exact hn⟩ (by simp only; omega) ?_ (fun w hl => by rw [List.length_append, List.map_append, List.flatten_append]; exact hl.drop1)
        (repeat (first | exact subF_nil _ | (refine subF_cons rfl ?_) | (refine subF_consv rfl (by rw [List.length_append]; rfl) ?_)))
      · have hn := hI.step hu huc
        have hne : ¬ (u.toNat : Int) = c.toNat := fun e => huc (UInt8.toNat_inj.1 (by omega))
        repeat (first | refine qap ?_ | refine qak ?_ | refine qaf ?_ | refine qab ?_ | refine SX.block ?_ | refine qaE ?_ | refine qao rfl ?_ | refine qas rfl ?_ | (refine qau ?_; (refine qaa (qaj rfl) rfl ?_ ?_ ?_); rfl; rfl) | (refine qai ?_; (refine qaa (qae rfl) rfl ?_ ?_ ?_); rfl; rfl) | (refine l_len ?_; (refine qaa (qaS rfl) rfl ?_ ?_ ?_); rfl; rfl) | (refine l_index ?_; (refine qaa (OpW.indexStr rfl rfl (by assumption)) rfl ?_ ?_ ?_); rfl; rfl) | (refine l_add ?_; (refine qaa (OpW.succ rfl rfl (by omega)) rfl ?_ ?_ ?_); rfl; rfl) | (refine qaK ?_; (refine qaa (qaH rfl rfl (by omega)) rfl ?_ ?_ ?_); rfl; rfl) | (refine l_leq ?_; (refine qaa (OpW.leqT rfl rfl (by omega)) rfl ?_ ?_ ?_); rfl; rfl) | (refine qaR ?_; (refine qaa (qax rfl rfl rfl) rfl ?_ ?_ ?_); rfl; rfl) | refine qar ?_)
        refine SQ.round3 (k + 1, b) out (a, cp) ⟨by simp only; omega, by simp only; omega, by simp only; rw [if_pos (by omega)]; exact hn⟩ (by simp only; omega) ?_ (fun w hl => hl)
        (repeat (first | exact subF_nil _ | (refine subF_cons rfl ?_) | (refine subF_consv rfl (by rfl) ?_)))
    · have hk' : k = t.length := by omega
      subst hk'
      have hn := hI.last
      repeat (first | refine qap ?_ | refine qak ?_ | refine qaf ?_ | refine qab ?_ | refine SX.block ?_ | refine qaE ?_ | refine qao rfl ?_ | (refine SXl.no rfl rfl rfl ?_) | (refine qau ?_; (refine qaa (qaj rfl) rfl ?_ ?_ ?_); rfl; rfl) | (refine qai ?_; (refine qaa (qae rfl) rfl ?_ ?_ ?_); rfl; rfl) | (refine l_len ?_; (refine qaa (qaS rfl) rfl ?_ ?_ ?_); rfl; rfl) | (refine l_slice ?_; (refine qaa (OpW.sliceOf rfl rfl rfl (by omega) (by omega)) rfl ?_ ?_ ?_); rfl; rfl) | (refine l_add ?_; (refine qaa (OpW.succ rfl rfl (by omega)) rfl ?_ ?_ ?_); rfl; rfl) | (refine qaK ?_; (refine qaa (qaI rfl rfl (by omega)) rfl ?_ ?_ ?_); rfl; rfl) | (refine l_leq ?_; (refine qaa (OpW.leqT rfl rfl (by omega)) rfl ?_ ?_ ?_); rfl; rfl) | (refine qaR ?_; (refine qaa (qax rfl rfl rfl) rfl ?_ ?_ ?_); rfl; rfl) | (refine qaG ?_; first | (refine SXl.lit1 ?_ ?_ rfl rfl rfl (fun g => ?_); rfl; rfl) | (refine SXl.lit0 ?_ ?_ (fun _ h => h) rfl (fun g => ?_); rfl; rfl)) | (refine l_append ?_; first | (refine SXl.append 0 0 rfl rfl rfl rfl rfl rfl rfl rfl (by omega) (by omega) (fun a c => ?_); simp only [List.set_cons_zero, List.set_cons_succ]) | (refine SXl.append 1 0 rfl rfl rfl rfl rfl rfl rfl rfl (by omega) (by omega) (fun a c => ?_); simp only [List.set_cons_zero, List.set_cons_succ])) | refine qar ?_)
      refine SQ.round3 (t.length + 1, t.length + 1) (out ++ [(t.drop b).take (t.length - b)]) (_, _) ⟨by simp, by simp; omega, by simp only; rw [if_neg (by omega)]; exact hn⟩ (by simp only; omega) ?_ (fun w hl => by rw [List.length_append, List.map_append, List.flatten_append]; exact hl.drop1)
      (repeat (first | exact subF_nil _ | (refine subF_cons rfl ?_) | (refine subF_consv rfl (by rw [List.length_append]; rfl) ?_)))
  · rw [if_neg hle] at hI
    rw [hI]
    repeat (first | refine qap ?_ | refine qak ?_ | refine qaf ?_ | refine qab ?_ | refine qas rfl ?_ | (refine qau ?_; (refine qaa (qaj rfl) rfl ?_ ?_ ?_); rfl; rfl) | (refine qai ?_; (refine qaa (qae rfl) rfl ?_ ?_ ?_); rfl; rfl) | (refine l_len ?_; (refine qaa (qaS rfl) rfl ?_ ?_ ?_); rfl; rfl) | (refine l_leq ?_; (refine qaa (OpW.leqF rfl rfl (by omega)) rfl ?_ ?_ ?_); rfl; rfl) | refine qav ?_ | refine SX.exit ?_ | refine SQ.thenExit ?_ | refine SQ.blockExit ?_)
    refine qaC rfl rfl (fun w' hl => ⟨_, _, rfl, (hl.own _ List.mem_cons_self).1, hl.mod⟩)
end Go.Proofs.YtkkjjhooamlljaaGreatDoor
namespace Go.Proofs.YtkkjjhooamlljaaGreatDoor
open Go.RowKit
set_option linter.unusedVariables false
set_option linter.unusedSimpArgs false

/-- What PartsOf hands back. -/
abbrev PT (t : List UInt8) : World → Ending → World → Prop := NewR SlP (fun q => .tuple #[.slice q.a (partsOf t).1.length q.c, .bool (partsOf t).2]) (ownRes tcell 9 1 (partsOf t).1)
theorem PT.nil {t : List UInt8} {w w' : World} {b : Bool} (h : partsOf t = ([], b)) (hm : Mod (fun _ => False) w w') : PT t w (.returned (.tuple #[.slice none 0 0, .bool b])) w' := by
  unfold PT
  rw [h]
  exact ⟨⟨none, 0, 0⟩, rfl, ⟨World.ownsRow_nil _ _ _ _, fun k hk => by cases hk⟩, hm⟩
theorem PT.own {t : List UInt8} {l : List (List UInt8)} {w w' : World} {a : Option Addr} {c : Nat} {b : Bool} (h : partsOf t = (l, b)) (ho : w'.ownsRow w.heap.size 9 1 (.slice a l.length c) l.length (l.map tcell).flatten) (hm : Mod (fun _ => False) w w') : PT t w (.returned (.tuple #[.slice a l.length c, .bool b])) w' := by
  unfold PT
  rw [h]
  exact ⟨⟨a, c, w.heap.size⟩, rfl, ⟨ho, fun k hk => ownBlock_lt ho hk⟩, hm⟩
/-- The fields found up to place k. -/
structure PTo (t : List UInt8) (k b : Nat) (out : List (List UInt8)) : Prop where
  le : k ≤ t.length + 1
  few : out.length ≤ k
  ok : (t.take k).all okB = true
  cut : if k ≤ t.length then b ≤ k ∧ ∃ o, CutTo 32 t k b o ∧ out = o.filter (fun p => decide (p ≠ [])) else partsF t = out
theorem PTo.start (t : List UInt8) : PTo t 0 0 [] := ⟨by omega, by simp, by simp, by rw [if_pos (by omega)]; exact ⟨by omega, [], ⟨by simp, by simp, by simp⟩, rfl⟩⟩
section
variable {t : List UInt8} {k b : Nat} {out : List (List UInt8)} {u : UInt8}
theorem PTo.lt (h : PTo t k b out) (hk : t[k]? = some u) : k < t.length := (List.getElem?_eq_some_iff.1 hk).1
theorem PTo.ble (h : PTo t k b out) (hk : k ≤ t.length) : b ≤ k := by have := h.cut; rw [if_pos hk] at this; exact this.1
theorem PTo.bad (h : t[k]? = some u) (hu : okB u = false) : partsOf t = ([], false) := by
  unfold partsOf
  refine if_neg fun hc => ?_
  have := List.all_eq_true.1 hc.2.1 u (List.mem_of_getElem? h)
  rw [hu] at this
  cases this
theorem PTo.okS (h : PTo t k b out) (hk : t[k]? = some u) (hu : okB u = true) : (t.take (k + 1)).all okB = true := by
  rw [List.take_add_one, hk, List.all_append, h.ok]
  simp [hu]
theorem PTo.step (h : PTo t k b out) (hk : t[k]? = some u) (hu : okB u = true) (hx : u ≠ 32) : PTo t (k + 1) b out where
  le := by have := h.lt hk; omega
  few := Nat.le_succ_of_le h.few
  ok := h.okS hk hu
  cut := by
    have hlt := h.lt hk
    have hc := h.cut
    rw [if_pos (by omega)] at hc
    obtain ⟨h1, o, h2, h3⟩ := hc
    rw [if_pos (by omega)]
    exact ⟨by omega, o, h2.step hk hx, h3⟩
theorem piece_ne {t : List UInt8} {b k : Nat} (hb : b < k) (hk : k ≤ t.length) : (t.drop b).take (k - b) ≠ [] := fun e => by
  have := congrArg List.length e
  simp only [List.length_take, List.length_drop, List.length_nil] at this
  omega
theorem PTo.cutY (h : PTo t k b out) (hk : t[k]? = some 32) (hb : b < k) : PTo t (k + 1) (k + 1) (out ++ [(t.drop b).take (k - b)]) where
  le := by have := h.lt hk; omega
  few := by have := h.few; simp; omega
  ok := h.okS hk (by decide)
  cut := by
    have hlt := h.lt hk
    have hc := h.cut
    rw [if_pos (by omega)] at hc
    obtain ⟨h1, o, h2, h3⟩ := hc
    rw [if_pos (by omega)]
    refine ⟨by omega, _, h2.cut hk, ?_⟩
    rw [List.filter_append, h3]
    simp [piece_ne (t := t) hb (by omega)]
theorem PTo.cutN (h : PTo t k b out) (hk : t[k]? = some 32) (hb : ¬ b < k) : PTo t (k + 1) (k + 1) out where
  le := by have := h.lt hk; omega
  few := Nat.le_succ_of_le h.few
  ok := h.okS hk (by decide)
  cut := by
    have hlt := h.lt hk
    have hc := h.cut
    rw [if_pos (by omega)] at hc
    obtain ⟨h1, o, h2, h3⟩ := hc
    rw [if_pos (by omega)]
    refine ⟨by omega, _, h2.cut hk, ?_⟩
    rw [List.filter_append, h3]
    have e : k - b = 0 := by omega
    simp [e]
theorem PTo.lastY (h : PTo t t.length b out) (hb : b < t.length) : PTo t (t.length + 1) (t.length + 1) (out ++ [(t.drop b).take (t.length - b)]) where
  le := by omega
  few := by have := h.few; simp; omega
  ok := by have := h.ok; rw [List.take_of_length_le (by omega)] at this ⊢; exact this
  cut := by
    have hc := h.cut
    rw [if_pos (by omega)] at hc
    obtain ⟨h1, o, h2, h3⟩ := hc
    rw [if_neg (by omega)]
    unfold partsF
    rw [h2.last, List.filter_append, h3]
    simp [piece_ne (t := t) hb (Nat.le_refl _)]
theorem PTo.lastN (h : PTo t t.length b out) (hb : ¬ b < t.length) : PTo t (t.length + 1) (t.length + 1) out where
  le := by omega
  few := Nat.le_succ_of_le h.few
  ok := by have := h.ok; rw [List.take_of_length_le (by omega)] at this ⊢; exact this
  cut := by
    have hc := h.cut
    rw [if_pos (by omega)] at hc
    obtain ⟨h1, o, h2, h3⟩ := hc
    rw [if_neg (by omega)]
    unfold partsF
    have e : t.length - b = 0 := by omega
    rw [h2.last, List.filter_append, h3]
    simp [e]
theorem PTo.doneN (h : PTo t k b out) (hk : ¬ k ≤ t.length) (ho : ¬ out.length ≤ 12) : partsOf t = ([], false) := by
  have hc := h.cut
  rw [if_neg hk] at hc
  unfold partsOf
  exact if_neg fun ⟨_, _, h12⟩ => ho (hc ▸ h12)
theorem PTo.doneY (h : PTo t k b out) (hk : ¬ k ≤ t.length) (ht : t.length ≤ 600) (ho : out.length ≤ 12) : partsOf t = (out, true) := by
  have hc := h.cut
  rw [if_neg hk] at hc
  have hok := h.ok
  rw [List.take_of_length_le (by omega)] at hok
  unfold partsOf
  rw [if_pos ⟨ht, hok, by rw [hc]; exact ho⟩, hc]
theorem partsOf_long (h : ¬ t.length ≤ 600) : partsOf t = ([], false) := if_neg fun hc => h hc.1
end
theorem okB_y {u : UInt8} (h : okB u = true) : 32 ≤ u.toNat ∧ u.toNat ≤ 126 := by
  unfold okB at h
  simpa using h
theorem okB_n {u : UInt8} (h : ¬ okB u = true) : u.toNat < 32 ∨ 126 < u.toNat := by
  unfold okB at h
  simp only [Bool.and_eq_true, decide_eq_true_eq] at h
  omega

set_option maxRecDepth 100000 in
set_option maxHeartbeats 4000000 in
theorem sPartsOf_new (t : List UInt8) (ht : t.length ≤ 1048576) (w : World) : Calls Tryz.prog 23 #[.string ⟨t.toArray⟩] w (PT t w) := by
  refine calls_sx Tryz.func23 rfl rfl (fun a h1 h2 h3 => ((Fr.nil h1 h2).arg (h3 0 _ rfl))) ?_
  by_cases h600 : t.length ≤ 600
  rotate_left
  · have hb := partsOf_long h600
    repeat (first | refine qap ?_ | refine qak ?_ | refine qaf ?_ | refine qab ?_ | refine qao rfl ?_ | (refine qau ?_; (refine qaa (qaj rfl) rfl ?_ ?_ ?_); rfl; rfl) | (refine qai ?_; (refine qaa (qae rfl) rfl ?_ ?_ ?_); rfl; rfl) | (refine l_len ?_; (refine qaa (qaS rfl) rfl ?_ ?_ ?_); rfl; rfl) | (refine l_gtr ?_; (refine qaa (OpW.gtrT rfl rfl (by omega)) rfl ?_ ?_ ?_); rfl; rfl) | (refine qaG ?_; first | (refine SXl.lit1 ?_ ?_ rfl rfl rfl (fun g => ?_); rfl; rfl) | (refine SXl.lit0 ?_ ?_ (fun _ h => h) rfl (fun g => ?_); rfl; rfl)) | refine qav ?_ | refine qan ?_)
    refine qaU rfl rfl rfl (fun w' hl => PT.own (l := []) hb (hl.own _ (.head _)).1 hl.mod)
  repeat (first | refine qap ?_ | refine qak ?_ | refine qaf ?_ | refine qab ?_ | refine SX.block ?_ | refine qaE ?_ | refine qas rfl ?_ | (refine qau ?_; (refine qaa (qaj rfl) rfl ?_ ?_ ?_); rfl; rfl) | (refine qai ?_; (refine qaa (qae rfl) rfl ?_ ?_ ?_); rfl; rfl) | (refine l_len ?_; (refine qaa (qaS rfl) rfl ?_ ?_ ?_); rfl; rfl) | (refine l_gtr ?_; (refine qaa (OpW.gtrF rfl rfl (by omega)) rfl ?_ ?_ ?_); rfl; rfl) | (refine qaG ?_; first | (refine SXl.lit1 ?_ ?_ rfl rfl rfl (fun g => ?_); rfl; rfl) | (refine SXl.lit0 ?_ ?_ (fun _ h => h) rfl (fun g => ?_); rfl; rfl)))
  refine SX.loop3 (fun (p : Nat × Nat) (out : List (List UInt8)) (_ : Option Addr × Nat) => PTo t p.1 p.2 out) (fun p _ _ => t.length + 1 - p.1) (fun _ _ _ => []) (fun _ out q => [⟨.slice q.1 out.length q.2, 9, 1, out.length, (out.map tcell).flatten⟩]) (fun _ _ _ => []) (fun p out q => [(0, .string ⟨t.toArray⟩), (4, .slice q.1 out.length q.2), (5, .int .i64 p.2), (6, .int .i64 p.1)]) (0, 0) [] (_, 0) (PTo.start t) ?_ (fun _ hl => hl) ?_
  · (repeat (first | exact subF_nil _ | (refine subF_cons rfl ?_) | (refine subF_consv rfl (by rfl) ?_)))
  rintro ⟨k, b⟩ out ⟨a, cp⟩ hI
  simp only at hI
  have hk1 := hI.le
  have hfew := hI.few
  by_cases hle : k ≤ t.length
  · have hbk := hI.ble hle
    by_cases hlt : k < t.length
    · have hu : t[k]? = some t[k] := List.getElem?_eq_getElem hlt
      generalize t[k] = u at hu
      by_cases hok : okB u = true
      rotate_left
      · have hb := PTo.bad hu (Bool.eq_false_iff.2 hok)
        rcases okB_n hok with hx | hx
        · repeat (first | refine qap ?_ | refine qak ?_ | refine qaf ?_ | refine qab ?_ | refine SX.block ?_ | refine qaE ?_ | refine qao rfl ?_ | (refine SXl.no rfl rfl rfl ?_) | (refine qau ?_; (refine qaa (qaj rfl) rfl ?_ ?_ ?_); rfl; rfl) | (refine qai ?_; (refine qaa (qae rfl) rfl ?_ ?_ ?_); rfl; rfl) | (refine l_len ?_; (refine qaa (qaS rfl) rfl ?_ ?_ ?_); rfl; rfl) | (refine l_index ?_; (refine qaa (OpW.indexStr rfl rfl (by assumption)) rfl ?_ ?_ ?_); rfl; rfl) | (refine l_leq ?_; (refine qaa (OpW.leqT rfl rfl (by omega)) rfl ?_ ?_ ?_); rfl; rfl) | (refine l_lss ?_; (refine qaa (OpW.lssT rfl rfl (by omega)) rfl ?_ ?_ ?_); rfl; rfl) | (refine qaR ?_; (refine qaa (qax rfl rfl rfl) rfl ?_ ?_ ?_); rfl; rfl) | (refine qaG ?_; first | (refine SXl.lit1 ?_ ?_ rfl rfl rfl (fun g => ?_); rfl; rfl) | (refine SXl.lit0 ?_ ?_ (fun _ h => h) rfl (fun g => ?_); rfl; rfl)) | refine qav ?_ | refine qan ?_ | refine qaw ?_)
          refine qaU rfl rfl rfl (fun w' hl => PT.own (l := []) hb (hl.own _ (.head _)).1 hl.mod)
        · repeat (first | refine qap ?_ | refine qak ?_ | refine qaf ?_ | refine qab ?_ | refine SX.block ?_ | refine qaE ?_ | refine qao rfl ?_ | (refine qau ?_; (refine qaa (qaj rfl) rfl ?_ ?_ ?_); rfl; rfl) | (refine qai ?_; (refine qaa (qae rfl) rfl ?_ ?_ ?_); rfl; rfl) | (refine l_len ?_; (refine qaa (qaS rfl) rfl ?_ ?_ ?_); rfl; rfl) | (refine l_index ?_; (refine qaa (OpW.indexStr rfl rfl (by assumption)) rfl ?_ ?_ ?_); rfl; rfl) | (refine l_gtr ?_; (refine qaa (OpW.gtrT rfl rfl (by omega)) rfl ?_ ?_ ?_); rfl; rfl) | (refine l_leq ?_; (refine qaa (OpW.leqT rfl rfl (by omega)) rfl ?_ ?_ ?_); rfl; rfl) | (refine l_lss ?_; (first | refine qaa (OpW.lssT rfl rfl (by omega)) rfl ?_ ?_ ?_ | refine qaa (OpW.lssF rfl rfl (by omega)) rfl ?_ ?_ ?_); rfl; rfl) | (refine qaR ?_; (refine qaa (qax rfl rfl rfl) rfl ?_ ?_ ?_); rfl; rfl) | (refine qaG ?_; first | (refine SXl.lit1 ?_ ?_ rfl rfl rfl (fun g => ?_); rfl; rfl) | (refine SXl.lit0 ?_ ?_ (fun _ h => h) rfl (fun g => ?_); rfl; rfl)) | refine qav ?_ | refine qan ?_ | refine qaw ?_)
          refine qaU rfl rfl rfl (fun w' hl => PT.own (l := []) hb (hl.own _ (.head _)).1 hl.mod)
      have hox := okB_y hok
      by_cases h32 : u = 32
      · subst h32
        by_cases hb : b < k
        · have hn := hI.cutY hu hb
          repeat (first | refine qap ?_ | refine qak ?_ | refine qaf ?_ | refine qab ?_ | refine SX.block ?_ | refine qaE ?_ | refine qao rfl ?_ | refine qas rfl ?_ | (refine qau ?_; (refine qaa (qaj rfl) rfl ?_ ?_ ?_); rfl; rfl) | (refine qai ?_; (refine qaa (qae rfl) rfl ?_ ?_ ?_); rfl; rfl) | (refine l_len ?_; (refine qaa (qaS rfl) rfl ?_ ?_ ?_); rfl; rfl) | (refine l_index ?_; (refine qaa (OpW.indexStr rfl rfl (by assumption)) rfl ?_ ?_ ?_); rfl; rfl) | (refine l_slice ?_; (refine qaa (OpW.sliceOf rfl rfl rfl (by omega) (by omega)) rfl ?_ ?_ ?_); rfl; rfl) | (refine l_add ?_; (refine qaa (OpW.succ rfl rfl (by omega)) rfl ?_ ?_ ?_); rfl; rfl) | (refine l_gtr ?_; (refine qaa (OpW.gtrF rfl rfl (by omega)) rfl ?_ ?_ ?_); rfl; rfl) | (refine l_leq ?_; (refine qaa (OpW.leqT rfl rfl (by omega)) rfl ?_ ?_ ?_); rfl; rfl) | (refine l_lss ?_; (first | refine qaa (OpW.lssT rfl rfl (by omega)) rfl ?_ ?_ ?_ | refine qaa (OpW.lssF rfl rfl (by omega)) rfl ?_ ?_ ?_); rfl; rfl) | (refine l_neq ?_; (refine qaa (OpW.neq rfl rfl) rfl ?_ ?_ ?_); rfl; rfl) | (refine qaR ?_; (refine qaa (qax rfl rfl rfl) rfl ?_ ?_ ?_); rfl; rfl) | (refine qaG ?_; first | (refine SXl.lit1 ?_ ?_ rfl rfl rfl (fun g => ?_); rfl; rfl) | (refine SXl.lit0 ?_ ?_ (fun _ h => h) rfl (fun g => ?_); rfl; rfl)) | (refine l_append ?_; first | (refine SXl.append 0 0 rfl rfl rfl rfl rfl rfl rfl rfl (by omega) (by omega) (fun a c => ?_); simp only [List.set_cons_zero, List.set_cons_succ]) | (refine SXl.append 1 0 rfl rfl rfl rfl rfl rfl rfl rfl (by omega) (by omega) (fun a c => ?_); simp only [List.set_cons_zero, List.set_cons_succ])) | refine qar ?_)
          refine SQ.round3 (k + 1, k + 1) (out ++ [(t.drop b).take (k - b)]) (_, _) (by exact hn) (by simp only; omega) ?_ (fun w hl => by rw [List.length_append, List.map_append, List.flatten_append]; exact hl.drop1)
          (repeat (first | exact subF_nil _ | (refine subF_cons rfl ?_) | (refine subF_consv rfl (by rw [List.length_append]; rfl) ?_)))
        · have hn := hI.cutN hu hb
          repeat (first | refine qap ?_ | refine qak ?_ | refine qaf ?_ | refine qab ?_ | refine SX.block ?_ | refine qaE ?_ | refine qao rfl ?_ | refine qas rfl ?_ | (refine qau ?_; (refine qaa (qaj rfl) rfl ?_ ?_ ?_); rfl; rfl) | (refine qai ?_; (refine qaa (qae rfl) rfl ?_ ?_ ?_); rfl; rfl) | (refine l_len ?_; (refine qaa (qaS rfl) rfl ?_ ?_ ?_); rfl; rfl) | (refine l_index ?_; (refine qaa (OpW.indexStr rfl rfl (by assumption)) rfl ?_ ?_ ?_); rfl; rfl) | (refine l_add ?_; (refine qaa (OpW.succ rfl rfl (by omega)) rfl ?_ ?_ ?_); rfl; rfl) | (refine l_gtr ?_; (refine qaa (OpW.gtrF rfl rfl (by omega)) rfl ?_ ?_ ?_); rfl; rfl) | (refine l_leq ?_; (refine qaa (OpW.leqT rfl rfl (by omega)) rfl ?_ ?_ ?_); rfl; rfl) | (refine l_lss ?_; (first | refine qaa (OpW.lssT rfl rfl (by omega)) rfl ?_ ?_ ?_ | refine qaa (OpW.lssF rfl rfl (by omega)) rfl ?_ ?_ ?_); rfl; rfl) | (refine l_neq ?_; (refine qaa (OpW.neq rfl rfl) rfl ?_ ?_ ?_); rfl; rfl) | (refine qaR ?_; (refine qaa (qax rfl rfl rfl) rfl ?_ ?_ ?_); rfl; rfl) | refine qar ?_)
          refine SQ.round3 (k + 1, k + 1) out (a, cp) (by exact hn) (by simp only; omega) ?_ (fun w hl => hl)
          (repeat (first | exact subF_nil _ | (refine subF_cons rfl ?_) | (refine subF_consv rfl (by rfl) ?_)))
      · have hn := hI.step hu hok h32
        have hne : ¬ (u.toNat : Int) = 32 := fun e => h32 (UInt8.toNat_inj.1 (by show u.toNat = 32; omega))
        repeat (first | refine qap ?_ | refine qak ?_ | refine qaf ?_ | refine qab ?_ | refine SX.block ?_ | refine qaE ?_ | refine qao rfl ?_ | refine qas rfl ?_ | (refine qau ?_; (refine qaa (qaj rfl) rfl ?_ ?_ ?_); rfl; rfl) | (refine qai ?_; (refine qaa (qae rfl) rfl ?_ ?_ ?_); rfl; rfl) | (refine l_len ?_; (refine qaa (qaS rfl) rfl ?_ ?_ ?_); rfl; rfl) | (refine l_index ?_; (refine qaa (OpW.indexStr rfl rfl (by assumption)) rfl ?_ ?_ ?_); rfl; rfl) | (refine l_add ?_; (refine qaa (OpW.succ rfl rfl (by omega)) rfl ?_ ?_ ?_); rfl; rfl) | (refine l_gtr ?_; (refine qaa (OpW.gtrF rfl rfl (by omega)) rfl ?_ ?_ ?_); rfl; rfl) | (refine l_leq ?_; (refine qaa (OpW.leqT rfl rfl (by omega)) rfl ?_ ?_ ?_); rfl; rfl) | (refine l_lss ?_; (first | refine qaa (OpW.lssT rfl rfl (by omega)) rfl ?_ ?_ ?_ | refine qaa (OpW.lssF rfl rfl (by omega)) rfl ?_ ?_ ?_); rfl; rfl) | (refine l_neq ?_; (refine qaa (OpW.neqT rfl rfl (by omega)) rfl ?_ ?_ ?_); rfl; rfl) | (refine qaR ?_; (refine qaa (qax rfl rfl rfl) rfl ?_ ?_ ?_); rfl; rfl) | refine SX.exit ?_ | refine SQ.thenExit ?_ | refine SQ.blockExit ?_)
        refine SQ.round3 (k + 1, b) out (a, cp) (by exact hn) (by simp only; omega) ?_ (fun w hl => hl)
        (repeat (first | exact subF_nil _ | (refine subF_cons rfl ?_) | (refine subF_consv rfl (by rfl) ?_)))
    · have hk' : k = t.length := by omega
      subst hk'
      by_cases hb : b < t.length
      · have hn := hI.lastY hb
        repeat (first | refine qap ?_ | refine qak ?_ | refine qaf ?_ | refine qab ?_ | refine SX.block ?_ | refine qaE ?_ | refine qao rfl ?_ | refine qas rfl ?_ | (refine SXl.no rfl rfl rfl ?_) | (refine qau ?_; (refine qaa (qaj rfl) rfl ?_ ?_ ?_); rfl; rfl) | (refine qai ?_; (refine qaa (qae rfl) rfl ?_ ?_ ?_); rfl; rfl) | (refine l_len ?_; (refine qaa (qaS rfl) rfl ?_ ?_ ?_); rfl; rfl) | (refine l_slice ?_; (refine qaa (OpW.sliceOf rfl rfl rfl (by omega) (by omega)) rfl ?_ ?_ ?_); rfl; rfl) | (refine l_add ?_; (refine qaa (OpW.succ rfl rfl (by omega)) rfl ?_ ?_ ?_); rfl; rfl) | (refine l_leq ?_; (refine qaa (OpW.leqT rfl rfl (by omega)) rfl ?_ ?_ ?_); rfl; rfl) | (refine l_lss ?_; (first | refine qaa (OpW.lssT rfl rfl (by omega)) rfl ?_ ?_ ?_ | refine qaa (OpW.lssF rfl rfl (by omega)) rfl ?_ ?_ ?_); rfl; rfl) | (refine qaR ?_; (refine qaa (qax rfl rfl rfl) rfl ?_ ?_ ?_); rfl; rfl) | (refine qaG ?_; first | (refine SXl.lit1 ?_ ?_ rfl rfl rfl (fun g => ?_); rfl; rfl) | (refine SXl.lit0 ?_ ?_ (fun _ h => h) rfl (fun g => ?_); rfl; rfl)) | (refine l_append ?_; first | (refine SXl.append 0 0 rfl rfl rfl rfl rfl rfl rfl rfl (by omega) (by omega) (fun a c => ?_); simp only [List.set_cons_zero, List.set_cons_succ]) | (refine SXl.append 1 0 rfl rfl rfl rfl rfl rfl rfl rfl (by omega) (by omega) (fun a c => ?_); simp only [List.set_cons_zero, List.set_cons_succ])) | refine qar ?_)
        refine SQ.round3 (t.length + 1, t.length + 1) (out ++ [(t.drop b).take (t.length - b)]) (_, _) (by exact hn) (by simp only; omega) ?_ (fun w hl => by rw [List.length_append, List.map_append, List.flatten_append]; exact hl.drop1)
        (repeat (first | exact subF_nil _ | (refine subF_cons rfl ?_) | (refine subF_consv rfl (by rw [List.length_append]; rfl) ?_)))
      · have hn := hI.lastN hb
        repeat (first | refine qap ?_ | refine qak ?_ | refine qaf ?_ | refine qab ?_ | refine SX.block ?_ | refine qaE ?_ | refine qao rfl ?_ | refine qas rfl ?_ | (refine SXl.no rfl rfl rfl ?_) | (refine qau ?_; (refine qaa (qaj rfl) rfl ?_ ?_ ?_); rfl; rfl) | (refine qai ?_; (refine qaa (qae rfl) rfl ?_ ?_ ?_); rfl; rfl) | (refine l_len ?_; (refine qaa (qaS rfl) rfl ?_ ?_ ?_); rfl; rfl) | (refine l_add ?_; (refine qaa (OpW.succ rfl rfl (by omega)) rfl ?_ ?_ ?_); rfl; rfl) | (refine l_leq ?_; (refine qaa (OpW.leqT rfl rfl (by omega)) rfl ?_ ?_ ?_); rfl; rfl) | (refine l_lss ?_; (refine qaa (OpW.lssF rfl rfl (by omega)) rfl ?_ ?_ ?_); rfl; rfl) | (refine qaR ?_; (refine qaa (qax rfl rfl rfl) rfl ?_ ?_ ?_); rfl; rfl) | refine qar ?_)
        refine SQ.round3 (t.length + 1, t.length + 1) out (a, cp) (by exact hn) (by simp only; omega) ?_ (fun w hl => hl)
        (repeat (first | exact subF_nil _ | (refine subF_cons rfl ?_) | (refine subF_consv rfl (by rfl) ?_)))
  · by_cases h12 : out.length ≤ 12
    · have hd := hI.doneY hle h600 h12
      repeat (first | refine qap ?_ | refine qak ?_ | refine qaf ?_ | refine qab ?_ | refine qaE ?_ | refine qas rfl ?_ | (refine qau ?_; (refine qaa (qaj rfl) rfl ?_ ?_ ?_); rfl; rfl) | (refine qai ?_; (refine qaa (qae rfl) rfl ?_ ?_ ?_); rfl; rfl) | (refine l_len ?_; (first | refine qaa (OpW.len rfl) rfl ?_ ?_ ?_ | refine qaa (qaS rfl) rfl ?_ ?_ ?_); rfl; rfl) | (refine l_gtr ?_; (refine qaa (OpW.gtrF rfl rfl (by omega)) rfl ?_ ?_ ?_); rfl; rfl) | (refine l_leq ?_; (refine qaa (OpW.leqF rfl rfl (by omega)) rfl ?_ ?_ ?_); rfl; rfl) | refine qav ?_ | refine SX.exit ?_ | refine SQ.thenExit ?_ | refine SQ.blockExit ?_)
      refine qaU rfl rfl rfl (fun w' hl => PT.own hd (hl.own _ (.head _)).1 hl.mod)
    · have hd := hI.doneN hle h12
      repeat (first | refine qap ?_ | refine qak ?_ | refine qaf ?_ | refine qab ?_ | refine qao rfl ?_ | refine qas rfl ?_ | (refine qau ?_; (refine qaa (qaj rfl) rfl ?_ ?_ ?_); rfl; rfl) | (refine qai ?_; (refine qaa (qae rfl) rfl ?_ ?_ ?_); rfl; rfl) | (refine l_len ?_; (first | refine qaa (OpW.len rfl) rfl ?_ ?_ ?_ | refine qaa (qaS rfl) rfl ?_ ?_ ?_); rfl; rfl) | (refine l_gtr ?_; (refine qaa (OpW.gtrT rfl rfl (by omega)) rfl ?_ ?_ ?_); rfl; rfl) | (refine l_leq ?_; (refine qaa (OpW.leqF rfl rfl (by omega)) rfl ?_ ?_ ?_); rfl; rfl) | (refine qaG ?_; first | (refine SXl.lit1 ?_ ?_ rfl rfl rfl (fun g => ?_); rfl; rfl) | (refine SXl.lit0 ?_ ?_ (fun _ h => h) rfl (fun g => ?_); rfl; rfl)) | refine qav ?_ | refine SX.exit ?_ | refine qan ?_ | refine SQ.thenExit ?_ | refine SQ.blockExit ?_)
      refine qaU rfl rfl rfl (fun w' hl => PT.own (l := []) hd (hl.own _ (.head _)).1 hl.mod)

def fromI (k b : Nat) : Int := if b < k then (b : Int) else -1
set_option maxRecDepth 100000 in
set_option maxHeartbeats 4000000 in
theorem partsOf_new (t : List UInt8) (ht : t.length ≤ 1048576) (w : World) : Calls Tryz.prog 28 #[.string ⟨t.toArray⟩] w (PT t w) := by
  refine calls_sx Tryz.func28 rfl rfl (fun a h1 h2 h3 => ((Fr.nil h1 h2).arg (h3 0 _ rfl))) ?_
  by_cases h600 : t.length ≤ 600
  rotate_left
  · have hb := partsOf_long h600
    repeat (first | refine qap ?_ | refine qak ?_ | refine qaf ?_ | refine qab ?_ | refine qao rfl ?_ | (refine qau ?_; (refine qaa (qaj rfl) rfl ?_ ?_ ?_); rfl; rfl) | (refine qai ?_; (refine qaa (qae rfl) rfl ?_ ?_ ?_); rfl; rfl) | (refine l_len ?_; (refine qaa (qaS rfl) rfl ?_ ?_ ?_); rfl; rfl) | (refine l_gtr ?_; (refine qaa (OpW.gtrT rfl rfl (by omega)) rfl ?_ ?_ ?_); rfl; rfl) | refine qav ?_ | refine qan ?_)
    refine qaU rfl rfl rfl (fun w' hl => PT.nil hb hl.mod)
  repeat (first | refine qap ?_ | refine qak ?_ | refine qaf ?_ | refine qab ?_ | refine SX.block ?_ | refine qaE ?_ | refine qas rfl ?_ | (refine qau ?_; (refine qaa (qaj rfl) rfl ?_ ?_ ?_); rfl; rfl) | (refine qai ?_; (refine qaa (qae rfl) rfl ?_ ?_ ?_); rfl; rfl) | (refine l_len ?_; (refine qaa (qaS rfl) rfl ?_ ?_ ?_); rfl; rfl) | (refine l_gtr ?_; (refine qaa (OpW.gtrF rfl rfl (by omega)) rfl ?_ ?_ ?_); rfl; rfl))
  refine SX.ownNil 9 1 ?_
  refine SX.loop3 (fun (p : Nat × Nat) (out : List (List UInt8)) (_ : Option Addr × Nat) => PTo t p.1 p.2 out) (fun p _ _ => t.length + 1 - p.1) (fun _ _ _ => []) (fun _ out q => [⟨.slice q.1 out.length q.2, 9, 1, out.length, (out.map tcell).flatten⟩]) (fun _ _ _ => []) (fun p out q => [(0, .string ⟨t.toArray⟩), (4, .slice q.1 out.length q.2), (5, .int .i64 (fromI p.1 p.2)), (6, .int .i64 p.1)]) (0, 0) [] (none, 0) (PTo.start t) ?_ (fun _ hl => hl) ?_
  · (repeat (first | exact subF_nil _ | (refine subF_cons rfl ?_) | (refine subF_consv rfl (by rfl) ?_)))
  rintro ⟨k, b⟩ out ⟨a, cp⟩ hI
  simp only at hI
  have hk1 := hI.le
  have hfew := hI.few
  have hF : fromI k b = if b < k then (b : Int) else -1 := rfl
  by_cases hle : k ≤ t.length
  · have hbk := hI.ble hle
    by_cases hlt : k < t.length
    · have hu : t[k]? = some t[k] := List.getElem?_eq_getElem hlt
      generalize t[k] = u at hu
      by_cases hok : okB u = true
      rotate_left
      · have hb := PTo.bad hu (Bool.eq_false_iff.2 hok)
        have hne : ¬ (u.toNat : Int) = 32 := by rcases okB_n hok with hx | hx <;> omega
        rcases okB_n hok with hx | hx
        · repeat (first | refine qap ?_ | refine qak ?_ | refine qaf ?_ | refine qab ?_ | refine SX.block ?_ | refine qaE ?_ | refine qao rfl ?_ | refine qas rfl ?_ | (refine SXl.no rfl rfl rfl ?_) | (refine qau ?_; (refine qaa (qaj rfl) rfl ?_ ?_ ?_); rfl; rfl) | (refine qai ?_; (refine qaa (qae rfl) rfl ?_ ?_ ?_); rfl; rfl) | (refine l_len ?_; (refine qaa (qaS rfl) rfl ?_ ?_ ?_); rfl; rfl) | (refine l_index ?_; (refine qaa (OpW.indexStr rfl rfl (by assumption)) rfl ?_ ?_ ?_); rfl; rfl) | (refine qaK ?_; (refine qaa (qaH rfl rfl (by omega)) rfl ?_ ?_ ?_); rfl; rfl) | (refine l_leq ?_; (refine qaa (OpW.leqT rfl rfl (by omega)) rfl ?_ ?_ ?_); rfl; rfl) | (refine l_lss ?_; (refine qaa (OpW.lssT rfl rfl (by omega)) rfl ?_ ?_ ?_); rfl; rfl) | (refine qaR ?_; (refine qaa (qax rfl rfl rfl) rfl ?_ ?_ ?_); rfl; rfl) | refine qav ?_ | refine qan ?_ | refine qaw ?_)
          refine qaU rfl rfl rfl (fun w' hl => PT.nil hb hl.mod)
        · repeat (first | refine qap ?_ | refine qak ?_ | refine qaf ?_ | refine qab ?_ | refine SX.block ?_ | refine qaE ?_ | refine qao rfl ?_ | refine qas rfl ?_ | (refine qau ?_; (refine qaa (qaj rfl) rfl ?_ ?_ ?_); rfl; rfl) | (refine qai ?_; (refine qaa (qae rfl) rfl ?_ ?_ ?_); rfl; rfl) | (refine l_len ?_; (refine qaa (qaS rfl) rfl ?_ ?_ ?_); rfl; rfl) | (refine l_index ?_; (refine qaa (OpW.indexStr rfl rfl (by assumption)) rfl ?_ ?_ ?_); rfl; rfl) | (refine qaK ?_; (refine qaa (qaH rfl rfl (by omega)) rfl ?_ ?_ ?_); rfl; rfl) | (refine l_gtr ?_; (refine qaa (OpW.gtrT rfl rfl (by omega)) rfl ?_ ?_ ?_); rfl; rfl) | (refine l_leq ?_; (refine qaa (OpW.leqT rfl rfl (by omega)) rfl ?_ ?_ ?_); rfl; rfl) | (refine l_lss ?_; (refine qaa (OpW.lssF rfl rfl (by omega)) rfl ?_ ?_ ?_); rfl; rfl) | (refine qaR ?_; (refine qaa (qax rfl rfl rfl) rfl ?_ ?_ ?_); rfl; rfl) | refine qav ?_ | refine qan ?_ | refine qaw ?_)
          refine qaU rfl rfl rfl (fun w' hl => PT.nil hb hl.mod)
      have hox := okB_y hok
      by_cases h32 : u = 32
      · subst h32
        by_cases hb : b < k
        · have hn := hI.cutY hu hb
          rw [if_pos hb] at hF
          simp only [hF]
          repeat (first | refine qap ?_ | refine qak ?_ | refine qaf ?_ | refine qab ?_ | refine SX.block ?_ | refine qaE ?_ | refine qao rfl ?_ | (refine qau ?_; (refine qaa (qaj rfl) rfl ?_ ?_ ?_); rfl; rfl) | (refine qai ?_; (refine qaa (qae rfl) rfl ?_ ?_ ?_); rfl; rfl) | (refine l_len ?_; (refine qaa (qaS rfl) rfl ?_ ?_ ?_); rfl; rfl) | (refine l_index ?_; (refine qaa (OpW.indexStr rfl rfl (by assumption)) rfl ?_ ?_ ?_); rfl; rfl) | (refine l_slice ?_; (refine qaa (OpW.sliceOf rfl rfl rfl (by omega) (by omega)) rfl ?_ ?_ ?_); rfl; rfl) | (refine l_add ?_; (refine qaa (OpW.succ rfl rfl (by omega)) rfl ?_ ?_ ?_); rfl; rfl) | (refine qaK ?_; (first | refine qaa (qaH rfl rfl (by omega)) rfl ?_ ?_ ?_ | refine qaa (OpW.eql rfl rfl) rfl ?_ ?_ ?_); rfl; rfl) | (refine l_geq ?_; (refine qaa (OpW.geqT rfl rfl (by omega)) rfl ?_ ?_ ?_); rfl; rfl) | (refine l_leq ?_; (refine qaa (OpW.leqT rfl rfl (by omega)) rfl ?_ ?_ ?_); rfl; rfl) | (refine qaR ?_; (refine qaa (qax rfl rfl rfl) rfl ?_ ?_ ?_); rfl; rfl) | (refine qaG ?_; first | (refine SXl.lit1 ?_ ?_ rfl rfl rfl (fun g => ?_); rfl; rfl) | (refine SXl.lit0 ?_ ?_ (fun _ h => h) rfl (fun g => ?_); rfl; rfl)) | (refine l_append ?_; first | (refine SXl.append 0 0 rfl rfl rfl rfl rfl rfl rfl rfl (by omega) (by omega) (fun a c => ?_); simp only [List.set_cons_zero, List.set_cons_succ]) | (refine SXl.append 1 0 rfl rfl rfl rfl rfl rfl rfl rfl (by omega) (by omega) (fun a c => ?_); simp only [List.set_cons_zero, List.set_cons_succ])) | refine SX.exit ?_ | refine SQ.thenExit ?_ | refine SQ.blockExit ?_)
          refine SQ.round3 (k + 1, k + 1) (out ++ [(t.drop b).take (k - b)]) (_, _) (by exact hn) (by simp only; omega) ?_ (fun w hl => by rw [List.length_append, List.map_append, List.flatten_append]; exact hl.drop1)
          (repeat (first | exact subF_nil _ | (refine subF_cons rfl ?_) | (refine subF_consv rfl (by first | (rw [List.length_append]; rfl) | (unfold fromI; rw [if_neg (by omega)])) ?_)))
        · have hn := hI.cutN hu hb
          rw [if_neg hb] at hF
          simp only [hF]
          repeat (first | refine qap ?_ | refine qak ?_ | refine qaf ?_ | refine qab ?_ | refine SX.block ?_ | refine qaE ?_ | refine qao rfl ?_ | refine qas rfl ?_ | (refine qau ?_; (refine qaa (qaj rfl) rfl ?_ ?_ ?_); rfl; rfl) | (refine qai ?_; (refine qaa (qae rfl) rfl ?_ ?_ ?_); rfl; rfl) | (refine l_len ?_; (refine qaa (qaS rfl) rfl ?_ ?_ ?_); rfl; rfl) | (refine l_index ?_; (refine qaa (OpW.indexStr rfl rfl (by assumption)) rfl ?_ ?_ ?_); rfl; rfl) | (refine l_add ?_; (refine qaa (OpW.succ rfl rfl (by omega)) rfl ?_ ?_ ?_); rfl; rfl) | (refine qaK ?_; (first | refine qaa (qaH rfl rfl (by omega)) rfl ?_ ?_ ?_ | refine qaa (OpW.eql rfl rfl) rfl ?_ ?_ ?_); rfl; rfl) | (refine l_geq ?_; (refine qaa (OpW.geqF rfl rfl (by omega)) rfl ?_ ?_ ?_); rfl; rfl) | (refine l_leq ?_; (refine qaa (OpW.leqT rfl rfl (by omega)) rfl ?_ ?_ ?_); rfl; rfl) | (refine qaR ?_; (refine qaa (qax rfl rfl rfl) rfl ?_ ?_ ?_); rfl; rfl) | refine SX.exit ?_ | refine SQ.thenExit ?_ | refine SQ.blockExit ?_)
          refine SQ.round3 (k + 1, k + 1) out (a, cp) (by exact hn) (by simp only; omega) ?_ (fun w hl => hl)
          (repeat (first | exact subF_nil _ | (refine subF_cons rfl ?_) | (refine subF_consv rfl (by unfold fromI; rw [if_neg (by omega)]) ?_)))
      · have hn := hI.step hu hok h32
        have hne : ¬ (u.toNat : Int) = 32 := fun e => h32 (UInt8.toNat_inj.1 (by show u.toNat = 32; omega))
        by_cases hb : b < k
        · rw [if_pos hb] at hF
          simp only [hF]
          repeat (first | refine qap ?_ | refine qak ?_ | refine qaf ?_ | refine qab ?_ | refine SX.block ?_ | refine qaE ?_ | refine qao rfl ?_ | refine qas rfl ?_ | (refine qau ?_; (refine qaa (qaj rfl) rfl ?_ ?_ ?_); rfl; rfl) | (refine qai ?_; (refine qaa (qae rfl) rfl ?_ ?_ ?_); rfl; rfl) | (refine l_len ?_; (refine qaa (qaS rfl) rfl ?_ ?_ ?_); rfl; rfl) | (refine l_index ?_; (refine qaa (OpW.indexStr rfl rfl (by assumption)) rfl ?_ ?_ ?_); rfl; rfl) | (refine l_add ?_; (refine qaa (OpW.succ rfl rfl (by omega)) rfl ?_ ?_ ?_); rfl; rfl) | (refine qaK ?_; (refine qaa (qaH rfl rfl (by omega)) rfl ?_ ?_ ?_); rfl; rfl) | (refine l_gtr ?_; (refine qaa (OpW.gtrF rfl rfl (by omega)) rfl ?_ ?_ ?_); rfl; rfl) | (refine l_leq ?_; (refine qaa (OpW.leqT rfl rfl (by omega)) rfl ?_ ?_ ?_); rfl; rfl) | (refine l_lss ?_; (refine qaa (OpW.lssF rfl rfl (by omega)) rfl ?_ ?_ ?_); rfl; rfl) | (refine qaR ?_; (refine qaa (qax rfl rfl rfl) rfl ?_ ?_ ?_); rfl; rfl) | refine qar ?_)
          refine SQ.round3 (k + 1, b) out (a, cp) (by exact hn) (by simp only; omega) ?_ (fun w hl => hl)
          (repeat (first | exact subF_nil _ | (refine subF_cons rfl ?_) | (refine subF_consv rfl (by unfold fromI; rw [if_pos (by omega)]) ?_)))
        · rw [if_neg hb] at hF
          simp only [hF]
          repeat (first | refine qap ?_ | refine qak ?_ | refine qaf ?_ | refine qab ?_ | refine SX.block ?_ | refine qaE ?_ | refine qao rfl ?_ | refine qas rfl ?_ | (refine qau ?_; (refine qaa (qaj rfl) rfl ?_ ?_ ?_); rfl; rfl) | (refine qai ?_; (refine qaa (qae rfl) rfl ?_ ?_ ?_); rfl; rfl) | (refine l_len ?_; (refine qaa (qaS rfl) rfl ?_ ?_ ?_); rfl; rfl) | (refine l_index ?_; (refine qaa (OpW.indexStr rfl rfl (by assumption)) rfl ?_ ?_ ?_); rfl; rfl) | (refine l_add ?_; (refine qaa (OpW.succ rfl rfl (by omega)) rfl ?_ ?_ ?_); rfl; rfl) | (refine qaK ?_; (refine qaa (qaH rfl rfl (by omega)) rfl ?_ ?_ ?_); rfl; rfl) | (refine l_gtr ?_; (refine qaa (OpW.gtrF rfl rfl (by omega)) rfl ?_ ?_ ?_); rfl; rfl) | (refine l_leq ?_; (refine qaa (OpW.leqT rfl rfl (by omega)) rfl ?_ ?_ ?_); rfl; rfl) | (refine l_lss ?_; (first | refine qaa (OpW.lssT rfl rfl (by omega)) rfl ?_ ?_ ?_ | refine qaa (OpW.lssF rfl rfl (by omega)) rfl ?_ ?_ ?_); rfl; rfl) | (refine qaR ?_; (refine qaa (qax rfl rfl rfl) rfl ?_ ?_ ?_); rfl; rfl) | refine qar ?_)
          obtain rfl : b = k := by omega
          refine SQ.round3 (b + 1, b) out (a, cp) (by exact hn) (by simp only; omega) ?_ (fun w hl => hl)
          (repeat (first | exact subF_nil _ | (refine subF_cons rfl ?_) | (refine subF_consv rfl (by unfold fromI; rw [if_pos (by omega)]) ?_)))
    · have hk' : k = t.length := by omega
      subst hk'
      by_cases hb : b < t.length
      · have hn := hI.lastY hb
        rw [if_pos hb] at hF
        simp only [hF]
        repeat (first | refine qap ?_ | refine qak ?_ | refine qaf ?_ | refine qab ?_ | refine SX.block ?_ | refine qaE ?_ | refine qao rfl ?_ | (refine SXl.no rfl rfl rfl ?_) | (refine qau ?_; (refine qaa (qaj rfl) rfl ?_ ?_ ?_); rfl; rfl) | (refine qai ?_; (refine qaa (qae rfl) rfl ?_ ?_ ?_); rfl; rfl) | (refine l_len ?_; (refine qaa (qaS rfl) rfl ?_ ?_ ?_); rfl; rfl) | (refine l_slice ?_; (refine qaa (OpW.sliceOf rfl rfl rfl (by omega) (by omega)) rfl ?_ ?_ ?_); rfl; rfl) | (refine l_add ?_; (refine qaa (OpW.succ rfl rfl (by omega)) rfl ?_ ?_ ?_); rfl; rfl) | (refine qaK ?_; (refine qaa (qaI rfl rfl (by omega)) rfl ?_ ?_ ?_); rfl; rfl) | (refine l_geq ?_; (refine qaa (OpW.geqT rfl rfl (by omega)) rfl ?_ ?_ ?_); rfl; rfl) | (refine l_leq ?_; (refine qaa (OpW.leqT rfl rfl (by omega)) rfl ?_ ?_ ?_); rfl; rfl) | (refine qaR ?_; (refine qaa (qax rfl rfl rfl) rfl ?_ ?_ ?_); rfl; rfl) | (refine qaG ?_; first | (refine SXl.lit1 ?_ ?_ rfl rfl rfl (fun g => ?_); rfl; rfl) | (refine SXl.lit0 ?_ ?_ (fun _ h => h) rfl (fun g => ?_); rfl; rfl)) | (refine l_append ?_; first | (refine SXl.append 0 0 rfl rfl rfl rfl rfl rfl rfl rfl (by omega) (by omega) (fun a c => ?_); simp only [List.set_cons_zero, List.set_cons_succ]) | (refine SXl.append 1 0 rfl rfl rfl rfl rfl rfl rfl rfl (by omega) (by omega) (fun a c => ?_); simp only [List.set_cons_zero, List.set_cons_succ])) | refine SX.exit ?_ | refine SQ.thenExit ?_ | refine SQ.blockExit ?_)
        refine SQ.round3 (t.length + 1, t.length + 1) (out ++ [(t.drop b).take (t.length - b)]) (_, _) (by exact hn) (by simp only; omega) ?_ (fun w hl => by rw [List.length_append, List.map_append, List.flatten_append]; exact hl.drop1)
        (repeat (first | exact subF_nil _ | (refine subF_cons rfl ?_) | (refine subF_consv rfl (by first | (rw [List.length_append]; rfl) | (unfold fromI; rw [if_neg (by omega)])) ?_)))
      · have hn := hI.lastN hb
        rw [if_neg hb] at hF
        simp only [hF]
        repeat (first | refine qap ?_ | refine qak ?_ | refine qaf ?_ | refine qab ?_ | refine SX.block ?_ | refine qaE ?_ | refine qao rfl ?_ | refine qas rfl ?_ | (refine SXl.no rfl rfl rfl ?_) | (refine qau ?_; (refine qaa (qaj rfl) rfl ?_ ?_ ?_); rfl; rfl) | (refine qai ?_; (refine qaa (qae rfl) rfl ?_ ?_ ?_); rfl; rfl) | (refine l_len ?_; (refine qaa (qaS rfl) rfl ?_ ?_ ?_); rfl; rfl) | (refine l_add ?_; (refine qaa (OpW.succ rfl rfl (by omega)) rfl ?_ ?_ ?_); rfl; rfl) | (refine qaK ?_; (refine qaa (qaI rfl rfl (by omega)) rfl ?_ ?_ ?_); rfl; rfl) | (refine l_geq ?_; (refine qaa (OpW.geqF rfl rfl (by omega)) rfl ?_ ?_ ?_); rfl; rfl) | (refine l_leq ?_; (refine qaa (OpW.leqT rfl rfl (by omega)) rfl ?_ ?_ ?_); rfl; rfl) | (refine qaR ?_; (refine qaa (qax rfl rfl rfl) rfl ?_ ?_ ?_); rfl; rfl) | refine SX.exit ?_ | refine SQ.thenExit ?_ | refine SQ.blockExit ?_)
        refine SQ.round3 (t.length + 1, t.length + 1) out (a, cp) (by exact hn) (by simp only; omega) ?_ (fun w hl => hl)
        (repeat (first | exact subF_nil _ | (refine subF_cons rfl ?_) | (refine subF_consv rfl (by unfold fromI; rw [if_neg (by omega)]) ?_)))
  · by_cases h12 : out.length ≤ 12
    · have hd := hI.doneY hle h600 h12
      repeat (first | refine qap ?_ | refine qak ?_ | refine qaf ?_ | refine qab ?_ | refine qaE ?_ | refine qas rfl ?_ | (refine qau ?_; (refine qaa (qaj rfl) rfl ?_ ?_ ?_); rfl; rfl) | (refine qai ?_; (refine qaa (qae rfl) rfl ?_ ?_ ?_); rfl; rfl) | (refine l_len ?_; (first | refine qaa (OpW.len rfl) rfl ?_ ?_ ?_ | refine qaa (qaS rfl) rfl ?_ ?_ ?_); rfl; rfl) | (refine l_gtr ?_; (refine qaa (OpW.gtrF rfl rfl (by omega)) rfl ?_ ?_ ?_); rfl; rfl) | (refine l_leq ?_; (refine qaa (OpW.leqF rfl rfl (by omega)) rfl ?_ ?_ ?_); rfl; rfl) | refine qav ?_ | refine SX.exit ?_ | refine SQ.thenExit ?_ | refine SQ.blockExit ?_)
      refine qaU rfl rfl rfl (fun w' hl => PT.own hd (hl.own _ (.head _)).1 hl.mod)
    · have hd := hI.doneN hle h12
      repeat (first | refine qap ?_ | refine qak ?_ | refine qaf ?_ | refine qab ?_ | refine qao rfl ?_ | refine qas rfl ?_ | (refine qau ?_; (refine qaa (qaj rfl) rfl ?_ ?_ ?_); rfl; rfl) | (refine qai ?_; (refine qaa (qae rfl) rfl ?_ ?_ ?_); rfl; rfl) | (refine l_len ?_; (first | refine qaa (OpW.len rfl) rfl ?_ ?_ ?_ | refine qaa (qaS rfl) rfl ?_ ?_ ?_); rfl; rfl) | (refine l_gtr ?_; (refine qaa (OpW.gtrT rfl rfl (by omega)) rfl ?_ ?_ ?_); rfl; rfl) | (refine l_leq ?_; (refine qaa (OpW.leqF rfl rfl (by omega)) rfl ?_ ?_ ?_); rfl; rfl) | refine qav ?_ | refine SX.exit ?_ | refine qan ?_ | refine SQ.thenExit ?_ | refine SQ.blockExit ?_)
      refine qaU rfl rfl rfl (fun w' hl => PT.nil hd hl.mod)
end Go.Proofs.YtkkjjhooamlljaaGreatDoor
namespace Go.Proofs.YtkkjjhooamlljaaGreatDoor
open Go.RowKit
set_option linter.unusedVariables false
set_option linter.unusedSimpArgs false

/-- What ReadRules hands back. -/
abbrev RR (t : List UInt8) : World → Ending → World → Prop := NewR SlP (fun q => .tuple #[.agg #[.slice q.a (readRules t).1.length q.c], .bool (readRules t).2]) (ownRes Rule.cells 70 3 (readRules t).1)
theorem RR.nil {t : List UInt8} {w w' : World} {b : Bool} (h : readRules t = ([], b)) (hm : Mod (fun _ => False) w w') : RR t w (.returned (.tuple #[.agg #[.slice none 0 0], .bool b])) w' := by
  unfold RR
  rw [h]
  exact ⟨⟨none, 0, 0⟩, rfl, ⟨World.ownsRow_nil _ _ _ _, fun k hk => by cases hk⟩, hm⟩
theorem RR.own {t : List UInt8} {l : List Rule} {w w' : World} {a : Option Addr} {c : Nat} (h : readRules t = (l, true)) (ho : w'.ownsRow w.heap.size 70 3 (.slice a l.length c) l.length (l.map Rule.cells).flatten) (hm : Mod (fun _ => False) w w') : RR t w (.returned (.tuple #[.agg #[.slice a l.length c], .bool true])) w' := by
  unfold RR
  rw [h]
  exact ⟨⟨a, c, w.heap.size⟩, rfl, ⟨ho, fun k hk => ownBlock_lt ho hk⟩, hm⟩
theorem readRules_two {t : List UInt8} (h : t ≠ [45]) : readRules t = match rulesBy triI (splitL 44 t) [] with
  | some l => if tableOk l && decide (ruleTextOf l = t) then (l, true) else ([], false)
  | none => ([], false) := by unfold readRules; rw [if_neg h]; rfl
theorem readRules_S {t : List UInt8} (h : t ≠ [45]) : readRules t = match rulesBy triS (splitL 44 t) [] with
  | some l => if !decide (ruleTextOf l = []) && decide (ruleTextOf l = t) then (l, true) else ([], false)
  | none => ([], false) := by rw [← readRulesS_eq]; unfold readRulesS; rw [if_neg h]; rfl
/-- The rules read of the first k parts. -/
structure RdTo (tri : List UInt8 → Option Rule) (ps : List (List UInt8)) (k : Nat) (acc : List Rule) : Prop where
  le : k ≤ ps.length
  len : acc.length = k
  rest : rulesBy tri ps [] = rulesBy tri (ps.drop k) acc
  six : k ≤ 6
theorem RdTo.start (tri : List UInt8 → Option Rule) (ps : List (List UInt8)) : RdTo tri ps 0 [] := ⟨by omega, rfl, rfl, by omega⟩
section
variable {tri : List UInt8 → Option Rule} {ps : List (List UInt8)} {k : Nat} {acc : List Rule} {p : List UInt8}
theorem drop_at {α : Type} {l : List α} {k : Nat} {x : α} (h : l[k]? = some x) : l.drop k = x :: l.drop (k + 1) := by
  obtain ⟨h1, h2⟩ := List.getElem?_eq_some_iff.1 h
  rw [List.drop_eq_getElem_cons h1, h2]
theorem RdTo.full (h : RdTo tri ps k acc) (hp : ps[k]? = some p) (h6 : 6 ≤ k) : rulesBy tri ps [] = none := by
  rw [h.rest, drop_at hp, rulesBy, if_pos (by rw [h.len]; exact h6)]
theorem RdTo.bad (h : RdTo tri ps k acc) (hp : ps[k]? = some p) (hb : tri p = none) : rulesBy tri ps [] = none := by
  rw [h.rest, drop_at hp, rulesBy, hb]
  split <;> rfl
theorem RdTo.next {r : Rule} (h : RdTo tri ps k acc) (hp : ps[k]? = some p) (h6 : k < 6) (hr : tri p = some r) : RdTo tri ps (k + 1) (acc ++ [r]) where
  le := (List.getElem?_eq_some_iff.1 hp).1
  len := by rw [List.length_append, h.len]; rfl
  rest := by rw [h.rest, drop_at hp, rulesBy, if_neg (by rw [h.len]; omega), hr]
  six := by omega
theorem RdTo.done (h : RdTo tri ps ps.length acc) : rulesBy tri ps [] = some acc := by rw [h.rest, List.drop_length]; rfl
end
theorem three {α : Type} {l : List α} (h : l.length = 3) : ∃ a b d, l = [a, b, d] := by
  match l, h with
  | [a, b, d], _ => exact ⟨a, b, d, rfl⟩
theorem not3 {p : List UInt8} (h : ¬ (splitL 58 p).length = 3) : triI p = none ∧ triS p = none := by
  unfold triI triS
  split
  · rename_i e; rw [e] at h; exact (h rfl).elim
  · exact ⟨rfl, rfl⟩

theorem readRoom_any (t : List UInt8) (ht : t.length ≤ 1048576) (w : World) (htab : Tab w) (hsyn : Syn w) : Calls Tryz.prog 51 #[.string ⟨t.toArray⟩] w fun e w' => e = .returned (.tuple #[.int .i64 (readRoom t).1, .bool (readRoom t).2]) ∧ Mod (fun _ => False) w w' := by
  refine calls_sx Tryz.func51 rfl rfl (fun a h1 h2 h3 => ((Fr.nil h1 h2).arg (h3 0 _ rfl))) ?_
  have hd := fun w h h' => readDecimal_any t ht w h h'
  unfold readRoom
  by_cases h : t = [45, 49]
  · rw [if_pos h]
    repeat (first | refine qap ?_ | refine qak ?_ | refine qaf ?_ | refine qab ?_ | refine qao rfl ?_ | (refine qau ?_; (refine qaa (qaj rfl) rfl ?_ ?_ ?_); rfl; rfl) | (refine qai ?_; (refine qaa (qae rfl) rfl ?_ ?_ ?_); rfl; rfl) | (refine qaK ?_; (refine qaa (qaB rfl rfl (by first | assumption | with_reducible rfl | decide)) rfl ?_ ?_ ?_); rfl; rfl) | refine qav ?_ | refine qan ?_)
    refine qaU rfl rfl rfl (fun w' hl => ⟨rfl, hl.mod⟩)
  · rw [if_neg h]
    repeat (first | refine qap ?_ | refine qak ?_ | refine qaf ?_ | refine qab ?_ | refine qaE ?_ | refine qas rfl ?_ | (refine qaA ?_; (refine qaa (qal rfl (fun w hl => hd _ (htab.keep hl.mod) (hsyn.keep hl.mod))) rfl ?_ ?_ ?_); rfl; rfl) | (refine qau ?_; (refine qaa (qaj rfl) rfl ?_ ?_ ?_); rfl; rfl) | (refine qai ?_; (refine qaa (qae rfl) rfl ?_ ?_ ?_); rfl; rfl) | (refine qaK ?_; (refine qaa (qay rfl rfl (by first | assumption | with_reducible rfl | decide)) rfl ?_ ?_ ?_); rfl; rfl) | (refine qaP ?_; (refine qaa (OpW.extract rfl rfl) rfl ?_ ?_ ?_); rfl; rfl) | refine qav ?_)
    refine qaU rfl rfl rfl (fun w' hl => ⟨rfl, hl.mod⟩)

set_option maxRecDepth 100000 in
set_option maxHeartbeats 8000000 in
theorem readRules_new (t : List UInt8) (ht : t.length ≤ 1048576) (w : World) (hz : Num0 w) (htab : Tab w) (hsyn : Syn w) : Calls Tryz.prog 15 #[.string ⟨t.toArray⟩] w (RR t w) := by
  refine calls_sx Tryz.func15 rfl rfl (fun a h1 h2 h3 => ((Fr.nil h1 h2).arg (h3 0 _ rfl))) ?_
  by_cases h45 : t = [45]
  · have hR : readRules t = ([], true) := by unfold readRules; rw [if_pos h45]
    repeat (first | refine qap ?_ | refine qak ?_ | refine qaf ?_ | refine qab ?_ | refine qao rfl ?_ | (refine qau ?_; (refine qaa (qaj rfl) rfl ?_ ?_ ?_); rfl; rfl) | (refine qai ?_; (refine qaa (qae rfl) rfl ?_ ?_ ?_); rfl; rfl) | (refine qaO ?_; (refine qaa (qaz rfl rfl) rfl ?_ ?_ ?_); rfl; rfl) | (refine qaK ?_; (refine qaa (qaB rfl rfl (by first | assumption | with_reducible rfl | decide)) rfl ?_ ?_ ?_); rfl; rfl) | (refine qaT ?_; refine SXl.alloc ?_ ?_ (fun g => ?_); rfl; rfl) | (refine qaD ?_; first | ((first | refine qah 0 ?_ rfl rfl rfl rfl rfl rfl ?_ | refine qah 1 ?_ rfl rfl rfl rfl rfl rfl ?_ | refine qah 2 ?_ rfl rfl rfl rfl rfl rfl ?_); rfl; simp only [List.set_cons_zero, List.set_cons_succ]) | ((first | refine qad 0 ?_ rfl rfl rfl rfl rfl rfl rfl ?_ | refine qad 1 ?_ rfl rfl rfl rfl rfl rfl rfl ?_ | refine qad 2 ?_ rfl rfl rfl rfl rfl rfl rfl ?_); rfl; simp only [List.set_cons_zero, List.set_cons_succ]) | ((first | refine qac 0 ?_ rfl rfl rfl rfl rfl rfl rfl ?_ | refine qac 1 ?_ rfl rfl rfl rfl rfl rfl rfl ?_ | refine qac 2 ?_ rfl rfl rfl rfl rfl rfl rfl ?_); rfl; simp only [over, List.set_cons_zero, List.set_cons_succ])) | refine qav ?_ | refine qan ?_)
    refine qaL 0 rfl rfl rfl rfl rfl (fun w' hl => RR.nil hR hl.mod)
  have hR := readRules_two h45
  repeat (first | refine qap ?_ | refine qak ?_ | refine qaf ?_ | refine qab ?_ | refine qaE ?_ | refine qas rfl ?_ | (refine qau ?_; (refine qaa (qaj rfl) rfl ?_ ?_ ?_); rfl; rfl) | (refine qai ?_; (refine qaa (qae rfl) rfl ?_ ?_ ?_); rfl; rfl) | (refine qaK ?_; (refine qaa (qay rfl rfl (by first | assumption | with_reducible rfl | decide)) rfl ?_ ?_ ?_); rfl; rfl) | (refine qaT ?_; refine SXl.alloc ?_ ?_ (fun g => ?_); rfl; rfl))
  rename_i g2
  revert g; intro g4
  refine qaA ?_
  refine SXl.calln1 (v := fun p : Nat × Nat => .slice (some ⟨p.1, 0, none⟩) (splitL 44 t).length p.2) (F1 := textsRes (splitL 44 t)) rfl rfl rfl (fun w hl => split_new t 44 ht _ (hz.keep hl.mod)) (fun p => ?_)
  have hpl := splitL_len 44 t
  have hps := splitL_short 44 t
  generalize splitL 44 t = ps at hR hpl hps
  repeat (first | refine qak ?_ | refine qab ?_ | refine SX.block ?_ | (refine qau ?_; (refine qaa (qaj rfl) rfl ?_ ?_ ?_); rfl; rfl) | (refine l_len ?_; (refine qaa (OpW.len rfl) rfl ?_ ?_ ?_); rfl; rfl))
  refine SX.ownNil 70 3 ?_
  refine SX.loop3 (fun (k : Nat) (acc : List Rule) (_ : Option Addr × Nat) => RdTo triI ps k acc) (fun k _ _ => ps.length - k) (fun _ acc q => [⟨g4, [.slice q.1 acc.length q.2], 26⟩, ⟨g2, [.slice none 0 0], 26⟩]) (fun _ acc q => [⟨.slice q.1 acc.length q.2, 70, 3, acc.length, (acc.map Rule.cells).flatten⟩]) (fun _ _ _ => [textsRes ps p]) (fun k acc q => [(0, .string ⟨t.toArray⟩), (2, .pointer (some ⟨g2, 0, none⟩)), (4, .pointer (some ⟨g4, 0, none⟩)), (18, .slice (some ⟨p.1, 0, none⟩) ps.length p.2), (19, .int .i64 ps.length), (20, .int .i64 k)]) 0 [] (none, 0) (RdTo.start _ _) ?_ (fun _ hl => hl) ?_
  · (repeat (first | exact subF_nil _ | (refine subF_cons rfl ?_) | (refine subF_consv rfl (by rfl) ?_)))
  rintro k acc ⟨aa, ac⟩ hI
  have hk := hI.le
  have hal := hI.len
  have hk6 := hI.six
  by_cases hlt : k < ps.length
  · obtain ⟨x, hx⟩ : ∃ x, ps[k]? = some x := ⟨_, List.getElem?_eq_getElem hlt⟩
    have hxl := hps x (List.mem_of_getElem? hx)
    have hcell := texts_at (p := p) hx
    repeat (first | refine qap ?_ | refine qak ?_ | refine qaf ?_ | refine qab ?_ | refine SX.block ?_ | refine qaE ?_ | refine qao rfl ?_ | (refine qaF ?_; (refine qaa (OpW.loadRes (F := textsRes ps p) (.head _) rfl hcell) rfl ?_ ?_ ?_); rfl; rfl) | (refine qau ?_; (refine qaa (qaj rfl) rfl ?_ ?_ ?_); rfl; rfl) | (refine qai ?_; (refine qaa (qae rfl) rfl ?_ ?_ ?_); rfl; rfl) | (refine l_lss ?_; (refine qaa (OpW.lssT rfl rfl (by omega)) rfl ?_ ?_ ?_); rfl; rfl) | (refine l_indexAddr ?_; (refine qaa (qaM (by omega) rfl rfl) rfl ?_ ?_ ?_); rfl; rfl))
    refine qaA ?_
    refine SXl.calln1 (v := fun p : Nat × Nat => .slice (some ⟨p.1, 0, none⟩) (splitL 58 x).length p.2) (F1 := textsRes (splitL 58 x)) rfl rfl rfl (fun w hl => split_new x 58 (by omega) _ (hz.keep hl.mod)) (fun q => ?_)
    by_cases h3 : (splitL 58 x).length = 3
    rotate_left
    · have hb : readRules t = ([], false) := by rw [hR, hI.bad hx (not3 h3).1]
      repeat (first | refine qap ?_ | refine qak ?_ | refine qaf ?_ | refine qab ?_ | refine qao rfl ?_ | (refine SXl.no rfl rfl rfl ?_) | (refine qau ?_; (refine qaa (qaj rfl) rfl ?_ ?_ ?_); rfl; rfl) | (refine qai ?_; (refine qaa (qae rfl) rfl ?_ ?_ ?_); rfl; rfl) | (refine l_len ?_; (refine qaa (OpW.len rfl) rfl ?_ ?_ ?_); rfl; rfl) | (refine qaO ?_; (refine qaa (qaz rfl rfl) rfl ?_ ?_ ?_); rfl; rfl) | (refine l_neq ?_; (refine qaa (OpW.neqT rfl rfl (by omega)) rfl ?_ ?_ ?_); rfl; rfl) | (refine qaR ?_; (refine qaa (qax rfl rfl rfl) rfl ?_ ?_ ?_); rfl; rfl) | (refine qaD ?_; first | ((first | refine qah 0 ?_ rfl rfl rfl rfl rfl rfl ?_ | refine qah 1 ?_ rfl rfl rfl rfl rfl rfl ?_ | refine qah 2 ?_ rfl rfl rfl rfl rfl rfl ?_); rfl; simp only [List.set_cons_zero, List.set_cons_succ]) | ((first | refine qad 0 ?_ rfl rfl rfl rfl rfl rfl rfl ?_ | refine qad 1 ?_ rfl rfl rfl rfl rfl rfl rfl ?_ | refine qad 2 ?_ rfl rfl rfl rfl rfl rfl rfl ?_); rfl; simp only [List.set_cons_zero, List.set_cons_succ]) | ((first | refine qac 0 ?_ rfl rfl rfl rfl rfl rfl rfl ?_ | refine qac 1 ?_ rfl rfl rfl rfl rfl rfl rfl ?_ | refine qac 2 ?_ rfl rfl rfl rfl rfl rfl rfl ?_); rfl; simp only [over, List.set_cons_zero, List.set_cons_succ])) | refine qav ?_ | refine qan ?_ | refine qaw ?_)
      refine qaL 1 rfl rfl rfl rfl rfl (fun w' hl => RR.nil hb hl.mod)
    by_cases h6 : 6 ≤ k
    · have hb : readRules t = ([], false) := by rw [hR, hI.full hx h6]
      repeat (first | refine qap ?_ | refine qak ?_ | refine qaf ?_ | refine qab ?_ | refine qao rfl ?_ | (refine qaF ?_; (refine qaa (qat 0 rfl rfl rfl) rfl ?_ ?_ ?_); rfl; rfl) | (refine qam ?_; (refine qaa (qag rfl) rfl ?_ ?_ ?_); rfl; rfl) | (refine qau ?_; (refine qaa (qaj rfl) rfl ?_ ?_ ?_); rfl; rfl) | (refine qai ?_; (refine qaa (qae rfl) rfl ?_ ?_ ?_); rfl; rfl) | (refine l_len ?_; (refine qaa (OpW.len rfl) rfl ?_ ?_ ?_); rfl; rfl) | (refine qaO ?_; (refine qaa (qaz rfl rfl) rfl ?_ ?_ ?_); rfl; rfl) | (refine l_geq ?_; (refine qaa (OpW.geqT rfl rfl (by omega)) rfl ?_ ?_ ?_); rfl; rfl) | (refine l_neq ?_; (refine qaa (OpW.neqF rfl rfl (by omega)) rfl ?_ ?_ ?_); rfl; rfl) | (refine qaR ?_; (refine qaa (qax rfl rfl rfl) rfl ?_ ?_ ?_); rfl; rfl) | (refine qaD ?_; first | ((first | refine qah 0 ?_ rfl rfl rfl rfl rfl rfl ?_ | refine qah 1 ?_ rfl rfl rfl rfl rfl rfl ?_ | refine qah 2 ?_ rfl rfl rfl rfl rfl rfl ?_); rfl; simp only [List.set_cons_zero, List.set_cons_succ]) | ((first | refine qad 0 ?_ rfl rfl rfl rfl rfl rfl rfl ?_ | refine qad 1 ?_ rfl rfl rfl rfl rfl rfl rfl ?_ | refine qad 2 ?_ rfl rfl rfl rfl rfl rfl rfl ?_); rfl; simp only [List.set_cons_zero, List.set_cons_succ]) | ((first | refine qac 0 ?_ rfl rfl rfl rfl rfl rfl rfl ?_ | refine qac 1 ?_ rfl rfl rfl rfl rfl rfl rfl ?_ | refine qac 2 ?_ rfl rfl rfl rfl rfl rfl rfl ?_); rfl; simp only [over, List.set_cons_zero, List.set_cons_succ])) | refine qav ?_ | refine qan ?_ | refine qaw ?_)
      refine qaL 1 rfl rfl rfl rfl rfl (fun w' hl => RR.nil hb hl.mod)
    obtain ⟨u, v, d, huvd⟩ := three h3
    have hsh := splitL_short 58 x
    have htri : triI x = if (readRoom u).2 && (readDec v).2 && (readDec d).2 then some ⟨(readRoom u).1, (readDec v).1, (readDec d).1⟩ else none := by unfold triI; rw [huvd]
    rw [huvd] at hsh ⊢
    have hu := fun w h h' => readRoom_any u (by have := hsh u (by simp); omega) w h h'
    have hv := fun w h h' => readDecimal_any v (by have := hsh v (by simp); omega) w h h'
    have hd := fun w h h' => readDecimal_any d (by have := hsh d (by simp); omega) w h h'
    have cu := texts_at (p := q) (l := [u, v, d]) (i := 0) rfl
    have cv := texts_at (p := q) (l := [u, v, d]) (i := 1) rfl
    have cd := texts_at (p := q) (l := [u, v, d]) (i := 2) rfl
    rcases e0 : readRoom u with ⟨nu, bu⟩
    rcases e1 : readDec v with ⟨nv, bv⟩
    rcases e2 : readDec d with ⟨nd, bd⟩
    rw [e0] at hu htri
    rw [e1] at hv htri
    rw [e2] at hd htri
    simp only at hu hv hd htri
    clear hcell hsh hxl h3 huvd
    cases bu
    · have hb : readRules t = ([], false) := by rw [hR, hI.bad hx (htri.trans (by simp))]
      repeat (first | refine qap ?_ | refine qak ?_ | refine qaf ?_ | refine qab ?_ | refine qaE ?_ | refine qao rfl ?_ | refine qas rfl ?_ | (refine SXl.no rfl rfl rfl ?_) | (refine qaF ?_; (first | refine qaa (OpW.loadRes (F := textsRes [u, v, d] q) (.head _) rfl cu) rfl ?_ ?_ ?_ | refine qaa (OpW.loadRes (F := textsRes [u, v, d] q) (.head _) rfl cv) rfl ?_ ?_ ?_ | refine qaa (OpW.loadRes (F := textsRes [u, v, d] q) (.head _) rfl cd) rfl ?_ ?_ ?_ | refine qaa (qat 0 rfl rfl rfl) rfl ?_ ?_ ?_); rfl; rfl) | (refine qaA ?_; (first | refine qaa (qal (args := [.string ⟨u.toArray⟩]) rfl (fun w hl => hu _ (htab.keep hl.mod) (hsyn.keep hl.mod))) rfl ?_ ?_ ?_ | refine qaa (qal (args := [.string ⟨v.toArray⟩]) rfl (fun w hl => hv _ (htab.keep hl.mod) (hsyn.keep hl.mod))) rfl ?_ ?_ ?_ | refine qaa (qal (args := [.string ⟨d.toArray⟩]) rfl (fun w hl => hd _ (htab.keep hl.mod) (hsyn.keep hl.mod))) rfl ?_ ?_ ?_); rfl; rfl) | (refine qam ?_; (refine qaa (qag rfl) rfl ?_ ?_ ?_); rfl; rfl) | (refine qau ?_; (refine qaa (qaj rfl) rfl ?_ ?_ ?_); rfl; rfl) | (refine qai ?_; (refine qaa (qae rfl) rfl ?_ ?_ ?_); rfl; rfl) | (refine l_len ?_; (refine qaa (OpW.len rfl) rfl ?_ ?_ ?_); rfl; rfl) | (refine qaO ?_; (refine qaa (qaz rfl rfl) rfl ?_ ?_ ?_); rfl; rfl) | (refine l_geq ?_; (refine qaa (OpW.geqF rfl rfl (by omega)) rfl ?_ ?_ ?_); rfl; rfl) | (refine l_neq ?_; (refine qaa (OpW.neq rfl rfl) rfl ?_ ?_ ?_); rfl; rfl) | (refine l_not ?_; (refine qaa (OpW.not rfl) rfl ?_ ?_ ?_); rfl; rfl) | (refine qaR ?_; (refine qaa (qax rfl rfl rfl) rfl ?_ ?_ ?_); rfl; rfl) | (refine qaP ?_; (refine qaa (OpW.extract rfl rfl) rfl ?_ ?_ ?_); rfl; rfl) | (refine l_indexAddr ?_; (first | refine qaa (qaM (i := 0) (by first | omega | simp) rfl rfl) rfl ?_ ?_ ?_ | refine qaa (qaM (i := 1) (by first | omega | simp) rfl rfl) rfl ?_ ?_ ?_ | refine qaa (qaM (i := 2) (by first | omega | simp) rfl rfl) rfl ?_ ?_ ?_); rfl; rfl) | (refine qaD ?_; first | ((first | refine qah 0 ?_ rfl rfl rfl rfl rfl rfl ?_ | refine qah 1 ?_ rfl rfl rfl rfl rfl rfl ?_ | refine qah 2 ?_ rfl rfl rfl rfl rfl rfl ?_); rfl; simp only [List.set_cons_zero, List.set_cons_succ]) | ((first | refine qad 0 ?_ rfl rfl rfl rfl rfl rfl rfl ?_ | refine qad 1 ?_ rfl rfl rfl rfl rfl rfl rfl ?_ | refine qad 2 ?_ rfl rfl rfl rfl rfl rfl rfl ?_); rfl; simp only [List.set_cons_zero, List.set_cons_succ]) | ((first | refine qac 0 ?_ rfl rfl rfl rfl rfl rfl rfl ?_ | refine qac 1 ?_ rfl rfl rfl rfl rfl rfl rfl ?_ | refine qac 2 ?_ rfl rfl rfl rfl rfl rfl rfl ?_); rfl; simp only [over, List.set_cons_zero, List.set_cons_succ])) | refine qav ?_ | refine qan ?_ | refine qaw ?_)
      refine qaL 1 rfl rfl rfl rfl rfl (fun w' hl => RR.nil hb hl.mod)
    cases bv
    · have hb : readRules t = ([], false) := by rw [hR, hI.bad hx (htri.trans (by simp))]
      repeat (first | refine qap ?_ | refine qak ?_ | refine qaf ?_ | refine qab ?_ | refine qaE ?_ | refine qao rfl ?_ | refine qas rfl ?_ | (refine SXl.no rfl rfl rfl ?_) | (refine qaF ?_; (first | refine qaa (OpW.loadRes (F := textsRes [u, v, d] q) (.head _) rfl cu) rfl ?_ ?_ ?_ | refine qaa (OpW.loadRes (F := textsRes [u, v, d] q) (.head _) rfl cv) rfl ?_ ?_ ?_ | refine qaa (OpW.loadRes (F := textsRes [u, v, d] q) (.head _) rfl cd) rfl ?_ ?_ ?_ | refine qaa (qat 0 rfl rfl rfl) rfl ?_ ?_ ?_); rfl; rfl) | (refine qaA ?_; (first | refine qaa (qal (args := [.string ⟨u.toArray⟩]) rfl (fun w hl => hu _ (htab.keep hl.mod) (hsyn.keep hl.mod))) rfl ?_ ?_ ?_ | refine qaa (qal (args := [.string ⟨v.toArray⟩]) rfl (fun w hl => hv _ (htab.keep hl.mod) (hsyn.keep hl.mod))) rfl ?_ ?_ ?_ | refine qaa (qal (args := [.string ⟨d.toArray⟩]) rfl (fun w hl => hd _ (htab.keep hl.mod) (hsyn.keep hl.mod))) rfl ?_ ?_ ?_); rfl; rfl) | (refine qam ?_; (refine qaa (qag rfl) rfl ?_ ?_ ?_); rfl; rfl) | (refine qau ?_; (refine qaa (qaj rfl) rfl ?_ ?_ ?_); rfl; rfl) | (refine qai ?_; (refine qaa (qae rfl) rfl ?_ ?_ ?_); rfl; rfl) | (refine l_len ?_; (refine qaa (OpW.len rfl) rfl ?_ ?_ ?_); rfl; rfl) | (refine qaO ?_; (refine qaa (qaz rfl rfl) rfl ?_ ?_ ?_); rfl; rfl) | (refine l_geq ?_; (refine qaa (OpW.geqF rfl rfl (by omega)) rfl ?_ ?_ ?_); rfl; rfl) | (refine l_neq ?_; (refine qaa (OpW.neq rfl rfl) rfl ?_ ?_ ?_); rfl; rfl) | (refine l_not ?_; (refine qaa (OpW.not rfl) rfl ?_ ?_ ?_); rfl; rfl) | (refine qaR ?_; (refine qaa (qax rfl rfl rfl) rfl ?_ ?_ ?_); rfl; rfl) | (refine qaP ?_; (refine qaa (OpW.extract rfl rfl) rfl ?_ ?_ ?_); rfl; rfl) | (refine l_indexAddr ?_; (first | refine qaa (qaM (i := 0) (by first | omega | simp) rfl rfl) rfl ?_ ?_ ?_ | refine qaa (qaM (i := 1) (by first | omega | simp) rfl rfl) rfl ?_ ?_ ?_ | refine qaa (qaM (i := 2) (by first | omega | simp) rfl rfl) rfl ?_ ?_ ?_); rfl; rfl) | (refine qaD ?_; first | ((first | refine qah 0 ?_ rfl rfl rfl rfl rfl rfl ?_ | refine qah 1 ?_ rfl rfl rfl rfl rfl rfl ?_ | refine qah 2 ?_ rfl rfl rfl rfl rfl rfl ?_); rfl; simp only [List.set_cons_zero, List.set_cons_succ]) | ((first | refine qad 0 ?_ rfl rfl rfl rfl rfl rfl rfl ?_ | refine qad 1 ?_ rfl rfl rfl rfl rfl rfl rfl ?_ | refine qad 2 ?_ rfl rfl rfl rfl rfl rfl rfl ?_); rfl; simp only [List.set_cons_zero, List.set_cons_succ]) | ((first | refine qac 0 ?_ rfl rfl rfl rfl rfl rfl rfl ?_ | refine qac 1 ?_ rfl rfl rfl rfl rfl rfl rfl ?_ | refine qac 2 ?_ rfl rfl rfl rfl rfl rfl rfl ?_); rfl; simp only [over, List.set_cons_zero, List.set_cons_succ])) | refine qav ?_ | refine qan ?_ | refine qaw ?_)
      refine qaL 1 rfl rfl rfl rfl rfl (fun w' hl => RR.nil hb hl.mod)
    cases bd
    · have hb : readRules t = ([], false) := by rw [hR, hI.bad hx (htri.trans (by simp))]
      repeat (first | refine qap ?_ | refine qak ?_ | refine qaf ?_ | refine qab ?_ | refine qaE ?_ | refine qao rfl ?_ | refine qas rfl ?_ | (refine qaF ?_; (first | refine qaa (OpW.loadRes (F := textsRes [u, v, d] q) (.head _) rfl cu) rfl ?_ ?_ ?_ | refine qaa (OpW.loadRes (F := textsRes [u, v, d] q) (.head _) rfl cv) rfl ?_ ?_ ?_ | refine qaa (OpW.loadRes (F := textsRes [u, v, d] q) (.head _) rfl cd) rfl ?_ ?_ ?_ | refine qaa (qat 0 rfl rfl rfl) rfl ?_ ?_ ?_); rfl; rfl) | (refine qaA ?_; (first | refine qaa (qal (args := [.string ⟨u.toArray⟩]) rfl (fun w hl => hu _ (htab.keep hl.mod) (hsyn.keep hl.mod))) rfl ?_ ?_ ?_ | refine qaa (qal (args := [.string ⟨v.toArray⟩]) rfl (fun w hl => hv _ (htab.keep hl.mod) (hsyn.keep hl.mod))) rfl ?_ ?_ ?_ | refine qaa (qal (args := [.string ⟨d.toArray⟩]) rfl (fun w hl => hd _ (htab.keep hl.mod) (hsyn.keep hl.mod))) rfl ?_ ?_ ?_); rfl; rfl) | (refine qam ?_; (refine qaa (qag rfl) rfl ?_ ?_ ?_); rfl; rfl) | (refine qau ?_; (refine qaa (qaj rfl) rfl ?_ ?_ ?_); rfl; rfl) | (refine qai ?_; (refine qaa (qae rfl) rfl ?_ ?_ ?_); rfl; rfl) | (refine l_len ?_; (refine qaa (OpW.len rfl) rfl ?_ ?_ ?_); rfl; rfl) | (refine qaO ?_; (refine qaa (qaz rfl rfl) rfl ?_ ?_ ?_); rfl; rfl) | (refine l_geq ?_; (refine qaa (OpW.geqF rfl rfl (by omega)) rfl ?_ ?_ ?_); rfl; rfl) | (refine l_neq ?_; (refine qaa (OpW.neq rfl rfl) rfl ?_ ?_ ?_); rfl; rfl) | (refine l_not ?_; (refine qaa (OpW.not rfl) rfl ?_ ?_ ?_); rfl; rfl) | (refine qaR ?_; (refine qaa (qax rfl rfl rfl) rfl ?_ ?_ ?_); rfl; rfl) | (refine qaP ?_; (refine qaa (OpW.extract rfl rfl) rfl ?_ ?_ ?_); rfl; rfl) | (refine l_indexAddr ?_; (first | refine qaa (qaM (i := 0) (by first | omega | simp) rfl rfl) rfl ?_ ?_ ?_ | refine qaa (qaM (i := 1) (by first | omega | simp) rfl rfl) rfl ?_ ?_ ?_ | refine qaa (qaM (i := 2) (by first | omega | simp) rfl rfl) rfl ?_ ?_ ?_); rfl; rfl) | (refine qaD ?_; first | ((first | refine qah 0 ?_ rfl rfl rfl rfl rfl rfl ?_ | refine qah 1 ?_ rfl rfl rfl rfl rfl rfl ?_ | refine qah 2 ?_ rfl rfl rfl rfl rfl rfl ?_); rfl; simp only [List.set_cons_zero, List.set_cons_succ]) | ((first | refine qad 0 ?_ rfl rfl rfl rfl rfl rfl rfl ?_ | refine qad 1 ?_ rfl rfl rfl rfl rfl rfl rfl ?_ | refine qad 2 ?_ rfl rfl rfl rfl rfl rfl rfl ?_); rfl; simp only [List.set_cons_zero, List.set_cons_succ]) | ((first | refine qac 0 ?_ rfl rfl rfl rfl rfl rfl rfl ?_ | refine qac 1 ?_ rfl rfl rfl rfl rfl rfl rfl ?_ | refine qac 2 ?_ rfl rfl rfl rfl rfl rfl rfl ?_); rfl; simp only [over, List.set_cons_zero, List.set_cons_succ])) | refine qav ?_ | refine qan ?_ | refine qaw ?_)
      refine qaL 1 rfl rfl rfl rfl rfl (fun w' hl => RR.nil hb hl.mod)
    have hn := hI.next (r := ⟨nu, nv, nd⟩) hx (by omega) (htri.trans (by simp))
    repeat (first | refine qap ?_ | refine qak ?_ | refine qaf ?_ | refine qab ?_ | refine qaE ?_ | refine qas rfl ?_ | (refine qaF ?_; (first | refine qaa (OpW.loadRes (F := textsRes [u, v, d] q) (.head _) rfl cu) rfl ?_ ?_ ?_ | refine qaa (OpW.loadRes (F := textsRes [u, v, d] q) (.head _) rfl cv) rfl ?_ ?_ ?_ | refine qaa (OpW.loadRes (F := textsRes [u, v, d] q) (.head _) rfl cd) rfl ?_ ?_ ?_ | refine qaa (qat 0 rfl rfl rfl) rfl ?_ ?_ ?_); rfl; rfl) | (refine qaA ?_; (first | refine qaa (qal (args := [.string ⟨u.toArray⟩]) rfl (fun w hl => hu _ (htab.keep hl.mod) (hsyn.keep hl.mod))) rfl ?_ ?_ ?_ | refine qaa (qal (args := [.string ⟨v.toArray⟩]) rfl (fun w hl => hv _ (htab.keep hl.mod) (hsyn.keep hl.mod))) rfl ?_ ?_ ?_ | refine qaa (qal (args := [.string ⟨d.toArray⟩]) rfl (fun w hl => hd _ (htab.keep hl.mod) (hsyn.keep hl.mod))) rfl ?_ ?_ ?_); rfl; rfl) | (refine qam ?_; (refine qaa (qag rfl) rfl ?_ ?_ ?_); rfl; rfl) | (refine qau ?_; (refine qaa (qaj rfl) rfl ?_ ?_ ?_); rfl; rfl) | (refine qai ?_; (refine qaa (qae rfl) rfl ?_ ?_ ?_); rfl; rfl) | (refine l_len ?_; (refine qaa (OpW.len rfl) rfl ?_ ?_ ?_); rfl; rfl) | (refine qaO ?_; (refine qaa (qaz rfl rfl) rfl ?_ ?_ ?_); rfl; rfl) | (refine l_add ?_; (refine qaa (OpW.succ rfl rfl (by omega)) rfl ?_ ?_ ?_); rfl; rfl) | (refine l_geq ?_; (refine qaa (OpW.geqF rfl rfl (by omega)) rfl ?_ ?_ ?_); rfl; rfl) | (refine l_neq ?_; (refine qaa (OpW.neq rfl rfl) rfl ?_ ?_ ?_); rfl; rfl) | (refine l_not ?_; (refine qaa (OpW.not rfl) rfl ?_ ?_ ?_); rfl; rfl) | (refine qaR ?_; (refine qaa (qax rfl rfl rfl) rfl ?_ ?_ ?_); rfl; rfl) | (refine qaP ?_; (refine qaa (OpW.extract rfl rfl) rfl ?_ ?_ ?_); rfl; rfl) | (refine l_indexAddr ?_; (first | refine qaa (qaM (i := 0) (by first | omega | simp) rfl rfl) rfl ?_ ?_ ?_ | refine qaa (qaM (i := 1) (by first | omega | simp) rfl rfl) rfl ?_ ?_ ?_ | refine qaa (qaM (i := 2) (by first | omega | simp) rfl rfl) rfl ?_ ?_ ?_); rfl; rfl) | (refine qaD ?_; first | ((first | refine qah 0 ?_ rfl rfl rfl rfl rfl rfl ?_ | refine qah 1 ?_ rfl rfl rfl rfl rfl rfl ?_ | refine qah 2 ?_ rfl rfl rfl rfl rfl rfl ?_); rfl; simp only [List.set_cons_zero, List.set_cons_succ]) | ((first | refine qad 0 ?_ rfl rfl rfl rfl rfl rfl rfl ?_ | refine qad 1 ?_ rfl rfl rfl rfl rfl rfl rfl ?_ | refine qad 2 ?_ rfl rfl rfl rfl rfl rfl rfl ?_); rfl; simp only [List.set_cons_zero, List.set_cons_succ]) | ((first | refine qac 0 ?_ rfl rfl rfl rfl rfl rfl rfl ?_ | refine qac 1 ?_ rfl rfl rfl rfl rfl rfl rfl ?_ | refine qac 2 ?_ rfl rfl rfl rfl rfl rfl rfl ?_); rfl; simp only [over, List.set_cons_zero, List.set_cons_succ])) | (refine l_append ?_; first | (refine SXl.append 0 0 rfl rfl rfl rfl rfl rfl rfl rfl (by omega) (by omega) (fun a c => ?_); simp only [List.set_cons_zero, List.set_cons_succ]) | (refine SXl.append 1 0 rfl rfl rfl rfl rfl rfl rfl rfl (by omega) (by omega) (fun a c => ?_); simp only [List.set_cons_zero, List.set_cons_succ])) | ((refine qaG ?_; refine SXl.litRow (cells := [.int .i64 nu, .int .i64 nv, .int .i64 nd]) ?_ ?_ rfl (by decide) (by decide) (by kernel_rfl) (fun g => ?_); rfl; rfl)) | refine qar ?_)
    refine SQ.round3 (k + 1) (acc ++ [⟨nu, nv, nd⟩]) (_, _) (by exact hn) (by omega) ?_ (fun w hl => by rw [List.length_append, List.map_append, List.flatten_append]; exact hl.drop1.dropE)
    (repeat (first | exact subF_nil _ | (refine subF_cons rfl ?_) | (refine subF_consv rfl (by rfl) ?_)))
  · have hk' : k = ps.length := by omega
    subst hk'
    rw [hI.done] at hR
    simp only at hR
    have hT := fun R w h => tableOk_any acc aa ac R w (by omega) h
    have hX := fun R w h h' => ruleText_any acc aa ac R w (by omega) h h'
    cases hok : tableOk acc
    · have hb : readRules t = ([], false) := by rw [hR, hok]; rfl
      rw [hok] at hT
      repeat (first | refine qap ?_ | refine qak ?_ | refine qaf ?_ | refine qab ?_ | refine qao rfl ?_ | refine qas rfl ?_ | (refine SXl.no rfl rfl rfl ?_) | (refine qaA ?_; (refine qaa (qal rfl (fun w hl => hT _ _ (own_slice (hl.own _ (.head _)).1 (fun _ => rfl) (by decide)))) rfl ?_ ?_ ?_); rfl; rfl) | (refine qaF ?_; (refine qaa (qaq 0 rfl rfl rfl) rfl ?_ ?_ ?_); rfl; rfl) | (refine qau ?_; (refine qaa (qaj rfl) rfl ?_ ?_ ?_); rfl; rfl) | (refine qai ?_; (refine qaa (qae rfl) rfl ?_ ?_ ?_); rfl; rfl) | (refine qaO ?_; (refine qaa (qaz rfl rfl) rfl ?_ ?_ ?_); rfl; rfl) | (refine l_lss ?_; (refine qaa (OpW.lssF rfl rfl (by omega)) rfl ?_ ?_ ?_); rfl; rfl) | (refine l_not ?_; (refine qaa (OpW.not rfl) rfl ?_ ?_ ?_); rfl; rfl) | (refine qaR ?_; (refine qaa (qax rfl rfl rfl) rfl ?_ ?_ ?_); rfl; rfl) | (refine qaD ?_; first | ((first | refine qah 0 ?_ rfl rfl rfl rfl rfl rfl ?_ | refine qah 1 ?_ rfl rfl rfl rfl rfl rfl ?_ | refine qah 2 ?_ rfl rfl rfl rfl rfl rfl ?_); rfl; simp only [List.set_cons_zero, List.set_cons_succ]) | ((first | refine qad 0 ?_ rfl rfl rfl rfl rfl rfl rfl ?_ | refine qad 1 ?_ rfl rfl rfl rfl rfl rfl rfl ?_ | refine qad 2 ?_ rfl rfl rfl rfl rfl rfl rfl ?_); rfl; simp only [List.set_cons_zero, List.set_cons_succ]) | ((first | refine qac 0 ?_ rfl rfl rfl rfl rfl rfl rfl ?_ | refine qac 1 ?_ rfl rfl rfl rfl rfl rfl rfl ?_ | refine qac 2 ?_ rfl rfl rfl rfl rfl rfl rfl ?_); rfl; simp only [over, List.set_cons_zero, List.set_cons_succ])) | refine qav ?_ | refine SX.exit ?_ | refine qan ?_ | refine SQ.thenExit ?_ | refine SQ.blockExit ?_)
      refine qaL 1 rfl rfl rfl rfl rfl (fun w' hl => RR.nil hb hl.mod)
    rw [hok] at hT
    by_cases hrt : ruleTextOf acc = t
    · have hb : readRules t = (acc, true) := by rw [hR, hok, decide_eq_true hrt]; rfl
      repeat (first | refine qap ?_ | refine qak ?_ | refine qaf ?_ | refine qab ?_ | refine qaE ?_ | refine qas rfl ?_ | (refine qaA ?_; (first | refine qaa (qal rfl (fun w hl => hT _ _ (own_slice (hl.own _ (.head _)).1 (fun _ => rfl) (by decide)))) rfl ?_ ?_ ?_ | refine qaa (qal rfl (fun w hl => hX _ _ (own_slice (hl.own _ (.head _)).1 (fun _ => rfl) (by decide)) (htab.keep hl.mod))) rfl ?_ ?_ ?_); rfl; rfl) | (refine qaF ?_; (refine qaa (qaq 0 rfl rfl rfl) rfl ?_ ?_ ?_); rfl; rfl) | (refine qau ?_; (refine qaa (qaj rfl) rfl ?_ ?_ ?_); rfl; rfl) | (refine qai ?_; (refine qaa (qae rfl) rfl ?_ ?_ ?_); rfl; rfl) | (refine l_lss ?_; (refine qaa (OpW.lssF rfl rfl (by omega)) rfl ?_ ?_ ?_); rfl; rfl) | (refine l_neq ?_; (refine qaa (OpW.neqStrF rfl rfl (by first | assumption | with_reducible rfl | decide)) rfl ?_ ?_ ?_); rfl; rfl) | (refine l_not ?_; (refine qaa (OpW.not rfl) rfl ?_ ?_ ?_); rfl; rfl) | (refine qaR ?_; (refine qaa (qax rfl rfl rfl) rfl ?_ ?_ ?_); rfl; rfl) | (refine qaD ?_; first | ((first | refine qah 0 ?_ rfl rfl rfl rfl rfl rfl ?_ | refine qah 1 ?_ rfl rfl rfl rfl rfl rfl ?_ | refine qah 2 ?_ rfl rfl rfl rfl rfl rfl ?_); rfl; simp only [List.set_cons_zero, List.set_cons_succ]) | ((first | refine qad 0 ?_ rfl rfl rfl rfl rfl rfl rfl ?_ | refine qad 1 ?_ rfl rfl rfl rfl rfl rfl rfl ?_ | refine qad 2 ?_ rfl rfl rfl rfl rfl rfl rfl ?_); rfl; simp only [List.set_cons_zero, List.set_cons_succ]) | ((first | refine qac 0 ?_ rfl rfl rfl rfl rfl rfl rfl ?_ | refine qac 1 ?_ rfl rfl rfl rfl rfl rfl rfl ?_ | refine qac 2 ?_ rfl rfl rfl rfl rfl rfl rfl ?_); rfl; simp only [over, List.set_cons_zero, List.set_cons_succ])) | refine qav ?_ | refine SX.exit ?_ | refine SQ.thenExit ?_ | refine SQ.blockExit ?_)
      refine qaL 1 rfl rfl rfl rfl rfl (fun w' hl => RR.own hb (hl.own _ (.head _)).1 hl.mod)
    · have hb : readRules t = ([], false) := by rw [hR, hok, decide_eq_false hrt]; rfl
      repeat (first | refine qap ?_ | refine qak ?_ | refine qaf ?_ | refine qab ?_ | refine qao rfl ?_ | refine qas rfl ?_ | (refine qaA ?_; (first | refine qaa (qal rfl (fun w hl => hT _ _ (own_slice (hl.own _ (.head _)).1 (fun _ => rfl) (by decide)))) rfl ?_ ?_ ?_ | refine qaa (qal rfl (fun w hl => hX _ _ (own_slice (hl.own _ (.head _)).1 (fun _ => rfl) (by decide)) (htab.keep hl.mod))) rfl ?_ ?_ ?_); rfl; rfl) | (refine qaF ?_; (refine qaa (qaq 0 rfl rfl rfl) rfl ?_ ?_ ?_); rfl; rfl) | (refine qau ?_; (refine qaa (qaj rfl) rfl ?_ ?_ ?_); rfl; rfl) | (refine qai ?_; (refine qaa (qae rfl) rfl ?_ ?_ ?_); rfl; rfl) | (refine qaO ?_; (refine qaa (qaz rfl rfl) rfl ?_ ?_ ?_); rfl; rfl) | (refine l_lss ?_; (refine qaa (OpW.lssF rfl rfl (by omega)) rfl ?_ ?_ ?_); rfl; rfl) | (refine l_neq ?_; (refine qaa (OpW.neqStrT rfl rfl (by first | assumption | with_reducible rfl | decide)) rfl ?_ ?_ ?_); rfl; rfl) | (refine l_not ?_; (refine qaa (OpW.not rfl) rfl ?_ ?_ ?_); rfl; rfl) | (refine qaR ?_; (refine qaa (qax rfl rfl rfl) rfl ?_ ?_ ?_); rfl; rfl) | (refine qaD ?_; first | ((first | refine qah 0 ?_ rfl rfl rfl rfl rfl rfl ?_ | refine qah 1 ?_ rfl rfl rfl rfl rfl rfl ?_ | refine qah 2 ?_ rfl rfl rfl rfl rfl rfl ?_); rfl; simp only [List.set_cons_zero, List.set_cons_succ]) | ((first | refine qad 0 ?_ rfl rfl rfl rfl rfl rfl rfl ?_ | refine qad 1 ?_ rfl rfl rfl rfl rfl rfl rfl ?_ | refine qad 2 ?_ rfl rfl rfl rfl rfl rfl rfl ?_); rfl; simp only [List.set_cons_zero, List.set_cons_succ]) | ((first | refine qac 0 ?_ rfl rfl rfl rfl rfl rfl rfl ?_ | refine qac 1 ?_ rfl rfl rfl rfl rfl rfl rfl ?_ | refine qac 2 ?_ rfl rfl rfl rfl rfl rfl rfl ?_); rfl; simp only [over, List.set_cons_zero, List.set_cons_succ])) | refine qav ?_ | refine SX.exit ?_ | refine qan ?_ | refine SQ.thenExit ?_ | refine SQ.blockExit ?_)
      refine qaL 1 rfl rfl rfl rfl rfl (fun w' hl => RR.nil hb hl.mod)

set_option maxRecDepth 100000 in
set_option maxHeartbeats 8000000 in
theorem sreadRules_new (t : List UInt8) (ht : t.length ≤ 1048576) (w : World) : Calls Tryz.prog 18 #[.string ⟨t.toArray⟩] w (RR t w) := by
  refine calls_sx Tryz.func18 rfl rfl (fun a h1 h2 h3 => ((Fr.nil h1 h2).arg (h3 0 _ rfl))) ?_
  by_cases h45 : t = [45]
  · have hR : readRules t = ([], true) := by unfold readRules; rw [if_pos h45]
    repeat (first | refine qap ?_ | refine qak ?_ | refine qaf ?_ | refine qab ?_ | refine qao rfl ?_ | (refine qau ?_; (refine qaa (qaj rfl) rfl ?_ ?_ ?_); rfl; rfl) | (refine qai ?_; (refine qaa (qae rfl) rfl ?_ ?_ ?_); rfl; rfl) | (refine qaO ?_; (refine qaa (qaz rfl rfl) rfl ?_ ?_ ?_); rfl; rfl) | (refine qaK ?_; (refine qaa (qaB rfl rfl (by first | assumption | with_reducible rfl | decide)) rfl ?_ ?_ ?_); rfl; rfl) | (refine qaT ?_; refine SXl.alloc ?_ ?_ (fun g => ?_); rfl; rfl) | (refine qaD ?_; first | ((first | refine qah 0 ?_ rfl rfl rfl rfl rfl rfl ?_ | refine qah 1 ?_ rfl rfl rfl rfl rfl rfl ?_ | refine qah 2 ?_ rfl rfl rfl rfl rfl rfl ?_); rfl; simp only [List.set_cons_zero, List.set_cons_succ]) | ((first | refine qad 0 ?_ rfl rfl rfl rfl rfl rfl rfl ?_ | refine qad 1 ?_ rfl rfl rfl rfl rfl rfl rfl ?_ | refine qad 2 ?_ rfl rfl rfl rfl rfl rfl rfl ?_); rfl; simp only [List.set_cons_zero, List.set_cons_succ]) | ((first | refine qac 0 ?_ rfl rfl rfl rfl rfl rfl rfl ?_ | refine qac 1 ?_ rfl rfl rfl rfl rfl rfl rfl ?_ | refine qac 2 ?_ rfl rfl rfl rfl rfl rfl rfl ?_); rfl; simp only [over, List.set_cons_zero, List.set_cons_succ])) | refine qav ?_ | refine qan ?_)
    refine qaL 0 rfl rfl rfl rfl rfl (fun w' hl => RR.nil hR hl.mod)
  have hR := readRules_S h45
  repeat (first | refine qap ?_ | refine qak ?_ | refine qaf ?_ | refine qab ?_ | refine qaE ?_ | refine qas rfl ?_ | (refine qau ?_; (refine qaa (qaj rfl) rfl ?_ ?_ ?_); rfl; rfl) | (refine qai ?_; (refine qaa (qae rfl) rfl ?_ ?_ ?_); rfl; rfl) | (refine qaO ?_; (refine qaa (qaz rfl rfl) rfl ?_ ?_ ?_); rfl; rfl) | (refine qaK ?_; (refine qaa (qay rfl rfl (by first | assumption | with_reducible rfl | decide)) rfl ?_ ?_ ?_); rfl; rfl) | (refine qaT ?_; refine SXl.alloc ?_ ?_ (fun g => ?_); rfl; rfl) | (refine qaD ?_; first | ((first | refine qah 0 ?_ rfl rfl rfl rfl rfl rfl ?_ | refine qah 1 ?_ rfl rfl rfl rfl rfl rfl ?_ | refine qah 2 ?_ rfl rfl rfl rfl rfl rfl ?_); rfl; simp only [List.set_cons_zero, List.set_cons_succ]) | ((first | refine qad 0 ?_ rfl rfl rfl rfl rfl rfl rfl ?_ | refine qad 1 ?_ rfl rfl rfl rfl rfl rfl rfl ?_ | refine qad 2 ?_ rfl rfl rfl rfl rfl rfl rfl ?_); rfl; simp only [List.set_cons_zero, List.set_cons_succ]) | ((first | refine qac 0 ?_ rfl rfl rfl rfl rfl rfl rfl ?_ | refine qac 1 ?_ rfl rfl rfl rfl rfl rfl rfl ?_ | refine qac 2 ?_ rfl rfl rfl rfl rfl rfl rfl ?_); rfl; simp only [over, List.set_cons_zero, List.set_cons_succ])))
  rename_i g2
  revert g; intro g4
  refine qaA ?_
  refine SXl.calln1 (v := fun p : Nat × Nat => .slice (some ⟨p.1, 0, none⟩) (splitL 44 t).length p.2) (F1 := textsRes (splitL 44 t)) rfl rfl rfl (fun w hl => (l30Split_new t 44 ht _).mono fun _ _ h => rows_of (splitL_ne _ _) (fun _ => rfl) h) (fun p => ?_)
  have hpl := splitL_len 44 t
  have hps := splitL_short 44 t
  generalize splitL 44 t = ps at hR hpl hps
  repeat (first | refine qap ?_ | refine qak ?_ | refine qaf ?_ | refine qab ?_ | refine SX.block ?_ | (refine qai ?_; (refine qaa (qae rfl) rfl ?_ ?_ ?_); rfl; rfl))
  refine SX.ownNil 70 3 ?_
  refine SX.loop3 (fun (k : Nat) (acc : List Rule) (_ : Option Addr × Nat) => RdTo triS ps k acc) (fun k _ _ => ps.length - k) (fun _ acc q => [⟨g4, [.slice q.1 acc.length q.2], 26⟩, ⟨g2, [.slice none 0 0], 26⟩]) (fun _ acc q => [⟨.slice q.1 acc.length q.2, 70, 3, acc.length, (acc.map Rule.cells).flatten⟩]) (fun _ _ _ => [textsRes ps p]) (fun k acc q => [(0, .string ⟨t.toArray⟩), (2, .pointer (some ⟨g2, 0, none⟩)), (4, .pointer (some ⟨g4, 0, none⟩)), (5, .slice (some ⟨p.1, 0, none⟩) ps.length p.2), (6, .int .i64 k)]) 0 [] (none, 0) (RdTo.start _ _) ?_ (fun _ hl => hl) ?_
  · (repeat (first | exact subF_nil _ | (refine subF_cons rfl ?_) | (refine subF_consv rfl (by rfl) ?_)))
  rintro k acc ⟨aa, ac⟩ hI
  have hk := hI.le
  have hal := hI.len
  have hk6 := hI.six
  by_cases hlt : k < ps.length
  · obtain ⟨x, hx⟩ : ∃ x, ps[k]? = some x := ⟨_, List.getElem?_eq_getElem hlt⟩
    have hxl := hps x (List.mem_of_getElem? hx)
    have hcell := texts_at (p := p) hx
    repeat (first | refine qap ?_ | refine qak ?_ | refine qaf ?_ | refine qab ?_ | refine SX.block ?_ | refine qaE ?_ | refine qao rfl ?_ | (refine qaF ?_; (refine qaa (OpW.loadRes (F := textsRes ps p) (.head _) rfl hcell) rfl ?_ ?_ ?_); rfl; rfl) | (refine qau ?_; (refine qaa (qaj rfl) rfl ?_ ?_ ?_); rfl; rfl) | (refine l_len ?_; (refine qaa (OpW.len rfl) rfl ?_ ?_ ?_); rfl; rfl) | (refine l_lss ?_; (refine qaa (OpW.lssT rfl rfl (by omega)) rfl ?_ ?_ ?_); rfl; rfl) | (refine l_indexAddr ?_; (refine qaa (qaM (by omega) rfl rfl) rfl ?_ ?_ ?_); rfl; rfl))
    refine qaA ?_
    refine SXl.calln1 (v := fun p : Nat × Nat => .slice (some ⟨p.1, 0, none⟩) (splitL 58 x).length p.2) (F1 := textsRes (splitL 58 x)) rfl rfl rfl (fun w hl => (l30Split_new x 58 (by omega) _).mono fun _ _ h => rows_of (splitL_ne _ _) (fun _ => rfl) h) (fun q => ?_)
    by_cases h3 : (splitL 58 x).length = 3
    rotate_left
    · have hb : readRules t = ([], false) := by rw [hR, hI.bad hx (not3 h3).2]
      repeat (first | refine qap ?_ | refine qak ?_ | refine qaf ?_ | refine qab ?_ | refine qao rfl ?_ | (refine SXl.no rfl rfl rfl ?_) | (refine qau ?_; (refine qaa (qaj rfl) rfl ?_ ?_ ?_); rfl; rfl) | (refine qai ?_; (refine qaa (qae rfl) rfl ?_ ?_ ?_); rfl; rfl) | (refine l_len ?_; (refine qaa (OpW.len rfl) rfl ?_ ?_ ?_); rfl; rfl) | (refine qaO ?_; (refine qaa (qaz rfl rfl) rfl ?_ ?_ ?_); rfl; rfl) | (refine l_neq ?_; (refine qaa (OpW.neqT rfl rfl (by omega)) rfl ?_ ?_ ?_); rfl; rfl) | (refine qaR ?_; (refine qaa (qax rfl rfl rfl) rfl ?_ ?_ ?_); rfl; rfl) | (refine qaD ?_; first | ((first | refine qah 0 ?_ rfl rfl rfl rfl rfl rfl ?_ | refine qah 1 ?_ rfl rfl rfl rfl rfl rfl ?_ | refine qah 2 ?_ rfl rfl rfl rfl rfl rfl ?_); rfl; simp only [List.set_cons_zero, List.set_cons_succ]) | ((first | refine qad 0 ?_ rfl rfl rfl rfl rfl rfl rfl ?_ | refine qad 1 ?_ rfl rfl rfl rfl rfl rfl rfl ?_ | refine qad 2 ?_ rfl rfl rfl rfl rfl rfl rfl ?_); rfl; simp only [List.set_cons_zero, List.set_cons_succ]) | ((first | refine qac 0 ?_ rfl rfl rfl rfl rfl rfl rfl ?_ | refine qac 1 ?_ rfl rfl rfl rfl rfl rfl rfl ?_ | refine qac 2 ?_ rfl rfl rfl rfl rfl rfl rfl ?_); rfl; simp only [over, List.set_cons_zero, List.set_cons_succ])) | refine qav ?_ | refine qan ?_ | refine qaw ?_)
      refine qaL 1 rfl rfl rfl rfl rfl (fun w' hl => RR.nil hb hl.mod)
    by_cases h6 : 6 ≤ k
    · have hb : readRules t = ([], false) := by rw [hR, hI.full hx h6]
      repeat (first | refine qap ?_ | refine qak ?_ | refine qaf ?_ | refine qab ?_ | refine qao rfl ?_ | (refine qaF ?_; (refine qaa (qat 0 rfl rfl rfl) rfl ?_ ?_ ?_); rfl; rfl) | (refine qam ?_; (refine qaa (qag rfl) rfl ?_ ?_ ?_); rfl; rfl) | (refine qau ?_; (refine qaa (qaj rfl) rfl ?_ ?_ ?_); rfl; rfl) | (refine qai ?_; (refine qaa (qae rfl) rfl ?_ ?_ ?_); rfl; rfl) | (refine l_len ?_; (refine qaa (OpW.len rfl) rfl ?_ ?_ ?_); rfl; rfl) | (refine qaO ?_; (refine qaa (qaz rfl rfl) rfl ?_ ?_ ?_); rfl; rfl) | (refine l_geq ?_; (refine qaa (OpW.geqT rfl rfl (by omega)) rfl ?_ ?_ ?_); rfl; rfl) | (refine l_neq ?_; (refine qaa (OpW.neqF rfl rfl (by omega)) rfl ?_ ?_ ?_); rfl; rfl) | (refine qaR ?_; (refine qaa (qax rfl rfl rfl) rfl ?_ ?_ ?_); rfl; rfl) | (refine qaD ?_; first | ((first | refine qah 0 ?_ rfl rfl rfl rfl rfl rfl ?_ | refine qah 1 ?_ rfl rfl rfl rfl rfl rfl ?_ | refine qah 2 ?_ rfl rfl rfl rfl rfl rfl ?_); rfl; simp only [List.set_cons_zero, List.set_cons_succ]) | ((first | refine qad 0 ?_ rfl rfl rfl rfl rfl rfl rfl ?_ | refine qad 1 ?_ rfl rfl rfl rfl rfl rfl rfl ?_ | refine qad 2 ?_ rfl rfl rfl rfl rfl rfl rfl ?_); rfl; simp only [List.set_cons_zero, List.set_cons_succ]) | ((first | refine qac 0 ?_ rfl rfl rfl rfl rfl rfl rfl ?_ | refine qac 1 ?_ rfl rfl rfl rfl rfl rfl rfl ?_ | refine qac 2 ?_ rfl rfl rfl rfl rfl rfl rfl ?_); rfl; simp only [over, List.set_cons_zero, List.set_cons_succ])) | refine qav ?_ | refine qan ?_ | refine qaw ?_)
      refine qaL 1 rfl rfl rfl rfl rfl (fun w' hl => RR.nil hb hl.mod)
    obtain ⟨u, v, d, huvd⟩ := three h3
    have hsh := splitL_short 58 x
    have htri : triS x = some ⟨(readInt u).1, (readInt v).1, (readInt d).1⟩ := by unfold triS; rw [huvd]
    rw [huvd] at hsh ⊢
    have hu := fun w => sl26Read_any u (by have := hsh u (by simp); omega) w
    have hv := fun w => sl26Read_any v (by have := hsh v (by simp); omega) w
    have hd := fun w => sl26Read_any d (by have := hsh d (by simp); omega) w
    have cu := texts_at (p := q) (l := [u, v, d]) (i := 0) rfl
    have cv := texts_at (p := q) (l := [u, v, d]) (i := 1) rfl
    have cd := texts_at (p := q) (l := [u, v, d]) (i := 2) rfl
    rcases e0 : readInt u with ⟨nu, bu⟩
    rcases e1 : readInt v with ⟨nv, bv⟩
    rcases e2 : readInt d with ⟨nd, bd⟩
    rw [e0] at hu htri
    rw [e1] at hv htri
    rw [e2] at hd htri
    simp only at hu hv hd htri
    clear hcell hsh hxl h3 huvd
    have hn := hI.next (r := ⟨nu, nv, nd⟩) hx (by omega) htri
    repeat (first | refine qap ?_ | refine qak ?_ | refine qaf ?_ | refine qab ?_ | refine qaE ?_ | refine qas rfl ?_ | (refine qaF ?_; (first | refine qaa (OpW.loadRes (F := textsRes [u, v, d] q) (.head _) rfl cu) rfl ?_ ?_ ?_ | refine qaa (OpW.loadRes (F := textsRes [u, v, d] q) (.head _) rfl cv) rfl ?_ ?_ ?_ | refine qaa (OpW.loadRes (F := textsRes [u, v, d] q) (.head _) rfl cd) rfl ?_ ?_ ?_ | refine qaa (qat 0 rfl rfl rfl) rfl ?_ ?_ ?_); rfl; rfl) | (refine qaA ?_; (first | refine qaa (qal (args := [.string ⟨u.toArray⟩]) rfl (fun w hl => hu _)) rfl ?_ ?_ ?_ | refine qaa (qal (args := [.string ⟨v.toArray⟩]) rfl (fun w hl => hv _)) rfl ?_ ?_ ?_ | refine qaa (qal (args := [.string ⟨d.toArray⟩]) rfl (fun w hl => hd _)) rfl ?_ ?_ ?_); rfl; rfl) | (refine qam ?_; (refine qaa (qag rfl) rfl ?_ ?_ ?_); rfl; rfl) | (refine qau ?_; (refine qaa (qaj rfl) rfl ?_ ?_ ?_); rfl; rfl) | (refine qai ?_; (refine qaa (qae rfl) rfl ?_ ?_ ?_); rfl; rfl) | (refine l_len ?_; (refine qaa (OpW.len rfl) rfl ?_ ?_ ?_); rfl; rfl) | (refine qaO ?_; (refine qaa (qaz rfl rfl) rfl ?_ ?_ ?_); rfl; rfl) | (refine l_add ?_; (refine qaa (OpW.succ rfl rfl (by omega)) rfl ?_ ?_ ?_); rfl; rfl) | (refine l_geq ?_; (refine qaa (OpW.geqF rfl rfl (by omega)) rfl ?_ ?_ ?_); rfl; rfl) | (refine l_neq ?_; (refine qaa (OpW.neq rfl rfl) rfl ?_ ?_ ?_); rfl; rfl) | (refine qaR ?_; (refine qaa (qax rfl rfl rfl) rfl ?_ ?_ ?_); rfl; rfl) | (refine qaP ?_; (refine qaa (OpW.extract rfl rfl) rfl ?_ ?_ ?_); rfl; rfl) | (refine l_indexAddr ?_; (first | refine qaa (qaM (i := 0) (by first | omega | simp) rfl rfl) rfl ?_ ?_ ?_ | refine qaa (qaM (i := 1) (by first | omega | simp) rfl rfl) rfl ?_ ?_ ?_ | refine qaa (qaM (i := 2) (by first | omega | simp) rfl rfl) rfl ?_ ?_ ?_); rfl; rfl) | (refine qaD ?_; first | ((first | refine qah 0 ?_ rfl rfl rfl rfl rfl rfl ?_ | refine qah 1 ?_ rfl rfl rfl rfl rfl rfl ?_ | refine qah 2 ?_ rfl rfl rfl rfl rfl rfl ?_); rfl; simp only [List.set_cons_zero, List.set_cons_succ]) | ((first | refine qad 0 ?_ rfl rfl rfl rfl rfl rfl rfl ?_ | refine qad 1 ?_ rfl rfl rfl rfl rfl rfl rfl ?_ | refine qad 2 ?_ rfl rfl rfl rfl rfl rfl rfl ?_); rfl; simp only [List.set_cons_zero, List.set_cons_succ]) | ((first | refine qac 0 ?_ rfl rfl rfl rfl rfl rfl rfl ?_ | refine qac 1 ?_ rfl rfl rfl rfl rfl rfl rfl ?_ | refine qac 2 ?_ rfl rfl rfl rfl rfl rfl rfl ?_); rfl; simp only [over, List.set_cons_zero, List.set_cons_succ])) | (refine l_append ?_; first | (refine SXl.append 0 0 rfl rfl rfl rfl rfl rfl rfl rfl (by omega) (by omega) (fun a c => ?_); simp only [List.set_cons_zero, List.set_cons_succ]) | (refine SXl.append 1 0 rfl rfl rfl rfl rfl rfl rfl rfl (by omega) (by omega) (fun a c => ?_); simp only [List.set_cons_zero, List.set_cons_succ])) | ((refine qaG ?_; refine SXl.litRow (cells := [.int .i64 nu, .int .i64 nv, .int .i64 nd]) ?_ ?_ rfl (by decide) (by decide) (by kernel_rfl) (fun g => ?_); rfl; rfl)) | refine qar ?_)
    refine SQ.round3 (k + 1) (acc ++ [⟨nu, nv, nd⟩]) (_, _) (by exact hn) (by omega) ?_ (fun w hl => by rw [List.length_append, List.map_append, List.flatten_append]; exact hl.drop1.dropE)
    (repeat (first | exact subF_nil _ | (refine subF_cons rfl ?_) | (refine subF_consv rfl (by rfl) ?_)))
  · have hk' : k = ps.length := by omega
    subst hk'
    rw [hI.done] at hR
    simp only at hR
    have hX := fun R w h => sruleText_any acc aa ac R w (by omega) h
    by_cases hr0 : ruleTextOf acc = []
    · have hb : readRules t = ([], false) := by rw [hR, decide_eq_true hr0]; rfl
      repeat (first | refine qap ?_ | refine qak ?_ | refine qaf ?_ | refine qab ?_ | refine qao rfl ?_ | refine qas rfl ?_ | (refine SXl.no rfl rfl rfl ?_) | (refine qaA ?_; (refine qaa (qal rfl (fun w hl => hX _ _ (own_slice (hl.own _ (.head _)).1 (fun _ => rfl) (by decide)))) rfl ?_ ?_ ?_); rfl; rfl) | (refine qaF ?_; (refine qaa (qaq 0 rfl rfl rfl) rfl ?_ ?_ ?_); rfl; rfl) | (refine qau ?_; (refine qaa (qaj rfl) rfl ?_ ?_ ?_); rfl; rfl) | (refine qai ?_; (refine qaa (qae rfl) rfl ?_ ?_ ?_); rfl; rfl) | (refine l_len ?_; (refine qaa (OpW.len rfl) rfl ?_ ?_ ?_); rfl; rfl) | (refine qaO ?_; (refine qaa (qaz rfl rfl) rfl ?_ ?_ ?_); rfl; rfl) | (refine qaK ?_; (refine qaa (qaB rfl rfl (by first | assumption | with_reducible rfl | decide)) rfl ?_ ?_ ?_); rfl; rfl) | (refine l_lss ?_; (refine qaa (OpW.lssF rfl rfl (by omega)) rfl ?_ ?_ ?_); rfl; rfl) | (refine qaR ?_; (refine qaa (qax rfl rfl rfl) rfl ?_ ?_ ?_); rfl; rfl) | (refine qaD ?_; first | ((first | refine qah 0 ?_ rfl rfl rfl rfl rfl rfl ?_ | refine qah 1 ?_ rfl rfl rfl rfl rfl rfl ?_ | refine qah 2 ?_ rfl rfl rfl rfl rfl rfl ?_); rfl; simp only [List.set_cons_zero, List.set_cons_succ]) | ((first | refine qad 0 ?_ rfl rfl rfl rfl rfl rfl rfl ?_ | refine qad 1 ?_ rfl rfl rfl rfl rfl rfl rfl ?_ | refine qad 2 ?_ rfl rfl rfl rfl rfl rfl rfl ?_); rfl; simp only [List.set_cons_zero, List.set_cons_succ]) | ((first | refine qac 0 ?_ rfl rfl rfl rfl rfl rfl rfl ?_ | refine qac 1 ?_ rfl rfl rfl rfl rfl rfl rfl ?_ | refine qac 2 ?_ rfl rfl rfl rfl rfl rfl rfl ?_); rfl; simp only [over, List.set_cons_zero, List.set_cons_succ])) | refine qav ?_ | refine SX.exit ?_ | refine qan ?_ | refine SQ.thenExit ?_ | refine SQ.blockExit ?_)
      refine qaL 1 rfl rfl rfl rfl rfl (fun w' hl => RR.nil hb hl.mod)
    by_cases hrt : ruleTextOf acc = t
    · have hb : readRules t = (acc, true) := by rw [hR, decide_eq_false hr0, decide_eq_true hrt]; rfl
      repeat (first | refine qap ?_ | refine qak ?_ | refine qaf ?_ | refine qab ?_ | refine qaE ?_ | refine qas rfl ?_ | (refine qaA ?_; (refine qaa (qal rfl (fun w hl => hX _ _ (own_slice (hl.own _ (.head _)).1 (fun _ => rfl) (by decide)))) rfl ?_ ?_ ?_); rfl; rfl) | (refine qaF ?_; (refine qaa (qaq 0 rfl rfl rfl) rfl ?_ ?_ ?_); rfl; rfl) | (refine qau ?_; (refine qaa (qaj rfl) rfl ?_ ?_ ?_); rfl; rfl) | (refine qai ?_; (refine qaa (qae rfl) rfl ?_ ?_ ?_); rfl; rfl) | (refine l_len ?_; (refine qaa (OpW.len rfl) rfl ?_ ?_ ?_); rfl; rfl) | (refine qaK ?_; (refine qaa (qay rfl rfl (by first | assumption | with_reducible rfl | decide)) rfl ?_ ?_ ?_); rfl; rfl) | (refine l_lss ?_; (refine qaa (OpW.lssF rfl rfl (by omega)) rfl ?_ ?_ ?_); rfl; rfl) | (refine l_neq ?_; (refine qaa (OpW.neqStrF rfl rfl (by first | assumption | with_reducible rfl | decide)) rfl ?_ ?_ ?_); rfl; rfl) | (refine qaR ?_; (refine qaa (qax rfl rfl rfl) rfl ?_ ?_ ?_); rfl; rfl) | (refine qaD ?_; first | ((first | refine qah 0 ?_ rfl rfl rfl rfl rfl rfl ?_ | refine qah 1 ?_ rfl rfl rfl rfl rfl rfl ?_ | refine qah 2 ?_ rfl rfl rfl rfl rfl rfl ?_); rfl; simp only [List.set_cons_zero, List.set_cons_succ]) | ((first | refine qad 0 ?_ rfl rfl rfl rfl rfl rfl rfl ?_ | refine qad 1 ?_ rfl rfl rfl rfl rfl rfl rfl ?_ | refine qad 2 ?_ rfl rfl rfl rfl rfl rfl rfl ?_); rfl; simp only [List.set_cons_zero, List.set_cons_succ]) | ((first | refine qac 0 ?_ rfl rfl rfl rfl rfl rfl rfl ?_ | refine qac 1 ?_ rfl rfl rfl rfl rfl rfl rfl ?_ | refine qac 2 ?_ rfl rfl rfl rfl rfl rfl rfl ?_); rfl; simp only [over, List.set_cons_zero, List.set_cons_succ])) | refine qav ?_ | refine SX.exit ?_ | refine SQ.thenExit ?_ | refine SQ.blockExit ?_)
      refine qaL 1 rfl rfl rfl rfl rfl (fun w' hl => RR.own hb (hl.own _ (.head _)).1 hl.mod)
    · have hb : readRules t = ([], false) := by rw [hR, decide_eq_false hr0, decide_eq_false hrt]; rfl
      repeat (first | refine qap ?_ | refine qak ?_ | refine qaf ?_ | refine qab ?_ | refine qao rfl ?_ | refine qas rfl ?_ | (refine qaA ?_; (refine qaa (qal rfl (fun w hl => hX _ _ (own_slice (hl.own _ (.head _)).1 (fun _ => rfl) (by decide)))) rfl ?_ ?_ ?_); rfl; rfl) | (refine qaF ?_; (refine qaa (qaq 0 rfl rfl rfl) rfl ?_ ?_ ?_); rfl; rfl) | (refine qau ?_; (refine qaa (qaj rfl) rfl ?_ ?_ ?_); rfl; rfl) | (refine qai ?_; (refine qaa (qae rfl) rfl ?_ ?_ ?_); rfl; rfl) | (refine l_len ?_; (refine qaa (OpW.len rfl) rfl ?_ ?_ ?_); rfl; rfl) | (refine qaO ?_; (refine qaa (qaz rfl rfl) rfl ?_ ?_ ?_); rfl; rfl) | (refine qaK ?_; (refine qaa (qay rfl rfl (by first | assumption | with_reducible rfl | decide)) rfl ?_ ?_ ?_); rfl; rfl) | (refine l_lss ?_; (refine qaa (OpW.lssF rfl rfl (by omega)) rfl ?_ ?_ ?_); rfl; rfl) | (refine l_neq ?_; (refine qaa (OpW.neqStrT rfl rfl (by first | assumption | with_reducible rfl | decide)) rfl ?_ ?_ ?_); rfl; rfl) | (refine qaR ?_; (refine qaa (qax rfl rfl rfl) rfl ?_ ?_ ?_); rfl; rfl) | (refine qaD ?_; first | ((first | refine qah 0 ?_ rfl rfl rfl rfl rfl rfl ?_ | refine qah 1 ?_ rfl rfl rfl rfl rfl rfl ?_ | refine qah 2 ?_ rfl rfl rfl rfl rfl rfl ?_); rfl; simp only [List.set_cons_zero, List.set_cons_succ]) | ((first | refine qad 0 ?_ rfl rfl rfl rfl rfl rfl rfl ?_ | refine qad 1 ?_ rfl rfl rfl rfl rfl rfl rfl ?_ | refine qad 2 ?_ rfl rfl rfl rfl rfl rfl rfl ?_); rfl; simp only [List.set_cons_zero, List.set_cons_succ]) | ((first | refine qac 0 ?_ rfl rfl rfl rfl rfl rfl rfl ?_ | refine qac 1 ?_ rfl rfl rfl rfl rfl rfl rfl ?_ | refine qac 2 ?_ rfl rfl rfl rfl rfl rfl rfl ?_); rfl; simp only [over, List.set_cons_zero, List.set_cons_succ])) | refine qav ?_ | refine SX.exit ?_ | refine qan ?_ | refine SQ.thenExit ?_ | refine SQ.blockExit ?_)
      refine qaL 1 rfl rfl rfl rfl rfl (fun w' hl => RR.nil hb hl.mod)

end Go.Proofs.YtkkjjhooamlljaaGreatDoor
namespace Go.Proofs.YtkkjjhooamlljaaGreatDoor
open Go.RowKit
set_option linter.unusedVariables false
set_option linter.unusedSimpArgs false

set_option maxRecDepth 100000 in
set_option maxHeartbeats 4000000 in
theorem numbersFit3 (p q r : Int) (g : Nat) (w : World) (hb : w.heap[g]? = some (.cells [.int .i64 p, .int .i64 q, .int .i64 r].toArray 3 (0, 0))) : Calls Tryz.prog 38 #[.slice (some ⟨g, 0, none⟩) 3 3] w fun e w' => e = .returned (.bool (fitN p && fitN q && fitN r)) ∧ Mod (fun _ => False) w w' := by
  refine calls_sx Tryz.func38 rfl rfl (fun a h1 h2 h3 => ((Fr.nil h1 h2).arg (h3 0 _ rfl))) ?_
  have hc : ∀ (i : Nat) (v : Int), [p, q, r][i]? = some v → w.cell? ⟨g, 0 + i, none⟩ = some (.int .i64 v) := fun i v hv => by
    rw [Nat.zero_add]
    have := blk_cell (j := i) (v := .int .i64 v) hb (by
      match i, hv with
      | 0, hv => cases hv; rfl
      | 1, hv => cases hv; rfl
      | 2, hv => cases hv; rfl
      | i + 3, hv => simp at hv)
    exact this
  clear hb
  repeat (first | refine qap ?_ | refine qak ?_ | refine qaf ?_ | refine qab ?_ | refine SX.block ?_ | (refine qau ?_; (refine qaa (qaj rfl) rfl ?_ ?_ ?_); rfl; rfl) | (refine qai ?_; (refine qaa (qae rfl) rfl ?_ ?_ ?_); rfl; rfl) | (refine l_len ?_; (refine qaa (OpW.len rfl) rfl ?_ ?_ ?_); rfl; rfl))
  refine SX.loopi (fun (k : Nat) => k ≤ 3 ∧ ([p, q, r].take k).all fitN = true) (fun k => 3 - k) (fun _ => []) (fun _ => []) (fun _ => []) (fun k => [(5, .slice (some ⟨g, 0, none⟩) 3 3), (6, .int .i64 3), (7, .int .i64 k)]) 0 ⟨by omega, rfl⟩ ?_ (fun _ hl => hl) ?_
  · (repeat (first | exact subF_nil _ | (refine subF_cons rfl ?_) | (refine subF_consv rfl (by rfl) ?_)))
  rintro k ⟨hk, hall⟩
  by_cases hlt : k < 3
  · obtain ⟨v, hv⟩ : ∃ v, [p, q, r][k]? = some v := ⟨_, List.getElem?_eq_getElem hlt⟩
    have hcell := hc k v hv
    have hin : fitN v = inB v 0 1000000000 := rfl
    have hs : ([p, q, r].take (k + 1)).all fitN = (([p, q, r].take k).all fitN && fitN v) := by rw [List.take_add_one, hv, List.all_append]; simp
    cases hf : fitN v
    · have e : (fitN p && fitN q && fitN r) = false := by
        rw [Bool.eq_false_iff]
        intro h
        simp only [Bool.and_eq_true] at h
        have hmem := List.mem_of_getElem? hv
        simp only [List.mem_cons, List.not_mem_nil, or_false] at hmem
        rcases hmem with rfl | rfl | rfl
        · rw [h.1.1] at hf; cases hf
        · rw [h.1.2] at hf; cases hf
        · rw [h.2] at hf; cases hf
      rw [e]
      rw [hf] at hin
      repeat (first | refine qap ?_ | refine qak ?_ | refine qaf ?_ | refine qab ?_ | refine SX.block ?_ | refine qaE ?_ | refine qao rfl ?_ | (refine qaA ?_; (refine qaa (OpW.calls rfl (fun w _ => in_any _ _ _ _)) rfl ?_ ?_ ?_); rfl; rfl) | (refine qaF ?_; (refine qaa (OpW.loadOld rfl (by assumption) (fun h => h)) rfl ?_ ?_ ?_); rfl; rfl) | (refine qau ?_; (refine qaa (qaj rfl) rfl ?_ ?_ ?_); rfl; rfl) | (refine qai ?_; (refine qaa (qae rfl) rfl ?_ ?_ ?_); rfl; rfl) | (refine l_lss ?_; (refine qaa (OpW.lssT rfl rfl (by omega)) rfl ?_ ?_ ?_); rfl; rfl) | (refine l_not ?_; (refine qaa (OpW.not rfl) rfl ?_ ?_ ?_); rfl; rfl) | (refine l_indexAddr ?_; (refine qaa (qaM (by omega) rfl rfl) rfl ?_ ?_ ?_); rfl; rfl) | (rw [← hin]) | refine qav ?_ | refine qan ?_ | refine qaw ?_)
      refine qaC rfl rfl (fun w' hl => ⟨rfl, hl.mod⟩)
    · rw [hf] at hin
      repeat (first | refine qap ?_ | refine qak ?_ | refine qaf ?_ | refine qab ?_ | refine SX.block ?_ | refine qaE ?_ | refine qao rfl ?_ | refine qas rfl ?_ | (refine qaA ?_; (refine qaa (OpW.calls rfl (fun w _ => in_any _ _ _ _)) rfl ?_ ?_ ?_); rfl; rfl) | (refine qaF ?_; (refine qaa (OpW.loadOld rfl (by assumption) (fun h => h)) rfl ?_ ?_ ?_); rfl; rfl) | (refine qau ?_; (refine qaa (qaj rfl) rfl ?_ ?_ ?_); rfl; rfl) | (refine qai ?_; (refine qaa (qae rfl) rfl ?_ ?_ ?_); rfl; rfl) | (refine l_add ?_; (refine qaa (OpW.succ rfl rfl (by omega)) rfl ?_ ?_ ?_); rfl; rfl) | (refine l_lss ?_; (refine qaa (OpW.lssT rfl rfl (by omega)) rfl ?_ ?_ ?_); rfl; rfl) | (refine l_not ?_; (refine qaa (OpW.not rfl) rfl ?_ ?_ ?_); rfl; rfl) | (refine l_indexAddr ?_; (refine qaa (qaM (by omega) rfl rfl) rfl ?_ ?_ ?_); rfl; rfl) | (rw [← hin]) | refine qar ?_)
      refine SQ.roundi (k + 1) ⟨by omega, by rw [hs, hall, hf]; rfl⟩ (by omega) ?_ (fun _ hl => hl)
      (repeat (first | exact subF_nil _ | (refine subF_cons rfl ?_) | (refine subF_consv rfl (by rfl) ?_)))
  · have hk' : k = 3 := by omega
    subst hk'
    have e : (fitN p && fitN q && fitN r) = true := by simpa [Bool.and_assoc] using hall
    rw [e]
    repeat (first | refine qap ?_ | refine qak ?_ | refine qaf ?_ | refine qab ?_ | refine qas rfl ?_ | (refine qai ?_; (refine qaa (qae rfl) rfl ?_ ?_ ?_); rfl; rfl) | (refine l_lss ?_; (refine qaa (OpW.lssF rfl rfl (by omega)) rfl ?_ ?_ ?_); rfl; rfl) | refine qav ?_ | refine SX.exit ?_ | refine SQ.thenExit ?_ | refine SQ.blockExit ?_)
    refine qaC rfl rfl (fun w' hl => ⟨rfl, hl.mod⟩)
theorem sizeWord_any (n : Int) (hb : I64 n) (w : World) (ht : Tab w) : Calls Tryz.prog 45 #[.int .i64 n] w fun e w' => e = .returned (.string ⟨(sizeW n).toArray⟩) ∧ Mod (fun _ => False) w w' := by
  refine calls_sx Tryz.func45 rfl rfl (fun a h1 h2 h3 => ((Fr.nil h1 h2).arg (h3 0 _ rfl))) ?_
  have hd := fun w h => decimal_any n hb w h
  unfold sizeW
  by_cases h : n = -1
  · rw [if_pos h]
    repeat (first | refine qap ?_ | refine qak ?_ | refine qaf ?_ | refine qab ?_ | refine qao rfl ?_ | (refine qau ?_; (refine qaa (qaj rfl) rfl ?_ ?_ ?_); rfl; rfl) | (refine qai ?_; (refine qaa (qae rfl) rfl ?_ ?_ ?_); rfl; rfl) | (refine qaK ?_; (refine qaa (qaI rfl rfl (by omega)) rfl ?_ ?_ ?_); rfl; rfl) | refine qav ?_ | refine qan ?_)
    refine qaC rfl rfl (fun w' hl => ⟨rfl, hl.mod⟩)
  · rw [if_neg h]
    repeat (first | refine qap ?_ | refine qak ?_ | refine qaf ?_ | refine qab ?_ | refine qaE ?_ | refine qas rfl ?_ | (refine qaA ?_; (refine qaa (qal rfl (fun w hl => hd _ (ht.keep hl.mod))) rfl ?_ ?_ ?_); rfl; rfl) | (refine qau ?_; (refine qaa (qaj rfl) rfl ?_ ?_ ?_); rfl; rfl) | (refine qai ?_; (refine qaa (qae rfl) rfl ?_ ?_ ?_); rfl; rfl) | (refine qaK ?_; (refine qaa (qaH rfl rfl (by omega)) rfl ?_ ?_ ?_); rfl; rfl) | refine qav ?_)
    refine qaC rfl rfl (fun w' hl => ⟨rfl, hl.mod⟩)
theorem dirWord_any' (b : Bool) (w : World) : Calls Tryz.prog 46 #[.bool b] w fun e w' => e = .returned (.string ⟨(dirW b).toArray⟩) ∧ Mod (fun _ => False) w w' := by
  refine calls_sx Tryz.func46 rfl rfl (fun a h1 h2 h3 => ((Fr.nil h1 h2).arg (h3 0 _ rfl))) ?_
  cases b
  · repeat (first | refine qap ?_ | refine qak ?_ | refine qaf ?_ | refine qab ?_ | refine qaE ?_ | refine qas rfl ?_ | (refine qau ?_; (refine qaa (qaj rfl) rfl ?_ ?_ ?_); rfl; rfl) | (refine qai ?_; (refine qaa (qae rfl) rfl ?_ ?_ ?_); rfl; rfl) | refine qav ?_)
    refine qaC rfl rfl (fun w' hl => ⟨rfl, hl.mod⟩)
  · repeat (first | refine qap ?_ | refine qak ?_ | refine qaf ?_ | refine qab ?_ | refine qao rfl ?_ | (refine qau ?_; (refine qaa (qaj rfl) rfl ?_ ?_ ?_); rfl; rfl) | (refine qai ?_; (refine qaa (qae rfl) rfl ?_ ?_ ?_); rfl; rfl) | refine qav ?_ | refine qan ?_)
    refine qaC rfl rfl (fun w' hl => ⟨rfl, hl.mod⟩)
instance tfunJoin : TFun Tryz.prog 30 := ⟨Tryz.f30, by kernel_rfl, by kernel_rfl, by kernel_rfl⟩
theorem slice0 {R : Nat → Prop} {w : World} : SliceAt (Flat Rule.cells) 3 R w none ([] : List Rule) := SliceAt.nil
/-- The keys' texts, as a value. -/
def KeysV (w : World) (v : Value) : Prop := ∃ (a : Option Addr) (c : Nat) (R : Nat → Prop), v = .slice a keyTexts.length c ∧ TextSlice R w a keyTexts
theorem KeysV.keep {w w' : World} {v : Value} (h : KeysV w v) (hm : Mod (fun _ => False) w w') : KeysV w' v := by
  obtain ⟨a, c, R, h1, h2⟩ := h
  exact ⟨a, c, R, h1, h2.flatKeep hm⟩
theorem keyNames_v (w : World) (hz : Num0 w) : Calls Tryz.prog 42 #[] w fun e w' => ∃ v, e = .returned v ∧ KeysV w' v ∧ Mod (fun _ => False) w w' :=
  (keyNames_any w hz).mono fun e w' ⟨a, c, he, ho, hm⟩ => ⟨_, he, ⟨a, c, _, rfl, own_slice ho (fun _ => rfl) (by decide)⟩, hm⟩
theorem join_lit (l : List (List UInt8)) {g : Nat} {W : World} {L : List Blk} {O : List Own} {E : List Res} {w : World} (hl : Loc W (Rg.none W) (⟨g, (l.map tcell).flatten, 9⟩ :: L) O E w) (hn : l.length ≤ 100) (hj : (Lib.join l [32]).length ≤ 1000000) :
    Calls Tryz.prog 30 #[.slice (some ⟨g, 0, none⟩) l.length l.length, .string ⟨#[32]⟩] w fun e w' => e = .returned (.string ⟨(Lib.join l [32]).toArray⟩) ∧ Mod (fun _ => False) w w' := by
  have hfl := flat_length (cells := tcell) (sz := 1) (fun _ => rfl) l
  have ho := (hl.toOwn (sz := 1) (m := l.length) (fun h => h) (by rw [hfl]) (by unfold maxLen; omega)).own _ (.head _)
  exact join_own [32] ho.1 rfl (by omega) (by omega)

set_option maxRecDepth 100000 in
set_option maxHeartbeats 16000000 in
theorem actLine_any (x : ActL) (a : Option Addr) (c : Nat) (R : Nat → Prop) (w : World) (hl0 : x.rules.length ≤ 1048576) (h : SliceAt (Flat Rule.cells) 3 R w a x.rules) (hz : Num0 w) (ht : Tab w) :
    Calls Tryz.prog 12 #[.agg (x.row a c).toArray] w fun e w' => e = .returned (.string ⟨(actLine x).toArray⟩) ∧ Mod (fun _ => False) w w' := by
  refine calls_sx Tryz.func12 rfl rfl (fun a h1 h2 h3 => ((Fr.nil h1 h2).arg (h3 0 _ rfl))) ?_
  have hO := fun w => actOkL x a c w
  have hN := fun g w h => numbersFit3 x.n x.kid x.pl g w h
  rw [show (fitN x.n && fitN x.kid && fitN x.pl) = fitA x from rfl] at hN
  cases ho : okA x
  · rw [ho] at hO
    rw [actLine_1 ho]
    repeat (first | refine qap ?_ | refine qak ?_ | refine qaf ?_ | refine qab ?_ | refine qao rfl ?_ | (refine SXl.no rfl rfl rfl ?_) | (refine qaA ?_; (refine qaa (qal rfl (fun w hl => hO _)) rfl ?_ ?_ ?_); rfl; rfl) | (refine qaF ?_; (refine qaa (qaq 0 rfl rfl rfl) rfl ?_ ?_ ?_); rfl; rfl) | (refine qau ?_; (refine qaa (qaj rfl) rfl ?_ ?_ ?_); rfl; rfl) | (refine qai ?_; (refine qaa (qae rfl) rfl ?_ ?_ ?_); rfl; rfl) | (refine l_not ?_; (refine qaa (OpW.not rfl) rfl ?_ ?_ ?_); rfl; rfl) | (refine qaR ?_; (refine qaa (qax rfl rfl rfl) rfl ?_ ?_ ?_); rfl; rfl) | (refine l_box ?_; refine qaV ?_ ?_ rfl rfl (fun g => ?_); rfl; rfl) | refine qav ?_ | refine qan ?_)
    refine qaC rfl rfl (fun w' hl => ⟨rfl, hl.mod⟩)
  rw [ho] at hO
  cases hft : fitA x
  · rw [hft] at hN
    rw [actLine_2 hft]
    repeat (first | refine qap ?_ | refine qak ?_ | refine qaf ?_ | refine qab ?_ | refine qao rfl ?_ | (refine SXl.no rfl rfl rfl ?_) | (refine qaA ?_; (first | refine qaa (qal rfl (fun w hl => hO _)) rfl ?_ ?_ ?_ | refine qaa (qal rfl (fun w hl => hN _ _ (hl.blk _ (.head _)).2)) rfl ?_ ?_ ?_); rfl; rfl) | (refine qaF ?_; (first | refine qaa (qat 0 rfl rfl rfl) rfl ?_ ?_ ?_ | refine qaa (qaq 0 rfl rfl rfl) rfl ?_ ?_ ?_); rfl; rfl) | (refine qam ?_; (refine qaa (qag rfl) rfl ?_ ?_ ?_); rfl; rfl) | (refine qau ?_; (refine qaa (qaj rfl) rfl ?_ ?_ ?_); rfl; rfl) | (refine qai ?_; (refine qaa (qae rfl) rfl ?_ ?_ ?_); rfl; rfl) | (refine l_not ?_; (refine qaa (OpW.not rfl) rfl ?_ ?_ ?_); rfl; rfl) | (refine qaR ?_; (refine qaa (qax rfl rfl rfl) rfl ?_ ?_ ?_); rfl; rfl) | (refine l_box ?_; refine qaV ?_ ?_ rfl rfl (fun g => ?_); rfl; rfl) | ((refine qaG ?_; refine SXl.lit (cells := [.int .i64 x.n, .int .i64 x.kid, .int .i64 x.pl]) (z := .int .i64 0) ?_ ?_ rfl (by decide) (by kernel_rfl) rfl (fun g => ?_); rfl; rfl)) | refine qav ?_ | refine qan ?_)
    refine qaC rfl rfl (fun w' hl => ⟨rfl, hl.mod⟩)
  rw [hft] at hN
  cases hw : inB x.wide (-1) 1000000000
  · rw [actLine_3 hw]
    repeat (first | refine qap ?_ | refine qak ?_ | refine qaf ?_ | refine qab ?_ | refine qao rfl ?_ | (refine SXl.no rfl rfl rfl ?_) | (refine qaA ?_; (first | refine qaa (qal rfl (fun w hl => hO _)) rfl ?_ ?_ ?_ | refine qaa (qal rfl (fun w hl => hN _ _ (hl.blk _ (.head _)).2)) rfl ?_ ?_ ?_ | refine qaa (OpW.calls rfl (fun w _ => in_any _ _ _ _)) rfl ?_ ?_ ?_); rfl; rfl) | (refine qaF ?_; (first | refine qaa (qat 0 rfl rfl rfl) rfl ?_ ?_ ?_ | refine qaa (qat 1 rfl rfl rfl) rfl ?_ ?_ ?_ | refine qaa (qaq 0 rfl rfl rfl) rfl ?_ ?_ ?_); rfl; rfl) | (refine qam ?_; (refine qaa (qag rfl) rfl ?_ ?_ ?_); rfl; rfl) | (refine qau ?_; (refine qaa (qaj rfl) rfl ?_ ?_ ?_); rfl; rfl) | (refine qai ?_; (refine qaa (qae rfl) rfl ?_ ?_ ?_); rfl; rfl) | (refine l_not ?_; (refine qaa (OpW.not rfl) rfl ?_ ?_ ?_); rfl; rfl) | (refine qaR ?_; (refine qaa (qax rfl rfl rfl) rfl ?_ ?_ ?_); rfl; rfl) | (refine l_box ?_; refine qaV ?_ ?_ rfl rfl (fun g => ?_); rfl; rfl) | ((refine qaG ?_; refine SXl.lit (cells := [.int .i64 x.n, .int .i64 x.kid, .int .i64 x.pl]) (z := .int .i64 0) ?_ ?_ rfl (by decide) (by kernel_rfl) rfl (fun g => ?_); rfl; rfl)) | (rw [hw]) | refine qav ?_ | refine qan ?_)
    refine qaC rfl rfl (fun w' hl => ⟨rfl, hl.mod⟩)
  cases hh : inB x.high (-1) 1000000000
  · rw [actLine_4 hh]
    repeat (first | refine qap ?_ | refine qak ?_ | refine qaf ?_ | refine qab ?_ | refine qao rfl ?_ | (refine qaA ?_; (first | refine qaa (qal rfl (fun w hl => hO _)) rfl ?_ ?_ ?_ | refine qaa (qal rfl (fun w hl => hN _ _ (hl.blk _ (.head _)).2)) rfl ?_ ?_ ?_ | refine qaa (OpW.calls rfl (fun w _ => in_any _ _ _ _)) rfl ?_ ?_ ?_); rfl; rfl) | (refine qaF ?_; (first | refine qaa (qat 0 rfl rfl rfl) rfl ?_ ?_ ?_ | refine qaa (qat 1 rfl rfl rfl) rfl ?_ ?_ ?_ | refine qaa (qaq 0 rfl rfl rfl) rfl ?_ ?_ ?_); rfl; rfl) | (refine qam ?_; (refine qaa (qag rfl) rfl ?_ ?_ ?_); rfl; rfl) | (refine qau ?_; (refine qaa (qaj rfl) rfl ?_ ?_ ?_); rfl; rfl) | (refine qai ?_; (refine qaa (qae rfl) rfl ?_ ?_ ?_); rfl; rfl) | (refine l_not ?_; (refine qaa (OpW.not rfl) rfl ?_ ?_ ?_); rfl; rfl) | (refine qaR ?_; (refine qaa (qax rfl rfl rfl) rfl ?_ ?_ ?_); rfl; rfl) | (refine l_box ?_; refine qaV ?_ ?_ rfl rfl (fun g => ?_); rfl; rfl) | ((refine qaG ?_; refine SXl.lit (cells := [.int .i64 x.n, .int .i64 x.kid, .int .i64 x.pl]) (z := .int .i64 0) ?_ ?_ rfl (by decide) (by kernel_rfl) rfl (fun g => ?_); rfl; rfl)) | (rw [hw]) | (rw [hh]) | refine qav ?_ | refine qan ?_)
    refine qaC rfl rfl (fun w' hl => ⟨rfl, hl.mod⟩)
  obtain ⟨hr8, hkinds⟩ := okA_kinds ho
  obtain ⟨bn, bk, bp⟩ := fitA_b hft
  have bw := inB_b hw
  have bh := inB_b hh
  have dn := fun w h => decimal_any x.n ⟨by omega, by omega⟩ w h
  have dk := fun w h => decimal_any x.kid ⟨by omega, by omega⟩ w h
  have dp := fun w h => decimal_any x.pl ⟨by omega, by omega⟩ w h
  have ln := Lib.itoa_length_le x.n (by omega) (by omega)
  have lk := Lib.itoa_length_le x.kid (by omega) (by omega)
  have lp := Lib.itoa_length_le x.pl (by omega) (by omega)
  have hS := fun (y : ActL) (b : Option Addr) (d : Nat) (S : Nat → Prop) (w' : World) (hm : Mod (fun _ => False) w w') (hy : y.rules.length ≤ 1048576) (h' : SliceAt (Flat Rule.cells) 3 S w' b y.rules) => sameAct_any x y a b c d R S w' hl0 hy (h.flatKeep hm) h'
  rcases hkinds with hk | hk | hk | hk | hk | hk | hk
  · have hy : onlyA x = ⟨x.kind, 0, 0, 0, [], ⟨0, 0⟩, [], 0, 0, false⟩ := by simp [onlyA, hk]
    have hp : actParts x = [[97, 100, 100]] := by simp [actParts, hk]
    have hE := fun w' (hm : Mod (fun _ => False) w w') => hS ⟨x.kind, 0, 0, 0, [], ⟨0, 0⟩, [], 0, 0, false⟩ none 0 (fun _ => False) _ hm (by simp) slice0
    have hT : toldA x = true := by simp [toldA, hk]
    by_cases hx : x = ⟨x.kind, 0, 0, 0, [], ⟨0, 0⟩, [], 0, 0, false⟩
    · rw [actLine_y ho hft hw hh hT (hx.trans hy.symm), hp]
      simp only [decide_eq_true hx] at hE
      repeat (first | refine qap ?_ | refine qak ?_ | refine qaf ?_ | refine qab ?_ | refine SX.block ?_ | refine qaE ?_ | refine qao rfl ?_ | refine qas rfl ?_ | (refine qaA ?_; (first | refine qaa (qal rfl (fun w hl => hO _)) rfl ?_ ?_ ?_ | refine qaa (qal rfl (fun w hl => hN _ _ (hl.blk _ (.head _)).2)) rfl ?_ ?_ ?_ | refine qaa (qal rfl (fun w hl => dn _ (ht.keep hl.mod))) rfl ?_ ?_ ?_ | refine qaa (qal rfl (fun w hl => hE _ hl.mod)) rfl ?_ ?_ ?_ | refine qaa (qal rfl (fun w hl => join_lit [[97, 100, 100]] hl (by simp) (by simp only [Lib.join_cons, Lib.joinTail, List.map_cons, List.map_nil, List.flatten_cons, List.flatten_nil, List.length_append, List.length_cons, List.length_nil]; omega))) rfl ?_ ?_ ?_ | refine qaa (OpW.calls rfl (fun w _ => in_any _ _ _ _)) rfl ?_ ?_ ?_); rfl; rfl) | (refine qaO ?_; (refine qaa ((qaz (vals := [(0, .int .i64 x.kind)]) (cells := [.int .i64 x.kind, .int .i64 0, .int .i64 0, .int .i64 0, .string ⟨#[]⟩, .int .i64 0, .int .i64 0, .slice none 0 0, .int .i64 0, .int .i64 0, .bool false]) rfl (by kernel_rfl))) rfl ?_ ?_ ?_); rfl; rfl) | (refine qaF ?_; (first | refine qaa (qat 0 rfl rfl rfl) rfl ?_ ?_ ?_ | refine qaa (qat 1 rfl rfl rfl) rfl ?_ ?_ ?_ | refine qaa (qat 2 rfl rfl rfl) rfl ?_ ?_ ?_ | refine qaa (qaq 0 rfl rfl rfl) rfl ?_ ?_ ?_ | refine qaa (qaq 1 rfl rfl rfl) rfl ?_ ?_ ?_ | refine qaa (qaq 3 rfl rfl rfl) rfl ?_ ?_ ?_); rfl; rfl) | (refine qam ?_; (refine qaa (qag rfl) rfl ?_ ?_ ?_); rfl; rfl) | (refine qau ?_; (refine qaa (qaj rfl) rfl ?_ ?_ ?_); rfl; rfl) | (refine qai ?_; (refine qaa (qae rfl) rfl ?_ ?_ ?_); rfl; rfl) | (refine qaK ?_; (refine qaa (qaI rfl rfl (by omega)) rfl ?_ ?_ ?_); rfl; rfl) | (refine l_neq ?_; (refine qaa (OpW.neqF rfl rfl (by omega)) rfl ?_ ?_ ?_); rfl; rfl) | (refine l_not ?_; (refine qaa (OpW.not rfl) rfl ?_ ?_ ?_); rfl; rfl) | (refine qaR ?_; (refine qaa (qax rfl rfl rfl) rfl ?_ ?_ ?_); rfl; rfl) | (refine qaT ?_; refine SXl.alloc ?_ ?_ (fun g => ?_); rfl; rfl) | (refine l_box ?_; refine qaV ?_ ?_ rfl rfl (fun g => ?_); rfl; rfl) | (refine qaD ?_; first | ((first | refine qah 0 ?_ rfl rfl rfl rfl rfl rfl ?_ | refine qah 1 ?_ rfl rfl rfl rfl rfl rfl ?_ | refine qah 2 ?_ rfl rfl rfl rfl rfl rfl ?_); rfl; simp only [List.set_cons_zero, List.set_cons_succ]) | ((first | refine qad 0 ?_ rfl rfl rfl rfl rfl rfl rfl ?_ | refine qad 1 ?_ rfl rfl rfl rfl rfl rfl rfl ?_ | refine qad 2 ?_ rfl rfl rfl rfl rfl rfl rfl ?_); rfl; simp only [List.set_cons_zero, List.set_cons_succ]) | ((first | refine qac 0 ?_ rfl rfl rfl rfl rfl rfl rfl ?_ | refine qac 1 ?_ rfl rfl rfl rfl rfl rfl rfl ?_ | refine qac 2 ?_ rfl rfl rfl rfl rfl rfl rfl ?_); rfl; simp only [over, List.set_cons_zero, List.set_cons_succ])) | (refine qaG ?_; first | (refine SXl.lit1 ?_ ?_ rfl rfl rfl (fun g => ?_); rfl; rfl) | (refine SXl.lit0 ?_ ?_ (fun _ h => h) rfl (fun g => ?_); rfl; rfl)) | ((refine qaG ?_; refine SXl.lit (cells := [.int .i64 x.n, .int .i64 x.kid, .int .i64 x.pl]) (z := .int .i64 0) ?_ ?_ rfl (by decide) (by kernel_rfl) rfl (fun g => ?_); rfl; rfl)) | (rw [hw]) | (rw [hh]) | refine qav ?_ | refine qar ?_)
      refine qaC rfl rfl (fun w' hl => ⟨rfl, hl.mod⟩)
    · rw [actLine_6 (fun e => hx (e.trans hy))]
      simp only [decide_eq_false hx] at hE
      repeat (first | refine qap ?_ | refine qak ?_ | refine qaf ?_ | refine qab ?_ | refine SX.block ?_ | refine qaE ?_ | refine qao rfl ?_ | refine qas rfl ?_ | (refine qaA ?_; (first | refine qaa (qal rfl (fun w hl => hO _)) rfl ?_ ?_ ?_ | refine qaa (qal rfl (fun w hl => hN _ _ (hl.blk _ (.head _)).2)) rfl ?_ ?_ ?_ | refine qaa (qal rfl (fun w hl => dn _ (ht.keep hl.mod))) rfl ?_ ?_ ?_ | refine qaa (qal rfl (fun w hl => hE _ hl.mod)) rfl ?_ ?_ ?_ | refine qaa (OpW.calls rfl (fun w _ => in_any _ _ _ _)) rfl ?_ ?_ ?_); rfl; rfl) | (refine qaO ?_; (refine qaa ((qaz (vals := [(0, .int .i64 x.kind)]) (cells := [.int .i64 x.kind, .int .i64 0, .int .i64 0, .int .i64 0, .string ⟨#[]⟩, .int .i64 0, .int .i64 0, .slice none 0 0, .int .i64 0, .int .i64 0, .bool false]) rfl (by kernel_rfl))) rfl ?_ ?_ ?_); rfl; rfl) | (refine qaF ?_; (first | refine qaa (qat 0 rfl rfl rfl) rfl ?_ ?_ ?_ | refine qaa (qat 1 rfl rfl rfl) rfl ?_ ?_ ?_ | refine qaa (qat 2 rfl rfl rfl) rfl ?_ ?_ ?_ | refine qaa (qaq 0 rfl rfl rfl) rfl ?_ ?_ ?_ | refine qaa (qaq 1 rfl rfl rfl) rfl ?_ ?_ ?_ | refine qaa (qaq 3 rfl rfl rfl) rfl ?_ ?_ ?_); rfl; rfl) | (refine qam ?_; (refine qaa (qag rfl) rfl ?_ ?_ ?_); rfl; rfl) | (refine qau ?_; (refine qaa (qaj rfl) rfl ?_ ?_ ?_); rfl; rfl) | (refine qai ?_; (refine qaa (qae rfl) rfl ?_ ?_ ?_); rfl; rfl) | (refine qaK ?_; (refine qaa (qaI rfl rfl (by omega)) rfl ?_ ?_ ?_); rfl; rfl) | (refine l_neq ?_; (refine qaa (OpW.neqF rfl rfl (by omega)) rfl ?_ ?_ ?_); rfl; rfl) | (refine l_not ?_; (refine qaa (OpW.not rfl) rfl ?_ ?_ ?_); rfl; rfl) | (refine qaR ?_; (refine qaa (qax rfl rfl rfl) rfl ?_ ?_ ?_); rfl; rfl) | (refine qaT ?_; refine SXl.alloc ?_ ?_ (fun g => ?_); rfl; rfl) | (refine l_box ?_; refine qaV ?_ ?_ rfl rfl (fun g => ?_); rfl; rfl) | (refine qaD ?_; first | ((first | refine qah 0 ?_ rfl rfl rfl rfl rfl rfl ?_ | refine qah 1 ?_ rfl rfl rfl rfl rfl rfl ?_ | refine qah 2 ?_ rfl rfl rfl rfl rfl rfl ?_); rfl; simp only [List.set_cons_zero, List.set_cons_succ]) | ((first | refine qad 0 ?_ rfl rfl rfl rfl rfl rfl rfl ?_ | refine qad 1 ?_ rfl rfl rfl rfl rfl rfl rfl ?_ | refine qad 2 ?_ rfl rfl rfl rfl rfl rfl rfl ?_); rfl; simp only [List.set_cons_zero, List.set_cons_succ]) | ((first | refine qac 0 ?_ rfl rfl rfl rfl rfl rfl rfl ?_ | refine qac 1 ?_ rfl rfl rfl rfl rfl rfl rfl ?_ | refine qac 2 ?_ rfl rfl rfl rfl rfl rfl rfl ?_); rfl; simp only [over, List.set_cons_zero, List.set_cons_succ])) | (refine qaG ?_; first | (refine SXl.lit1 ?_ ?_ rfl rfl rfl (fun g => ?_); rfl; rfl) | (refine SXl.lit0 ?_ ?_ (fun _ h => h) rfl (fun g => ?_); rfl; rfl)) | ((refine qaG ?_; refine SXl.lit (cells := [.int .i64 x.n, .int .i64 x.kid, .int .i64 x.pl]) (z := .int .i64 0) ?_ ?_ rfl (by decide) (by kernel_rfl) rfl (fun g => ?_); rfl; rfl)) | (rw [hw]) | (rw [hh]) | refine qav ?_ | refine qan ?_ | refine qar ?_)
      refine qaC rfl rfl (fun w' hl => ⟨rfl, hl.mod⟩)
  · have hy : onlyA x = ⟨x.kind, x.n, x.kid, x.pl, [], ⟨0, 0⟩, [], 0, 0, false⟩ := by simp [onlyA, hk]
    have hp : actParts x = [[105, 110, 115, 101, 114, 116], Lib.itoa x.n, Lib.itoa x.kid, Lib.itoa x.pl] := by simp [actParts, hk]
    have hE := fun w' (hm : Mod (fun _ => False) w w') => hS ⟨x.kind, x.n, x.kid, x.pl, [], ⟨0, 0⟩, [], 0, 0, false⟩ none 0 (fun _ => False) _ hm (by simp) slice0
    repeat (first | refine qap ?_ | refine qak ?_ | refine qaf ?_ | refine qab ?_ | refine SX.block ?_ | refine qaE ?_ | refine qao rfl ?_ | refine qas rfl ?_ | (refine qaA ?_; (first | refine qaa (qal rfl (fun w hl => hO _)) rfl ?_ ?_ ?_ | refine qaa (qal rfl (fun w hl => hN _ _ (hl.blk _ (.head _)).2)) rfl ?_ ?_ ?_ | refine qaa (qal (args := [.int .i64 x.n]) rfl (fun w hl => dn _ (ht.keep hl.mod))) rfl ?_ ?_ ?_ | refine qaa (OpW.calls rfl (fun w _ => in_any _ _ _ _)) rfl ?_ ?_ ?_); rfl; rfl) | (refine qaO ?_; (refine qaa ((qaz (vals := [(0, .int .i64 x.kind)]) (cells := [.int .i64 x.kind, .int .i64 0, .int .i64 0, .int .i64 0, .string ⟨#[]⟩, .int .i64 0, .int .i64 0, .slice none 0 0, .int .i64 0, .int .i64 0, .bool false]) rfl (by kernel_rfl))) rfl ?_ ?_ ?_); rfl; rfl) | (refine qaF ?_; (first | refine qaa (qat 0 rfl rfl rfl) rfl ?_ ?_ ?_ | refine qaa (qat 1 rfl rfl rfl) rfl ?_ ?_ ?_ | refine qaa (qat 2 rfl rfl rfl) rfl ?_ ?_ ?_ | refine qaa (qaq 0 rfl rfl rfl) rfl ?_ ?_ ?_); rfl; rfl) | (refine qam ?_; (refine qaa (qag rfl) rfl ?_ ?_ ?_); rfl; rfl) | (refine qau ?_; (refine qaa (qaj rfl) rfl ?_ ?_ ?_); rfl; rfl) | (refine qai ?_; (refine qaa (qae rfl) rfl ?_ ?_ ?_); rfl; rfl) | (refine qaK ?_; (first | refine qaa (qaI rfl rfl (by omega)) rfl ?_ ?_ ?_ | refine qaa (qaH rfl rfl (by omega)) rfl ?_ ?_ ?_); rfl; rfl) | (refine l_neq ?_; (refine qaa (OpW.neqT rfl rfl (by omega)) rfl ?_ ?_ ?_); rfl; rfl) | (refine l_not ?_; (refine qaa (OpW.not rfl) rfl ?_ ?_ ?_); rfl; rfl) | (refine qaR ?_; (refine qaa (qax rfl rfl rfl) rfl ?_ ?_ ?_); rfl; rfl) | (refine qaT ?_; refine SXl.alloc ?_ ?_ (fun g => ?_); rfl; rfl) | (refine l_box ?_; refine qaV ?_ ?_ rfl rfl (fun g => ?_); rfl; rfl) | (refine qaD ?_; first | ((first | refine qah 0 ?_ rfl rfl rfl rfl rfl rfl ?_ | refine qah 1 ?_ rfl rfl rfl rfl rfl rfl ?_ | refine qah 2 ?_ rfl rfl rfl rfl rfl rfl ?_); rfl; simp only [List.set_cons_zero, List.set_cons_succ]) | ((first | refine qad 0 ?_ rfl rfl rfl rfl rfl rfl rfl ?_ | refine qad 1 ?_ rfl rfl rfl rfl rfl rfl rfl ?_ | refine qad 2 ?_ rfl rfl rfl rfl rfl rfl rfl ?_); rfl; simp only [List.set_cons_zero, List.set_cons_succ]) | ((first | refine qac 0 ?_ rfl rfl rfl rfl rfl rfl rfl ?_ | refine qac 1 ?_ rfl rfl rfl rfl rfl rfl rfl ?_ | refine qac 2 ?_ rfl rfl rfl rfl rfl rfl rfl ?_); rfl; simp only [over, List.set_cons_zero, List.set_cons_succ])) | ((refine qaG ?_; refine SXl.lit (cells := [.int .i64 x.n, .int .i64 x.kid, .int .i64 x.pl]) (z := .int .i64 0) ?_ ?_ rfl (by decide) (by kernel_rfl) rfl (fun g => ?_); rfl; rfl)) | (rw [hw]) | (rw [hh]))
    refine SX.drawnPT 6 0 [.int .i64 x.kind, .int .i64 x.n, .int .i64 x.kid, .int .i64 0, .string ⟨#[]⟩, .int .i64 0, .int .i64 0, .slice none 0 0, .int .i64 0, .int .i64 0, .bool false] rfl rfl (by kernel_rfl) (by kernel_rfl) (by kernel_rfl) (fun hf => ?_)
    repeat (first | (refine SXp.store hf rfl rfl rfl rfl rfl rfl ?_) | (refine SXp.v (qat 1 rfl rfl rfl) rfl rfl rfl ?_) | (refine SXp.v (qag rfl) rfl rfl rfl ?_))
    refine SXp.tail 5 hf (.head _) ?_
    repeat (first | refine qak ?_ | refine qab ?_ | (refine qam ?_; (refine qaa (qag rfl) rfl ?_ ?_ ?_); rfl; rfl) | (refine qaD ?_; first | ((first | refine qah 0 ?_ rfl rfl rfl rfl rfl rfl ?_ | refine qah 1 ?_ rfl rfl rfl rfl rfl rfl ?_ | refine qah 2 ?_ rfl rfl rfl rfl rfl rfl ?_); rfl; simp only [List.set_cons_zero, List.set_cons_succ]) | ((first | refine qad 0 ?_ rfl rfl rfl rfl rfl rfl rfl ?_ | refine qad 1 ?_ rfl rfl rfl rfl rfl rfl rfl ?_ | refine qad 2 ?_ rfl rfl rfl rfl rfl rfl rfl ?_); rfl; simp only [List.set_cons_zero, List.set_cons_succ]) | ((first | refine qac 0 ?_ rfl rfl rfl rfl rfl rfl rfl ?_ | refine qac 1 ?_ rfl rfl rfl rfl rfl rfl rfl ?_ | refine qac 2 ?_ rfl rfl rfl rfl rfl rfl rfl ?_); rfl; simp only [over, List.set_cons_zero, List.set_cons_succ])))
    refine SX.drawnTail 7 (by kernel_rfl) (by kernel_rfl) (by kernel_rfl) ?_
    repeat (first | refine SXr.nil ?_ | (refine r_call ?_; (first | refine SXr.v (qal (args := [.int .i64 x.kid]) rfl (fun w hl => dk _ (ht.keep hl.mod))) rfl ?_ ?_ ?_ | refine SXr.v (qal (args := [.int .i64 x.pl]) rfl (fun w hl => dp _ (ht.keep hl.mod))) rfl ?_ ?_ ?_); rfl; rfl) | (refine r_load ?_; (refine SXr.v (qat 2 rfl rfl rfl) rfl ?_ ?_ ?_); rfl; rfl) | (refine r_fieldAddr ?_; (refine SXr.v (qag rfl) rfl ?_ ?_ ?_); rfl; rfl) | (refine r_move ?_; (refine SXr.v (qaj rfl) rfl ?_ ?_ ?_); rfl; rfl))
    refine SQ.tail ?_
    have hT : toldA x = true := by simp [toldA, hk]
    by_cases hx : x = ⟨x.kind, x.n, x.kid, x.pl, [], ⟨0, 0⟩, [], 0, 0, false⟩
    · rw [actLine_y ho hft hw hh hT (hx.trans hy.symm), hp]
      simp only [decide_eq_true hx] at hE
      repeat (first | refine qap ?_ | refine qak ?_ | refine qaf ?_ | refine qab ?_ | refine qaE ?_ | refine qas rfl ?_ | (refine qaA ?_; (first | refine qaa (qal rfl (fun w hl => hE _ hl.mod)) rfl ?_ ?_ ?_ | refine qaa (qal rfl (fun w hl => join_lit [[105, 110, 115, 101, 114, 116], Lib.itoa x.n, Lib.itoa x.kid, Lib.itoa x.pl] hl (by simp) (by simp only [Lib.join_cons, Lib.joinTail, List.map_cons, List.map_nil, List.flatten_cons, List.flatten_nil, List.length_append, List.length_cons, List.length_nil]; omega))) rfl ?_ ?_ ?_); rfl; rfl) | (refine qaF ?_; (first | refine qaa (qaq 1 rfl rfl rfl) rfl ?_ ?_ ?_ | refine qaa (qaq 3 rfl rfl rfl) rfl ?_ ?_ ?_); rfl; rfl) | (refine qau ?_; (refine qaa (qaj rfl) rfl ?_ ?_ ?_); rfl; rfl) | (refine qai ?_; (refine qaa (qae rfl) rfl ?_ ?_ ?_); rfl; rfl) | (refine l_not ?_; (refine qaa (OpW.not rfl) rfl ?_ ?_ ?_); rfl; rfl) | ((refine qaG ?_; refine SXl.lit (cells := [.string ⟨([105, 110, 115, 101, 114, 116]).toArray⟩, .string ⟨(Lib.itoa x.n).toArray⟩, .string ⟨(Lib.itoa x.kid).toArray⟩, .string ⟨(Lib.itoa x.pl).toArray⟩]) (z := .string ⟨#[]⟩) ?_ ?_ rfl (by decide) (by kernel_rfl) rfl (fun g => ?_); rfl; rfl)) | refine qav ?_ | refine qar ?_)
      refine qaC rfl rfl (fun w' hl => ⟨rfl, hl.mod⟩)
    · rw [actLine_6 (fun e => hx (e.trans hy))]
      simp only [decide_eq_false hx] at hE
      repeat (first | refine qap ?_ | refine qak ?_ | refine qaf ?_ | refine qab ?_ | refine qao rfl ?_ | (refine qaA ?_; (refine qaa (qal rfl (fun w hl => hE _ hl.mod)) rfl ?_ ?_ ?_); rfl; rfl) | (refine qaF ?_; (first | refine qaa (qaq 1 rfl rfl rfl) rfl ?_ ?_ ?_ | refine qaa (qaq 3 rfl rfl rfl) rfl ?_ ?_ ?_); rfl; rfl) | (refine qai ?_; (refine qaa (qae rfl) rfl ?_ ?_ ?_); rfl; rfl) | (refine l_not ?_; (refine qaa (OpW.not rfl) rfl ?_ ?_ ?_); rfl; rfl) | ((refine qaG ?_; refine SXl.lit (cells := [.string ⟨([105, 110, 115, 101, 114, 116]).toArray⟩, .string ⟨(Lib.itoa x.n).toArray⟩, .string ⟨(Lib.itoa x.kid).toArray⟩, .string ⟨(Lib.itoa x.pl).toArray⟩]) (z := .string ⟨#[]⟩) ?_ ?_ rfl (by decide) (by kernel_rfl) rfl (fun g => ?_); rfl; rfl)) | refine qav ?_ | refine qan ?_ | refine qar ?_)
      refine qaC rfl rfl (fun w' hl => ⟨rfl, hl.mod⟩)
  · have hy : onlyA x = ⟨x.kind, x.n, x.kid, 0, [], ⟨0, 0⟩, [], 0, 0, false⟩ := by simp [onlyA, hk]
    have hp : actParts x = [[114, 101, 109, 111, 118, 101], Lib.itoa x.n, Lib.itoa x.kid] := by simp [actParts, hk]
    have hE := fun w' (hm : Mod (fun _ => False) w w') => hS ⟨x.kind, x.n, x.kid, 0, [], ⟨0, 0⟩, [], 0, 0, false⟩ none 0 (fun _ => False) _ hm (by simp) slice0
    have hT : toldA x = true := by simp [toldA, hk]
    by_cases hx : x = ⟨x.kind, x.n, x.kid, 0, [], ⟨0, 0⟩, [], 0, 0, false⟩
    · rw [actLine_y ho hft hw hh hT (hx.trans hy.symm), hp]
      simp only [decide_eq_true hx] at hE
      repeat (first | refine qap ?_ | refine qak ?_ | refine qaf ?_ | refine qab ?_ | refine SX.block ?_ | refine qaE ?_ | refine qao rfl ?_ | refine qas rfl ?_ | (refine qaA ?_; (first | refine qaa (qal rfl (fun w hl => hO _)) rfl ?_ ?_ ?_ | refine qaa (qal rfl (fun w hl => hN _ _ (hl.blk _ (.head _)).2)) rfl ?_ ?_ ?_ | refine qaa (qal (args := [.int .i64 x.n]) rfl (fun w hl => dn _ (ht.keep hl.mod))) rfl ?_ ?_ ?_ | refine qaa (qal (args := [.int .i64 x.kid]) rfl (fun w hl => dk _ (ht.keep hl.mod))) rfl ?_ ?_ ?_ | refine qaa (qal rfl (fun w hl => hE _ hl.mod)) rfl ?_ ?_ ?_ | refine qaa (qal rfl (fun w hl => join_lit [[114, 101, 109, 111, 118, 101], Lib.itoa x.n, Lib.itoa x.kid] hl (by simp) (by simp only [Lib.join_cons, Lib.joinTail, List.map_cons, List.map_nil, List.flatten_cons, List.flatten_nil, List.length_append, List.length_cons, List.length_nil]; omega))) rfl ?_ ?_ ?_ | refine qaa (OpW.calls rfl (fun w _ => in_any _ _ _ _)) rfl ?_ ?_ ?_); rfl; rfl) | (refine qaO ?_; (refine qaa ((qaz (vals := [(0, .int .i64 x.kind)]) (cells := [.int .i64 x.kind, .int .i64 0, .int .i64 0, .int .i64 0, .string ⟨#[]⟩, .int .i64 0, .int .i64 0, .slice none 0 0, .int .i64 0, .int .i64 0, .bool false]) rfl (by kernel_rfl))) rfl ?_ ?_ ?_); rfl; rfl) | (refine qaF ?_; (first | refine qaa (qat 0 rfl rfl rfl) rfl ?_ ?_ ?_ | refine qaa (qat 1 rfl rfl rfl) rfl ?_ ?_ ?_ | refine qaa (qat 2 rfl rfl rfl) rfl ?_ ?_ ?_ | refine qaa (qaq 0 rfl rfl rfl) rfl ?_ ?_ ?_ | refine qaa (qaq 1 rfl rfl rfl) rfl ?_ ?_ ?_ | refine qaa (qaq 3 rfl rfl rfl) rfl ?_ ?_ ?_); rfl; rfl) | (refine qam ?_; (refine qaa (qag rfl) rfl ?_ ?_ ?_); rfl; rfl) | (refine qau ?_; (refine qaa (qaj rfl) rfl ?_ ?_ ?_); rfl; rfl) | (refine qai ?_; (refine qaa (qae rfl) rfl ?_ ?_ ?_); rfl; rfl) | (refine qaK ?_; (first | refine qaa (qaI rfl rfl (by omega)) rfl ?_ ?_ ?_ | refine qaa (qaH rfl rfl (by omega)) rfl ?_ ?_ ?_); rfl; rfl) | (refine l_neq ?_; (refine qaa (OpW.neqT rfl rfl (by omega)) rfl ?_ ?_ ?_); rfl; rfl) | (refine l_not ?_; (refine qaa (OpW.not rfl) rfl ?_ ?_ ?_); rfl; rfl) | (refine qaR ?_; (refine qaa (qax rfl rfl rfl) rfl ?_ ?_ ?_); rfl; rfl) | (refine qaT ?_; refine SXl.alloc ?_ ?_ (fun g => ?_); rfl; rfl) | (refine l_box ?_; refine qaV ?_ ?_ rfl rfl (fun g => ?_); rfl; rfl) | (refine qaD ?_; first | ((first | refine qah 0 ?_ rfl rfl rfl rfl rfl rfl ?_ | refine qah 1 ?_ rfl rfl rfl rfl rfl rfl ?_ | refine qah 2 ?_ rfl rfl rfl rfl rfl rfl ?_); rfl; simp only [List.set_cons_zero, List.set_cons_succ]) | ((first | refine qad 0 ?_ rfl rfl rfl rfl rfl rfl rfl ?_ | refine qad 1 ?_ rfl rfl rfl rfl rfl rfl rfl ?_ | refine qad 2 ?_ rfl rfl rfl rfl rfl rfl rfl ?_); rfl; simp only [List.set_cons_zero, List.set_cons_succ]) | ((first | refine qac 0 ?_ rfl rfl rfl rfl rfl rfl rfl ?_ | refine qac 1 ?_ rfl rfl rfl rfl rfl rfl rfl ?_ | refine qac 2 ?_ rfl rfl rfl rfl rfl rfl rfl ?_); rfl; simp only [over, List.set_cons_zero, List.set_cons_succ])) | ((refine qaG ?_; refine SXl.lit (cells := [.int .i64 x.n, .int .i64 x.kid, .int .i64 x.pl]) (z := .int .i64 0) ?_ ?_ rfl (by decide) (by kernel_rfl) rfl (fun g => ?_); rfl; rfl)) | (rw [hw]) | (rw [hh]) | ((refine qaG ?_; refine SXl.lit (cells := [.string ⟨([114, 101, 109, 111, 118, 101]).toArray⟩, .string ⟨(Lib.itoa x.n).toArray⟩, .string ⟨(Lib.itoa x.kid).toArray⟩]) (z := .string ⟨#[]⟩) ?_ ?_ rfl (by decide) (by kernel_rfl) rfl (fun g => ?_); rfl; rfl)) | refine qav ?_ | refine qar ?_)
      refine qaC rfl rfl (fun w' hl => ⟨rfl, hl.mod⟩)
    · rw [actLine_6 (fun e => hx (e.trans hy))]
      simp only [decide_eq_false hx] at hE
      repeat (first | refine qap ?_ | refine qak ?_ | refine qaf ?_ | refine qab ?_ | refine SX.block ?_ | refine qaE ?_ | refine qao rfl ?_ | refine qas rfl ?_ | (refine qaA ?_; (first | refine qaa (qal rfl (fun w hl => hO _)) rfl ?_ ?_ ?_ | refine qaa (qal rfl (fun w hl => hN _ _ (hl.blk _ (.head _)).2)) rfl ?_ ?_ ?_ | refine qaa (qal (args := [.int .i64 x.n]) rfl (fun w hl => dn _ (ht.keep hl.mod))) rfl ?_ ?_ ?_ | refine qaa (qal (args := [.int .i64 x.kid]) rfl (fun w hl => dk _ (ht.keep hl.mod))) rfl ?_ ?_ ?_ | refine qaa (qal rfl (fun w hl => hE _ hl.mod)) rfl ?_ ?_ ?_ | refine qaa (OpW.calls rfl (fun w _ => in_any _ _ _ _)) rfl ?_ ?_ ?_); rfl; rfl) | (refine qaO ?_; (refine qaa ((qaz (vals := [(0, .int .i64 x.kind)]) (cells := [.int .i64 x.kind, .int .i64 0, .int .i64 0, .int .i64 0, .string ⟨#[]⟩, .int .i64 0, .int .i64 0, .slice none 0 0, .int .i64 0, .int .i64 0, .bool false]) rfl (by kernel_rfl))) rfl ?_ ?_ ?_); rfl; rfl) | (refine qaF ?_; (first | refine qaa (qat 0 rfl rfl rfl) rfl ?_ ?_ ?_ | refine qaa (qat 1 rfl rfl rfl) rfl ?_ ?_ ?_ | refine qaa (qat 2 rfl rfl rfl) rfl ?_ ?_ ?_ | refine qaa (qaq 0 rfl rfl rfl) rfl ?_ ?_ ?_ | refine qaa (qaq 1 rfl rfl rfl) rfl ?_ ?_ ?_ | refine qaa (qaq 3 rfl rfl rfl) rfl ?_ ?_ ?_); rfl; rfl) | (refine qam ?_; (refine qaa (qag rfl) rfl ?_ ?_ ?_); rfl; rfl) | (refine qau ?_; (refine qaa (qaj rfl) rfl ?_ ?_ ?_); rfl; rfl) | (refine qai ?_; (refine qaa (qae rfl) rfl ?_ ?_ ?_); rfl; rfl) | (refine qaK ?_; (first | refine qaa (qaI rfl rfl (by omega)) rfl ?_ ?_ ?_ | refine qaa (qaH rfl rfl (by omega)) rfl ?_ ?_ ?_); rfl; rfl) | (refine l_neq ?_; (refine qaa (OpW.neqT rfl rfl (by omega)) rfl ?_ ?_ ?_); rfl; rfl) | (refine l_not ?_; (refine qaa (OpW.not rfl) rfl ?_ ?_ ?_); rfl; rfl) | (refine qaR ?_; (refine qaa (qax rfl rfl rfl) rfl ?_ ?_ ?_); rfl; rfl) | (refine qaT ?_; refine SXl.alloc ?_ ?_ (fun g => ?_); rfl; rfl) | (refine l_box ?_; refine qaV ?_ ?_ rfl rfl (fun g => ?_); rfl; rfl) | (refine qaD ?_; first | ((first | refine qah 0 ?_ rfl rfl rfl rfl rfl rfl ?_ | refine qah 1 ?_ rfl rfl rfl rfl rfl rfl ?_ | refine qah 2 ?_ rfl rfl rfl rfl rfl rfl ?_); rfl; simp only [List.set_cons_zero, List.set_cons_succ]) | ((first | refine qad 0 ?_ rfl rfl rfl rfl rfl rfl rfl ?_ | refine qad 1 ?_ rfl rfl rfl rfl rfl rfl rfl ?_ | refine qad 2 ?_ rfl rfl rfl rfl rfl rfl rfl ?_); rfl; simp only [List.set_cons_zero, List.set_cons_succ]) | ((first | refine qac 0 ?_ rfl rfl rfl rfl rfl rfl rfl ?_ | refine qac 1 ?_ rfl rfl rfl rfl rfl rfl rfl ?_ | refine qac 2 ?_ rfl rfl rfl rfl rfl rfl rfl ?_); rfl; simp only [over, List.set_cons_zero, List.set_cons_succ])) | ((refine qaG ?_; refine SXl.lit (cells := [.int .i64 x.n, .int .i64 x.kid, .int .i64 x.pl]) (z := .int .i64 0) ?_ ?_ rfl (by decide) (by kernel_rfl) rfl (fun g => ?_); rfl; rfl)) | (rw [hw]) | (rw [hh]) | ((refine qaG ?_; refine SXl.lit (cells := [.string ⟨([114, 101, 109, 111, 118, 101]).toArray⟩, .string ⟨(Lib.itoa x.n).toArray⟩, .string ⟨(Lib.itoa x.kid).toArray⟩]) (z := .string ⟨#[]⟩) ?_ ?_ rfl (by decide) (by kernel_rfl) rfl (fun g => ?_); rfl; rfl)) | refine qav ?_ | refine qan ?_ | refine qar ?_)
      refine qaC rfl rfl (fun w' hl => ⟨rfl, hl.mod⟩)
  · have hy : onlyA x = ⟨x.kind, x.n, 0, 0, x.key, x.v, [], 0, 0, false⟩ := by simp [onlyA, hk]
    have hp : actParts x = [[115, 101, 116], Lib.itoa x.n, x.key, valText x.v] := by simp [actParts, hk]
    have hE := fun w' (hm : Mod (fun _ => False) w w') => hS ⟨x.kind, x.n, 0, 0, x.key, x.v, [], 0, 0, false⟩ none 0 (fun _ => False) _ hm (by simp) slice0
    repeat (first | refine qap ?_ | refine qak ?_ | refine qaf ?_ | refine qab ?_ | refine SX.block ?_ | refine qaE ?_ | refine qao rfl ?_ | refine qas rfl ?_ | (refine qaA ?_; (first | refine qaa (qal rfl (fun w hl => hO _)) rfl ?_ ?_ ?_ | refine qaa (qal rfl (fun w hl => hN _ _ (hl.blk _ (.head _)).2)) rfl ?_ ?_ ?_ | refine qaa (qal rfl (fun w hl => dn _ (ht.keep hl.mod))) rfl ?_ ?_ ?_ | refine qaa (OpW.calls rfl (fun w _ => in_any _ _ _ _)) rfl ?_ ?_ ?_); rfl; rfl) | (refine qaO ?_; (refine qaa ((qaz (vals := [(0, .int .i64 x.kind)]) (cells := [.int .i64 x.kind, .int .i64 0, .int .i64 0, .int .i64 0, .string ⟨#[]⟩, .int .i64 0, .int .i64 0, .slice none 0 0, .int .i64 0, .int .i64 0, .bool false]) rfl (by kernel_rfl))) rfl ?_ ?_ ?_); rfl; rfl) | (refine qaF ?_; (first | refine qaa (qat 0 rfl rfl rfl) rfl ?_ ?_ ?_ | refine qaa (qat 1 rfl rfl rfl) rfl ?_ ?_ ?_ | refine qaa (qat 2 rfl rfl rfl) rfl ?_ ?_ ?_ | refine qaa (qaq 0 rfl rfl rfl) rfl ?_ ?_ ?_); rfl; rfl) | (refine qam ?_; (refine qaa (qag rfl) rfl ?_ ?_ ?_); rfl; rfl) | (refine qau ?_; (refine qaa (qaj rfl) rfl ?_ ?_ ?_); rfl; rfl) | (refine qai ?_; (refine qaa (qae rfl) rfl ?_ ?_ ?_); rfl; rfl) | (refine qaK ?_; (first | refine qaa (qaI rfl rfl (by omega)) rfl ?_ ?_ ?_ | refine qaa (qaH rfl rfl (by omega)) rfl ?_ ?_ ?_); rfl; rfl) | (refine l_neq ?_; (refine qaa (OpW.neqT rfl rfl (by omega)) rfl ?_ ?_ ?_); rfl; rfl) | (refine l_not ?_; (refine qaa (OpW.not rfl) rfl ?_ ?_ ?_); rfl; rfl) | (refine qaR ?_; (refine qaa (qax rfl rfl rfl) rfl ?_ ?_ ?_); rfl; rfl) | (refine qaT ?_; refine SXl.alloc ?_ ?_ (fun g => ?_); rfl; rfl) | (refine l_box ?_; refine qaV ?_ ?_ rfl rfl (fun g => ?_); rfl; rfl) | (refine qaD ?_; first | ((first | refine qah 0 ?_ rfl rfl rfl rfl rfl rfl ?_ | refine qah 1 ?_ rfl rfl rfl rfl rfl rfl ?_ | refine qah 2 ?_ rfl rfl rfl rfl rfl rfl ?_); rfl; simp only [List.set_cons_zero, List.set_cons_succ]) | ((first | refine qad 0 ?_ rfl rfl rfl rfl rfl rfl rfl ?_ | refine qad 1 ?_ rfl rfl rfl rfl rfl rfl rfl ?_ | refine qad 2 ?_ rfl rfl rfl rfl rfl rfl rfl ?_); rfl; simp only [List.set_cons_zero, List.set_cons_succ]) | ((first | refine qac 0 ?_ rfl rfl rfl rfl rfl rfl rfl ?_ | refine qac 1 ?_ rfl rfl rfl rfl rfl rfl rfl ?_ | refine qac 2 ?_ rfl rfl rfl rfl rfl rfl rfl ?_); rfl; simp only [over, List.set_cons_zero, List.set_cons_succ])) | ((refine qaG ?_; refine SXl.lit (cells := [.int .i64 x.n, .int .i64 x.kid, .int .i64 x.pl]) (z := .int .i64 0) ?_ ?_ rfl (by decide) (by kernel_rfl) rfl (fun g => ?_); rfl; rfl)) | (rw [hw]) | (rw [hh]))
    refine SX.drawnPT 6 0 [.int .i64 x.kind, .int .i64 x.n, .int .i64 0, .int .i64 0, .string ⟨x.key.toArray⟩, .int .i64 0, .int .i64 0, .slice none 0 0, .int .i64 0, .int .i64 0, .bool false] rfl rfl (by kernel_rfl) (by kernel_rfl) (by kernel_rfl) (fun hf => ?_)
    repeat (first | (refine SXp.store hf rfl rfl rfl rfl rfl rfl ?_) | (refine SXp.v (qaJ 1 (r := x.v.cells) rfl rfl rfl rfl) rfl rfl rfl ?_) | (refine SXp.v (qat 1 rfl rfl rfl) rfl rfl rfl ?_) | (refine SXp.v (qag rfl) rfl rfl rfl ?_))
    refine SXp.tail 5 hf (.head _) ?_
    repeat (first | refine qap ?_ | refine qak ?_ | refine qab ?_ | (refine qam ?_; (refine qaa (qag rfl) rfl ?_ ?_ ?_); rfl; rfl) | (refine qaD ?_; first | ((first | refine qah 0 ?_ rfl rfl rfl rfl rfl rfl ?_ | refine qah 1 ?_ rfl rfl rfl rfl rfl rfl ?_ | refine qah 2 ?_ rfl rfl rfl rfl rfl rfl ?_); rfl; simp only [List.set_cons_zero, List.set_cons_succ]) | ((first | refine qad 0 ?_ rfl rfl rfl rfl rfl rfl rfl ?_ | refine qad 1 ?_ rfl rfl rfl rfl rfl rfl rfl ?_ | refine qad 2 ?_ rfl rfl rfl rfl rfl rfl rfl ?_); rfl; simp only [List.set_cons_zero, List.set_cons_succ]) | ((first | refine qac 0 ?_ rfl rfl rfl rfl rfl rfl rfl ?_ | refine qac 1 ?_ rfl rfl rfl rfl rfl rfl rfl ?_ | refine qac 2 ?_ rfl rfl rfl rfl rfl rfl rfl ?_); rfl; simp only [over, List.set_cons_zero, List.set_cons_succ])))
    cases hkey : hasKey x.key
    · have hki : decide (keyI keyTexts x.key < 0) = true := by rw [keyI_has, hkey]; rfl
      rw [actLine_5 (by simp [toldA, hk, hkey])]
      refine SX.drawnU (by kernel_rfl) (by kernel_rfl) ?_
      repeat (first | (refine SXu.new KeysV (fun _ _ _ h hm => h.keep hm) (fun _ => rfl) rfl (fun _ => rfl) (fun w hl => keyNames_v _ (hz.keep hl.mod)) ?_) | (refine SXu.v (fun _ => (qat 2 rfl rfl rfl)) rfl (fun _ => rfl) rfl ?_) | (refine SXu.v (fun _ => (qag rfl)) rfl (fun _ => rfl) rfl ?_))
      refine SXu.use (v := .int .i64 (keyI keyTexts x.key)) [0] (by kernel_rfl) (fun _ => rfl) rfl (fun _ => rfl) (fun xq w hl hK => ?_) ?_
      · obtain ⟨a2, c2, R2, h2, s2⟩ := hK _ List.mem_cons_self (by simp)
        simp only at h2
        rw [h2]
        exact keyAt_any keyTexts x.key a2 c2 R2 w (by decide) s2
      repeat (first | refine SXu.nil (fun xq => ?_) | (refine SXu.no (fun _ => rfl) rfl rfl ?_) | (rw [hki]) | (refine SXu.v (fun _ => (qaj rfl)) rfl (fun _ => rfl) rfl ?_) | (refine SXu.v (fun _ => (OpW.lss rfl rfl)) rfl (fun _ => rfl) rfl ?_) | (refine SXu.v (fun _ => (qax rfl rfl rfl)) rfl (fun _ => rfl) rfl ?_))
      repeat (first | refine qap ?_ | refine qak ?_ | refine qaf ?_ | refine qab ?_ | refine qao rfl ?_ | (refine qai ?_; (refine qaa (qae rfl) rfl ?_ ?_ ?_); rfl; rfl) | refine qav ?_ | refine qan ?_ | refine qaw ?_)
      refine qaC rfl rfl (fun w' hl => ⟨rfl, hl.mod⟩)
    have hki : decide (keyI keyTexts x.key < 0) = false := by rw [keyI_has, hkey]; rfl
    have hV := fun w => valueOk_any x.v w
    cases hv : valOk x.v
    · rw [hv] at hV
      rw [actLine_5 (by simp [toldA, hk, hv])]
      refine SX.drawnU (by kernel_rfl) (by kernel_rfl) ?_
      repeat (first | (refine SXu.new KeysV (fun _ _ _ h hm => h.keep hm) (fun _ => rfl) rfl (fun _ => rfl) (fun w hl => keyNames_v _ (hz.keep hl.mod)) ?_) | (refine SXu.v (fun _ => (qat 2 rfl rfl rfl)) rfl (fun _ => rfl) rfl ?_) | (refine SXu.v (fun _ => (qag rfl)) rfl (fun _ => rfl) rfl ?_))
      refine SXu.use (v := .int .i64 (keyI keyTexts x.key)) [0] (by kernel_rfl) (fun _ => rfl) rfl (fun _ => rfl) (fun xq w hl hK => ?_) ?_
      · obtain ⟨a2, c2, R2, h2, s2⟩ := hK _ List.mem_cons_self (by simp)
        simp only at h2
        rw [h2]
        exact keyAt_any keyTexts x.key a2 c2 R2 w (by decide) s2
      repeat (first | refine SXu.nil (fun xq => ?_) | (rw [hki]) | (refine SXu.v (fun _ => (qaJ 2 (r := x.v.cells) rfl rfl rfl rfl)) rfl (fun _ => rfl) rfl ?_) | (refine SXu.v (fun _ => (qal rfl (fun w hl => hV _))) rfl (fun _ => rfl) rfl ?_) | (refine SXu.v (fun _ => (qag rfl)) rfl (fun _ => rfl) rfl ?_) | (refine SXu.v (fun _ => (qaj rfl)) rfl (fun _ => rfl) rfl ?_) | (refine SXu.v (fun _ => (OpW.lss rfl rfl)) rfl (fun _ => rfl) rfl ?_) | (refine SXu.v (fun _ => (OpW.not rfl)) rfl (fun _ => rfl) rfl ?_) | (refine SXu.v (fun _ => (qax rfl rfl rfl)) rfl (fun _ => rfl) rfl ?_))
      repeat (first | refine qap ?_ | refine qak ?_ | refine qaf ?_ | refine qab ?_ | refine qao rfl ?_ | (refine qai ?_; (refine qaa (qae rfl) rfl ?_ ?_ ?_); rfl; rfl) | refine qav ?_ | refine qan ?_ | refine qaw ?_)
      refine qaC rfl rfl (fun w' hl => ⟨rfl, hl.mod⟩)
    rw [hv] at hV
    refine SX.drawnU (by kernel_rfl) (by kernel_rfl) ?_
    repeat (first | (refine SXu.new KeysV (fun _ _ _ h hm => h.keep hm) (fun _ => rfl) rfl (fun _ => rfl) (fun w hl => keyNames_v _ (hz.keep hl.mod)) ?_) | (refine SXu.v (fun _ => (qat 2 rfl rfl rfl)) rfl (fun _ => rfl) rfl ?_) | (refine SXu.v (fun _ => (qag rfl)) rfl (fun _ => rfl) rfl ?_))
    refine SXu.use (v := .int .i64 (keyI keyTexts x.key)) [0] (by kernel_rfl) (fun _ => rfl) rfl (fun _ => rfl) (fun xq w hl hK => ?_) ?_
    · obtain ⟨a2, c2, R2, h2, s2⟩ := hK _ List.mem_cons_self (by simp)
      simp only at h2
      rw [h2]
      exact keyAt_any keyTexts x.key a2 c2 R2 w (by decide) s2
    repeat (first | refine SXu.nil (fun xq => ?_) | (rw [hki]) | (refine SXu.v (fun _ => (qaJ 2 (r := x.v.cells) rfl rfl rfl rfl)) rfl (fun _ => rfl) rfl ?_) | (refine SXu.v (fun _ => (qal rfl (fun w hl => hV _))) rfl (fun _ => rfl) rfl ?_) | (refine SXu.v (fun _ => (qag rfl)) rfl (fun _ => rfl) rfl ?_) | (refine SXu.v (fun _ => (qaj rfl)) rfl (fun _ => rfl) rfl ?_) | (refine SXu.v (fun _ => (OpW.lss rfl rfl)) rfl (fun _ => rfl) rfl ?_) | (refine SXu.v (fun _ => (OpW.not rfl)) rfl (fun _ => rfl) rfl ?_) | (refine SXu.v (fun _ => (qax rfl rfl rfl)) rfl (fun _ => rfl) rfl ?_))
    repeat (first | refine qab ?_ | refine qaE ?_ | refine qas rfl ?_)
    have hvt := fun w h => valueText_any x.v (valOk_b hv) w h
    have hvl := valText_short x.v (valOk_b hv)
    have hkl := key_short hkey
    refine SX.drawnTail 6 (by kernel_rfl) (by kernel_rfl) (by kernel_rfl) ?_
    repeat (first | refine SXr.nil ?_ | (refine r_load ?_; (first | refine SXr.v (qaJ 2 (r := x.v.cells) rfl rfl rfl rfl) rfl ?_ ?_ ?_ | refine SXr.v (qat 2 rfl rfl rfl) rfl ?_ ?_ ?_); rfl; rfl) | (refine r_call ?_; (refine SXr.v (qal rfl (fun w hl => hvt _ (ht.keep hl.mod))) rfl ?_ ?_ ?_); rfl; rfl) | (refine r_fieldAddr ?_; (refine SXr.v (qag rfl) rfl ?_ ?_ ?_); rfl; rfl) | (refine r_move ?_; (refine SXr.v (qaj rfl) rfl ?_ ?_ ?_); rfl; rfl))
    refine SQ.tail ?_
    have hT : toldA x = true := by simp [toldA, hk, hkey, hv]
    by_cases hx : x = ⟨x.kind, x.n, 0, 0, x.key, x.v, [], 0, 0, false⟩
    · rw [actLine_y ho hft hw hh hT (hx.trans hy.symm), hp]
      simp only [decide_eq_true hx] at hE
      repeat (first | refine qap ?_ | refine qak ?_ | refine qaf ?_ | refine qab ?_ | refine qaE ?_ | refine qas rfl ?_ | (refine qaA ?_; (first | refine qaa (qal rfl (fun w hl => hE _ hl.mod)) rfl ?_ ?_ ?_ | refine qaa (qal rfl (fun w hl => join_lit [[115, 101, 116], Lib.itoa x.n, x.key, valText x.v] hl (by simp) (by simp only [Lib.join_cons, Lib.joinTail, List.map_cons, List.map_nil, List.flatten_cons, List.flatten_nil, List.length_append, List.length_cons, List.length_nil]; omega))) rfl ?_ ?_ ?_); rfl; rfl) | (refine qaF ?_; (first | refine qaa (qaq 1 rfl rfl rfl) rfl ?_ ?_ ?_ | refine qaa (qaq 3 rfl rfl rfl) rfl ?_ ?_ ?_); rfl; rfl) | (refine qau ?_; (refine qaa (qaj rfl) rfl ?_ ?_ ?_); rfl; rfl) | (refine qai ?_; (refine qaa (qae rfl) rfl ?_ ?_ ?_); rfl; rfl) | (refine l_not ?_; (refine qaa (OpW.not rfl) rfl ?_ ?_ ?_); rfl; rfl) | ((refine qaG ?_; refine SXl.lit (cells := [.string ⟨([115, 101, 116]).toArray⟩, .string ⟨(Lib.itoa x.n).toArray⟩, .string ⟨(x.key).toArray⟩, .string ⟨(valText x.v).toArray⟩]) (z := .string ⟨#[]⟩) ?_ ?_ rfl (by decide) (by kernel_rfl) rfl (fun g => ?_); rfl; rfl)) | refine qav ?_ | refine qar ?_)
      refine qaC rfl rfl (fun w' hl => ⟨rfl, hl.mod⟩)
    · rw [actLine_6 (fun e => hx (e.trans hy))]
      simp only [decide_eq_false hx] at hE
      repeat (first | refine qap ?_ | refine qak ?_ | refine qaf ?_ | refine qab ?_ | refine qao rfl ?_ | (refine qaA ?_; (refine qaa (qal rfl (fun w hl => hE _ hl.mod)) rfl ?_ ?_ ?_); rfl; rfl) | (refine qaF ?_; (first | refine qaa (qaq 1 rfl rfl rfl) rfl ?_ ?_ ?_ | refine qaa (qaq 3 rfl rfl rfl) rfl ?_ ?_ ?_); rfl; rfl) | (refine qai ?_; (refine qaa (qae rfl) rfl ?_ ?_ ?_); rfl; rfl) | (refine l_not ?_; (refine qaa (OpW.not rfl) rfl ?_ ?_ ?_); rfl; rfl) | ((refine qaG ?_; refine SXl.lit (cells := [.string ⟨([115, 101, 116]).toArray⟩, .string ⟨(Lib.itoa x.n).toArray⟩, .string ⟨(x.key).toArray⟩, .string ⟨(valText x.v).toArray⟩]) (z := .string ⟨#[]⟩) ?_ ?_ rfl (by decide) (by kernel_rfl) rfl (fun g => ?_); rfl; rfl)) | refine qav ?_ | refine qan ?_ | refine qar ?_)
      refine qaC rfl rfl (fun w' hl => ⟨rfl, hl.mod⟩)
  · have hy : onlyA x = ⟨x.kind, x.n, 0, 0, [], ⟨0, 0⟩, x.rules, 0, 0, false⟩ := by simp [onlyA, hk]
    have hp : actParts x = [[116, 97, 98, 108, 101], Lib.itoa x.n, ruleTextOf x.rules] := by simp [actParts, hk]
    have hE := fun w' (hm : Mod (fun _ => False) w w') => hS ⟨x.kind, x.n, 0, 0, [], ⟨0, 0⟩, x.rules, 0, 0, false⟩ a c R _ (hm) (by omega) (h.flatKeep hm)
    have hX := fun w' (hm : Mod (fun _ => False) w w') => ruleText_any x.rules a c R w' hl0 (h.flatKeep hm) (ht.keep hm)
    have hrl := ruleText_short hr8
    by_cases hrt : ruleTextOf x.rules = []
    · rw [actLine_5 (by simp [toldA, hk, hrt])]
      repeat (first | refine qap ?_ | refine qak ?_ | refine qaf ?_ | refine qab ?_ | refine SX.block ?_ | refine qaE ?_ | refine qao rfl ?_ | refine qas rfl ?_ | (refine qaA ?_; (first | refine qaa (qal rfl (fun w hl => hO _)) rfl ?_ ?_ ?_ | refine qaa (qal rfl (fun w hl => hN _ _ (hl.blk _ (.head _)).2)) rfl ?_ ?_ ?_ | refine qaa (qal rfl (fun w hl => dn _ (ht.keep hl.mod))) rfl ?_ ?_ ?_ | refine qaa (qal rfl (fun w hl => hX _ hl.mod)) rfl ?_ ?_ ?_ | refine qaa (OpW.calls rfl (fun w _ => in_any _ _ _ _)) rfl ?_ ?_ ?_); rfl; rfl) | (refine qaO ?_; (refine qaa ((qaz (vals := [(0, .int .i64 x.kind)]) (cells := [.int .i64 x.kind, .int .i64 0, .int .i64 0, .int .i64 0, .string ⟨#[]⟩, .int .i64 0, .int .i64 0, .slice none 0 0, .int .i64 0, .int .i64 0, .bool false]) rfl (by kernel_rfl))) rfl ?_ ?_ ?_); rfl; rfl) | (refine qaF ?_; (first | refine qaa (qat 0 rfl rfl rfl) rfl ?_ ?_ ?_ | refine qaa (qat 1 rfl rfl rfl) rfl ?_ ?_ ?_ | refine qaa (qat 2 rfl rfl rfl) rfl ?_ ?_ ?_ | refine qaa (qaq 0 rfl rfl rfl) rfl ?_ ?_ ?_ | refine qaa (qaJ 2 rfl rfl rfl rfl) rfl ?_ ?_ ?_); rfl; rfl) | (refine qam ?_; (refine qaa (qag rfl) rfl ?_ ?_ ?_); rfl; rfl) | (refine qau ?_; (refine qaa (qaj rfl) rfl ?_ ?_ ?_); rfl; rfl) | (refine qai ?_; (refine qaa (qae rfl) rfl ?_ ?_ ?_); rfl; rfl) | (refine qaK ?_; (first | refine qaa (qaI rfl rfl (by omega)) rfl ?_ ?_ ?_ | refine qaa (qaH rfl rfl (by omega)) rfl ?_ ?_ ?_ | refine qaa (qaB rfl rfl (by first | assumption | with_reducible rfl | decide)) rfl ?_ ?_ ?_); rfl; rfl) | (refine l_neq ?_; (refine qaa (OpW.neqT rfl rfl (by omega)) rfl ?_ ?_ ?_); rfl; rfl) | (refine l_not ?_; (refine qaa (OpW.not rfl) rfl ?_ ?_ ?_); rfl; rfl) | (refine qaR ?_; (refine qaa (qax rfl rfl rfl) rfl ?_ ?_ ?_); rfl; rfl) | (refine qaT ?_; refine SXl.alloc ?_ ?_ (fun g => ?_); rfl; rfl) | (refine l_box ?_; refine qaV ?_ ?_ rfl rfl (fun g => ?_); rfl; rfl) | (refine qaD ?_; first | ((first | refine qah 0 ?_ rfl rfl rfl rfl rfl rfl ?_ | refine qah 1 ?_ rfl rfl rfl rfl rfl rfl ?_ | refine qah 2 ?_ rfl rfl rfl rfl rfl rfl ?_); rfl; simp only [List.set_cons_zero, List.set_cons_succ]) | ((first | refine qad 0 ?_ rfl rfl rfl rfl rfl rfl rfl ?_ | refine qad 1 ?_ rfl rfl rfl rfl rfl rfl rfl ?_ | refine qad 2 ?_ rfl rfl rfl rfl rfl rfl rfl ?_); rfl; simp only [List.set_cons_zero, List.set_cons_succ]) | ((first | refine qac 0 ?_ rfl rfl rfl rfl rfl rfl rfl ?_ | refine qac 1 ?_ rfl rfl rfl rfl rfl rfl rfl ?_ | refine qac 2 ?_ rfl rfl rfl rfl rfl rfl rfl ?_); rfl; simp only [over, List.set_cons_zero, List.set_cons_succ])) | ((refine qaG ?_; refine SXl.lit (cells := [.int .i64 x.n, .int .i64 x.kid, .int .i64 x.pl]) (z := .int .i64 0) ?_ ?_ rfl (by decide) (by kernel_rfl) rfl (fun g => ?_); rfl; rfl)) | (rw [hw]) | (rw [hh]) | refine qav ?_ | refine qan ?_ | refine qaw ?_)
      refine qaC rfl rfl (fun w' hl => ⟨rfl, hl.mod⟩)
    have hT : toldA x = true := by simp [toldA, hk, hrt]
    by_cases hx : x = ⟨x.kind, x.n, 0, 0, [], ⟨0, 0⟩, x.rules, 0, 0, false⟩
    · rw [actLine_y ho hft hw hh hT (hx.trans hy.symm), hp]
      simp only [decide_eq_true hx] at hE
      repeat (first | refine qap ?_ | refine qak ?_ | refine qaf ?_ | refine qab ?_ | refine SX.block ?_ | refine qaE ?_ | refine qao rfl ?_ | refine qas rfl ?_ | (refine qaA ?_; (first | refine qaa (qal rfl (fun w hl => hO _)) rfl ?_ ?_ ?_ | refine qaa (qal rfl (fun w hl => hN _ _ (hl.blk _ (.head _)).2)) rfl ?_ ?_ ?_ | refine qaa (qal rfl (fun w hl => dn _ (ht.keep hl.mod))) rfl ?_ ?_ ?_ | refine qaa (qal rfl (fun w hl => hX _ hl.mod)) rfl ?_ ?_ ?_ | refine qaa (qal rfl (fun w hl => hE _ hl.mod)) rfl ?_ ?_ ?_ | refine qaa (qal rfl (fun w hl => join_lit [[116, 97, 98, 108, 101], Lib.itoa x.n, ruleTextOf x.rules] hl (by simp) (by simp only [Lib.join_cons, Lib.joinTail, List.map_cons, List.map_nil, List.flatten_cons, List.flatten_nil, List.length_append, List.length_cons, List.length_nil]; omega))) rfl ?_ ?_ ?_ | refine qaa (OpW.calls rfl (fun w _ => in_any _ _ _ _)) rfl ?_ ?_ ?_); rfl; rfl) | (refine qaO ?_; (refine qaa ((qaz (vals := [(0, .int .i64 x.kind)]) (cells := [.int .i64 x.kind, .int .i64 0, .int .i64 0, .int .i64 0, .string ⟨#[]⟩, .int .i64 0, .int .i64 0, .slice none 0 0, .int .i64 0, .int .i64 0, .bool false]) rfl (by kernel_rfl))) rfl ?_ ?_ ?_); rfl; rfl) | (refine qaF ?_; (first | refine qaa (qat 0 rfl rfl rfl) rfl ?_ ?_ ?_ | refine qaa (qat 1 rfl rfl rfl) rfl ?_ ?_ ?_ | refine qaa (qat 2 rfl rfl rfl) rfl ?_ ?_ ?_ | refine qaa (qaq 0 rfl rfl rfl) rfl ?_ ?_ ?_ | refine qaa (qaq 1 rfl rfl rfl) rfl ?_ ?_ ?_ | refine qaa (qaq 3 rfl rfl rfl) rfl ?_ ?_ ?_ | refine qaa (qaJ 2 rfl rfl rfl rfl) rfl ?_ ?_ ?_); rfl; rfl) | (refine qam ?_; (refine qaa (qag rfl) rfl ?_ ?_ ?_); rfl; rfl) | (refine qau ?_; (refine qaa (qaj rfl) rfl ?_ ?_ ?_); rfl; rfl) | (refine qai ?_; (refine qaa (qae rfl) rfl ?_ ?_ ?_); rfl; rfl) | (refine qaK ?_; (first | refine qaa (qaI rfl rfl (by omega)) rfl ?_ ?_ ?_ | refine qaa (qaH rfl rfl (by omega)) rfl ?_ ?_ ?_ | refine qaa (qay rfl rfl (by first | assumption | with_reducible rfl | decide)) rfl ?_ ?_ ?_); rfl; rfl) | (refine l_neq ?_; (refine qaa (OpW.neqT rfl rfl (by omega)) rfl ?_ ?_ ?_); rfl; rfl) | (refine l_not ?_; (refine qaa (OpW.not rfl) rfl ?_ ?_ ?_); rfl; rfl) | (refine qaR ?_; (refine qaa (qax rfl rfl rfl) rfl ?_ ?_ ?_); rfl; rfl) | (refine qaT ?_; refine SXl.alloc ?_ ?_ (fun g => ?_); rfl; rfl) | (refine l_box ?_; refine qaV ?_ ?_ rfl rfl (fun g => ?_); rfl; rfl) | (refine qaD ?_; first | ((first | refine qah 0 ?_ rfl rfl rfl rfl rfl rfl ?_ | refine qah 1 ?_ rfl rfl rfl rfl rfl rfl ?_ | refine qah 2 ?_ rfl rfl rfl rfl rfl rfl ?_); rfl; simp only [List.set_cons_zero, List.set_cons_succ]) | ((first | refine qad 0 ?_ rfl rfl rfl rfl rfl rfl rfl ?_ | refine qad 1 ?_ rfl rfl rfl rfl rfl rfl rfl ?_ | refine qad 2 ?_ rfl rfl rfl rfl rfl rfl rfl ?_); rfl; simp only [List.set_cons_zero, List.set_cons_succ]) | ((first | refine qac 0 ?_ rfl rfl rfl rfl rfl rfl rfl ?_ | refine qac 1 ?_ rfl rfl rfl rfl rfl rfl rfl ?_ | refine qac 2 ?_ rfl rfl rfl rfl rfl rfl rfl ?_); rfl; simp only [over, List.set_cons_zero, List.set_cons_succ])) | ((refine qaG ?_; refine SXl.lit (cells := [.int .i64 x.n, .int .i64 x.kid, .int .i64 x.pl]) (z := .int .i64 0) ?_ ?_ rfl (by decide) (by kernel_rfl) rfl (fun g => ?_); rfl; rfl)) | (rw [hw]) | (rw [hh]) | ((refine qaG ?_; refine SXl.lit (cells := [.string ⟨([116, 97, 98, 108, 101]).toArray⟩, .string ⟨(Lib.itoa x.n).toArray⟩, .string ⟨(ruleTextOf x.rules).toArray⟩]) (z := .string ⟨#[]⟩) ?_ ?_ rfl (by decide) (by kernel_rfl) rfl (fun g => ?_); rfl; rfl)) | refine qav ?_ | refine qar ?_)
      refine qaC rfl rfl (fun w' hl => ⟨rfl, hl.mod⟩)
    · rw [actLine_6 (fun e => hx (e.trans hy))]
      simp only [decide_eq_false hx] at hE
      repeat (first | refine qap ?_ | refine qak ?_ | refine qaf ?_ | refine qab ?_ | refine SX.block ?_ | refine qaE ?_ | refine qao rfl ?_ | refine qas rfl ?_ | (refine qaA ?_; (first | refine qaa (qal rfl (fun w hl => hO _)) rfl ?_ ?_ ?_ | refine qaa (qal rfl (fun w hl => hN _ _ (hl.blk _ (.head _)).2)) rfl ?_ ?_ ?_ | refine qaa (qal rfl (fun w hl => dn _ (ht.keep hl.mod))) rfl ?_ ?_ ?_ | refine qaa (qal rfl (fun w hl => hX _ hl.mod)) rfl ?_ ?_ ?_ | refine qaa (qal rfl (fun w hl => hE _ hl.mod)) rfl ?_ ?_ ?_ | refine qaa (OpW.calls rfl (fun w _ => in_any _ _ _ _)) rfl ?_ ?_ ?_); rfl; rfl) | (refine qaO ?_; (refine qaa ((qaz (vals := [(0, .int .i64 x.kind)]) (cells := [.int .i64 x.kind, .int .i64 0, .int .i64 0, .int .i64 0, .string ⟨#[]⟩, .int .i64 0, .int .i64 0, .slice none 0 0, .int .i64 0, .int .i64 0, .bool false]) rfl (by kernel_rfl))) rfl ?_ ?_ ?_); rfl; rfl) | (refine qaF ?_; (first | refine qaa (qat 0 rfl rfl rfl) rfl ?_ ?_ ?_ | refine qaa (qat 1 rfl rfl rfl) rfl ?_ ?_ ?_ | refine qaa (qat 2 rfl rfl rfl) rfl ?_ ?_ ?_ | refine qaa (qaq 0 rfl rfl rfl) rfl ?_ ?_ ?_ | refine qaa (qaq 1 rfl rfl rfl) rfl ?_ ?_ ?_ | refine qaa (qaq 3 rfl rfl rfl) rfl ?_ ?_ ?_ | refine qaa (qaJ 2 rfl rfl rfl rfl) rfl ?_ ?_ ?_); rfl; rfl) | (refine qam ?_; (refine qaa (qag rfl) rfl ?_ ?_ ?_); rfl; rfl) | (refine qau ?_; (refine qaa (qaj rfl) rfl ?_ ?_ ?_); rfl; rfl) | (refine qai ?_; (refine qaa (qae rfl) rfl ?_ ?_ ?_); rfl; rfl) | (refine qaK ?_; (first | refine qaa (qaI rfl rfl (by omega)) rfl ?_ ?_ ?_ | refine qaa (qaH rfl rfl (by omega)) rfl ?_ ?_ ?_ | refine qaa (qay rfl rfl (by first | assumption | with_reducible rfl | decide)) rfl ?_ ?_ ?_); rfl; rfl) | (refine l_neq ?_; (refine qaa (OpW.neqT rfl rfl (by omega)) rfl ?_ ?_ ?_); rfl; rfl) | (refine l_not ?_; (refine qaa (OpW.not rfl) rfl ?_ ?_ ?_); rfl; rfl) | (refine qaR ?_; (refine qaa (qax rfl rfl rfl) rfl ?_ ?_ ?_); rfl; rfl) | (refine qaT ?_; refine SXl.alloc ?_ ?_ (fun g => ?_); rfl; rfl) | (refine l_box ?_; refine qaV ?_ ?_ rfl rfl (fun g => ?_); rfl; rfl) | (refine qaD ?_; first | ((first | refine qah 0 ?_ rfl rfl rfl rfl rfl rfl ?_ | refine qah 1 ?_ rfl rfl rfl rfl rfl rfl ?_ | refine qah 2 ?_ rfl rfl rfl rfl rfl rfl ?_); rfl; simp only [List.set_cons_zero, List.set_cons_succ]) | ((first | refine qad 0 ?_ rfl rfl rfl rfl rfl rfl rfl ?_ | refine qad 1 ?_ rfl rfl rfl rfl rfl rfl rfl ?_ | refine qad 2 ?_ rfl rfl rfl rfl rfl rfl rfl ?_); rfl; simp only [List.set_cons_zero, List.set_cons_succ]) | ((first | refine qac 0 ?_ rfl rfl rfl rfl rfl rfl rfl ?_ | refine qac 1 ?_ rfl rfl rfl rfl rfl rfl rfl ?_ | refine qac 2 ?_ rfl rfl rfl rfl rfl rfl rfl ?_); rfl; simp only [over, List.set_cons_zero, List.set_cons_succ])) | ((refine qaG ?_; refine SXl.lit (cells := [.int .i64 x.n, .int .i64 x.kid, .int .i64 x.pl]) (z := .int .i64 0) ?_ ?_ rfl (by decide) (by kernel_rfl) rfl (fun g => ?_); rfl; rfl)) | (rw [hw]) | (rw [hh]) | ((refine qaG ?_; refine SXl.lit (cells := [.string ⟨([116, 97, 98, 108, 101]).toArray⟩, .string ⟨(Lib.itoa x.n).toArray⟩, .string ⟨(ruleTextOf x.rules).toArray⟩]) (z := .string ⟨#[]⟩) ?_ ?_ rfl (by decide) (by kernel_rfl) rfl (fun g => ?_); rfl; rfl)) | refine qav ?_ | refine qan ?_ | refine qar ?_)
      refine qaC rfl rfl (fun w' hl => ⟨rfl, hl.mod⟩)
  · have hy : onlyA x = ⟨x.kind, x.n, 0, 0, [], ⟨0, 0⟩, [], 0, 0, false⟩ := by simp [onlyA, hk]
    have hp : actParts x = [[100, 105, 114, 116, 121], Lib.itoa x.n] := by simp [actParts, hk]
    have hE := fun w' (hm : Mod (fun _ => False) w w') => hS ⟨x.kind, x.n, 0, 0, [], ⟨0, 0⟩, [], 0, 0, false⟩ none 0 (fun _ => False) _ hm (by simp) slice0
    have hT : toldA x = true := by simp [toldA, hk]
    by_cases hx : x = ⟨x.kind, x.n, 0, 0, [], ⟨0, 0⟩, [], 0, 0, false⟩
    · rw [actLine_y ho hft hw hh hT (hx.trans hy.symm), hp]
      simp only [decide_eq_true hx] at hE
      repeat (first | refine qap ?_ | refine qak ?_ | refine qaf ?_ | refine qab ?_ | refine SX.block ?_ | refine qaE ?_ | refine qao rfl ?_ | refine qas rfl ?_ | (refine qaA ?_; (first | refine qaa (qal rfl (fun w hl => hO _)) rfl ?_ ?_ ?_ | refine qaa (qal rfl (fun w hl => hN _ _ (hl.blk _ (.head _)).2)) rfl ?_ ?_ ?_ | refine qaa (qal rfl (fun w hl => dn _ (ht.keep hl.mod))) rfl ?_ ?_ ?_ | refine qaa (qal rfl (fun w hl => hE _ hl.mod)) rfl ?_ ?_ ?_ | refine qaa (qal rfl (fun w hl => join_lit [[100, 105, 114, 116, 121], Lib.itoa x.n] hl (by simp) (by simp only [Lib.join_cons, Lib.joinTail, List.map_cons, List.map_nil, List.flatten_cons, List.flatten_nil, List.length_append, List.length_cons, List.length_nil]; omega))) rfl ?_ ?_ ?_ | refine qaa (OpW.calls rfl (fun w _ => in_any _ _ _ _)) rfl ?_ ?_ ?_); rfl; rfl) | (refine qaO ?_; (refine qaa ((qaz (vals := [(0, .int .i64 x.kind)]) (cells := [.int .i64 x.kind, .int .i64 0, .int .i64 0, .int .i64 0, .string ⟨#[]⟩, .int .i64 0, .int .i64 0, .slice none 0 0, .int .i64 0, .int .i64 0, .bool false]) rfl (by kernel_rfl))) rfl ?_ ?_ ?_); rfl; rfl) | (refine qaF ?_; (first | refine qaa (qat 0 rfl rfl rfl) rfl ?_ ?_ ?_ | refine qaa (qat 1 rfl rfl rfl) rfl ?_ ?_ ?_ | refine qaa (qat 2 rfl rfl rfl) rfl ?_ ?_ ?_ | refine qaa (qaq 0 rfl rfl rfl) rfl ?_ ?_ ?_ | refine qaa (qaq 1 rfl rfl rfl) rfl ?_ ?_ ?_ | refine qaa (qaq 3 rfl rfl rfl) rfl ?_ ?_ ?_); rfl; rfl) | (refine qam ?_; (refine qaa (qag rfl) rfl ?_ ?_ ?_); rfl; rfl) | (refine qau ?_; (refine qaa (qaj rfl) rfl ?_ ?_ ?_); rfl; rfl) | (refine qai ?_; (refine qaa (qae rfl) rfl ?_ ?_ ?_); rfl; rfl) | (refine qaK ?_; (first | refine qaa (qaI rfl rfl (by omega)) rfl ?_ ?_ ?_ | refine qaa (qaH rfl rfl (by omega)) rfl ?_ ?_ ?_); rfl; rfl) | (refine l_neq ?_; (refine qaa (OpW.neqT rfl rfl (by omega)) rfl ?_ ?_ ?_); rfl; rfl) | (refine l_not ?_; (refine qaa (OpW.not rfl) rfl ?_ ?_ ?_); rfl; rfl) | (refine qaR ?_; (refine qaa (qax rfl rfl rfl) rfl ?_ ?_ ?_); rfl; rfl) | (refine qaT ?_; refine SXl.alloc ?_ ?_ (fun g => ?_); rfl; rfl) | (refine l_box ?_; refine qaV ?_ ?_ rfl rfl (fun g => ?_); rfl; rfl) | (refine qaD ?_; first | ((first | refine qah 0 ?_ rfl rfl rfl rfl rfl rfl ?_ | refine qah 1 ?_ rfl rfl rfl rfl rfl rfl ?_ | refine qah 2 ?_ rfl rfl rfl rfl rfl rfl ?_); rfl; simp only [List.set_cons_zero, List.set_cons_succ]) | ((first | refine qad 0 ?_ rfl rfl rfl rfl rfl rfl rfl ?_ | refine qad 1 ?_ rfl rfl rfl rfl rfl rfl rfl ?_ | refine qad 2 ?_ rfl rfl rfl rfl rfl rfl rfl ?_); rfl; simp only [List.set_cons_zero, List.set_cons_succ]) | ((first | refine qac 0 ?_ rfl rfl rfl rfl rfl rfl rfl ?_ | refine qac 1 ?_ rfl rfl rfl rfl rfl rfl rfl ?_ | refine qac 2 ?_ rfl rfl rfl rfl rfl rfl rfl ?_); rfl; simp only [over, List.set_cons_zero, List.set_cons_succ])) | ((refine qaG ?_; refine SXl.lit (cells := [.int .i64 x.n, .int .i64 x.kid, .int .i64 x.pl]) (z := .int .i64 0) ?_ ?_ rfl (by decide) (by kernel_rfl) rfl (fun g => ?_); rfl; rfl)) | (rw [hw]) | (rw [hh]) | ((refine qaG ?_; refine SXl.lit (cells := [.string ⟨([100, 105, 114, 116, 121]).toArray⟩, .string ⟨(Lib.itoa x.n).toArray⟩]) (z := .string ⟨#[]⟩) ?_ ?_ rfl (by decide) (by kernel_rfl) rfl (fun g => ?_); rfl; rfl)) | refine qav ?_ | refine qar ?_)
      refine qaC rfl rfl (fun w' hl => ⟨rfl, hl.mod⟩)
    · rw [actLine_6 (fun e => hx (e.trans hy))]
      simp only [decide_eq_false hx] at hE
      repeat (first | refine qap ?_ | refine qak ?_ | refine qaf ?_ | refine qab ?_ | refine SX.block ?_ | refine qaE ?_ | refine qao rfl ?_ | refine qas rfl ?_ | (refine qaA ?_; (first | refine qaa (qal rfl (fun w hl => hO _)) rfl ?_ ?_ ?_ | refine qaa (qal rfl (fun w hl => hN _ _ (hl.blk _ (.head _)).2)) rfl ?_ ?_ ?_ | refine qaa (qal rfl (fun w hl => dn _ (ht.keep hl.mod))) rfl ?_ ?_ ?_ | refine qaa (qal rfl (fun w hl => hE _ hl.mod)) rfl ?_ ?_ ?_ | refine qaa (OpW.calls rfl (fun w _ => in_any _ _ _ _)) rfl ?_ ?_ ?_); rfl; rfl) | (refine qaO ?_; (refine qaa ((qaz (vals := [(0, .int .i64 x.kind)]) (cells := [.int .i64 x.kind, .int .i64 0, .int .i64 0, .int .i64 0, .string ⟨#[]⟩, .int .i64 0, .int .i64 0, .slice none 0 0, .int .i64 0, .int .i64 0, .bool false]) rfl (by kernel_rfl))) rfl ?_ ?_ ?_); rfl; rfl) | (refine qaF ?_; (first | refine qaa (qat 0 rfl rfl rfl) rfl ?_ ?_ ?_ | refine qaa (qat 1 rfl rfl rfl) rfl ?_ ?_ ?_ | refine qaa (qat 2 rfl rfl rfl) rfl ?_ ?_ ?_ | refine qaa (qaq 0 rfl rfl rfl) rfl ?_ ?_ ?_ | refine qaa (qaq 1 rfl rfl rfl) rfl ?_ ?_ ?_ | refine qaa (qaq 3 rfl rfl rfl) rfl ?_ ?_ ?_); rfl; rfl) | (refine qam ?_; (refine qaa (qag rfl) rfl ?_ ?_ ?_); rfl; rfl) | (refine qau ?_; (refine qaa (qaj rfl) rfl ?_ ?_ ?_); rfl; rfl) | (refine qai ?_; (refine qaa (qae rfl) rfl ?_ ?_ ?_); rfl; rfl) | (refine qaK ?_; (first | refine qaa (qaI rfl rfl (by omega)) rfl ?_ ?_ ?_ | refine qaa (qaH rfl rfl (by omega)) rfl ?_ ?_ ?_); rfl; rfl) | (refine l_neq ?_; (refine qaa (OpW.neqT rfl rfl (by omega)) rfl ?_ ?_ ?_); rfl; rfl) | (refine l_not ?_; (refine qaa (OpW.not rfl) rfl ?_ ?_ ?_); rfl; rfl) | (refine qaR ?_; (refine qaa (qax rfl rfl rfl) rfl ?_ ?_ ?_); rfl; rfl) | (refine qaT ?_; refine SXl.alloc ?_ ?_ (fun g => ?_); rfl; rfl) | (refine l_box ?_; refine qaV ?_ ?_ rfl rfl (fun g => ?_); rfl; rfl) | (refine qaD ?_; first | ((first | refine qah 0 ?_ rfl rfl rfl rfl rfl rfl ?_ | refine qah 1 ?_ rfl rfl rfl rfl rfl rfl ?_ | refine qah 2 ?_ rfl rfl rfl rfl rfl rfl ?_); rfl; simp only [List.set_cons_zero, List.set_cons_succ]) | ((first | refine qad 0 ?_ rfl rfl rfl rfl rfl rfl rfl ?_ | refine qad 1 ?_ rfl rfl rfl rfl rfl rfl rfl ?_ | refine qad 2 ?_ rfl rfl rfl rfl rfl rfl rfl ?_); rfl; simp only [List.set_cons_zero, List.set_cons_succ]) | ((first | refine qac 0 ?_ rfl rfl rfl rfl rfl rfl rfl ?_ | refine qac 1 ?_ rfl rfl rfl rfl rfl rfl rfl ?_ | refine qac 2 ?_ rfl rfl rfl rfl rfl rfl rfl ?_); rfl; simp only [over, List.set_cons_zero, List.set_cons_succ])) | ((refine qaG ?_; refine SXl.lit (cells := [.int .i64 x.n, .int .i64 x.kid, .int .i64 x.pl]) (z := .int .i64 0) ?_ ?_ rfl (by decide) (by kernel_rfl) rfl (fun g => ?_); rfl; rfl)) | (rw [hw]) | (rw [hh]) | ((refine qaG ?_; refine SXl.lit (cells := [.string ⟨([100, 105, 114, 116, 121]).toArray⟩, .string ⟨(Lib.itoa x.n).toArray⟩]) (z := .string ⟨#[]⟩) ?_ ?_ rfl (by decide) (by kernel_rfl) rfl (fun g => ?_); rfl; rfl)) | refine qav ?_ | refine qan ?_ | refine qar ?_)
      refine qaC rfl rfl (fun w' hl => ⟨rfl, hl.mod⟩)
  · have hy : onlyA x = ⟨x.kind, x.n, 0, 0, [], ⟨0, 0⟩, [], x.wide, x.high, x.rtl⟩ := by simp [onlyA, hk]
    have hp : actParts x = [[108, 97, 121], Lib.itoa x.n, sizeW x.wide, sizeW x.high, dirW x.rtl] := by simp [actParts, hk]
    have hE := fun w' (hm : Mod (fun _ => False) w w') => hS ⟨x.kind, x.n, 0, 0, [], ⟨0, 0⟩, [], x.wide, x.high, x.rtl⟩ none 0 (fun _ => False) _ hm (by simp) slice0
    have hs1 := sizeW_short hw
    have hs2 := sizeW_short hh
    have hs3 := dirW_short x.rtl
    have dw := fun w h => sizeWord_any x.wide ⟨by omega, by omega⟩ w h
    have dh := fun w h => sizeWord_any x.high ⟨by omega, by omega⟩ w h
    repeat (first | refine qap ?_ | refine qak ?_ | refine qaf ?_ | refine qab ?_ | refine SX.block ?_ | refine qaE ?_ | refine qao rfl ?_ | refine qas rfl ?_ | (refine qaA ?_; (first | refine qaa (qal rfl (fun w hl => hO _)) rfl ?_ ?_ ?_ | refine qaa (qal rfl (fun w hl => hN _ _ (hl.blk _ (.head _)).2)) rfl ?_ ?_ ?_ | refine qaa (qal rfl (fun w hl => dn _ (ht.keep hl.mod))) rfl ?_ ?_ ?_ | refine qaa (OpW.calls rfl (fun w _ => in_any _ _ _ _)) rfl ?_ ?_ ?_); rfl; rfl) | (refine qaO ?_; (refine qaa ((qaz (vals := [(0, .int .i64 x.kind)]) (cells := [.int .i64 x.kind, .int .i64 0, .int .i64 0, .int .i64 0, .string ⟨#[]⟩, .int .i64 0, .int .i64 0, .slice none 0 0, .int .i64 0, .int .i64 0, .bool false]) rfl (by kernel_rfl))) rfl ?_ ?_ ?_); rfl; rfl) | (refine qaF ?_; (first | refine qaa (qat 0 rfl rfl rfl) rfl ?_ ?_ ?_ | refine qaa (qat 1 rfl rfl rfl) rfl ?_ ?_ ?_ | refine qaa (qat 2 rfl rfl rfl) rfl ?_ ?_ ?_ | refine qaa (qaq 0 rfl rfl rfl) rfl ?_ ?_ ?_); rfl; rfl) | (refine qam ?_; (refine qaa (qag rfl) rfl ?_ ?_ ?_); rfl; rfl) | (refine qau ?_; (refine qaa (qaj rfl) rfl ?_ ?_ ?_); rfl; rfl) | (refine qai ?_; (refine qaa (qae rfl) rfl ?_ ?_ ?_); rfl; rfl) | (refine qaK ?_; (first | refine qaa (qaI rfl rfl (by omega)) rfl ?_ ?_ ?_ | refine qaa (qaH rfl rfl (by omega)) rfl ?_ ?_ ?_); rfl; rfl) | (refine l_neq ?_; (refine qaa (OpW.neqT rfl rfl (by omega)) rfl ?_ ?_ ?_); rfl; rfl) | (refine l_not ?_; (refine qaa (OpW.not rfl) rfl ?_ ?_ ?_); rfl; rfl) | (refine qaR ?_; (refine qaa (qax rfl rfl rfl) rfl ?_ ?_ ?_); rfl; rfl) | (refine qaT ?_; refine SXl.alloc ?_ ?_ (fun g => ?_); rfl; rfl) | (refine l_box ?_; refine qaV ?_ ?_ rfl rfl (fun g => ?_); rfl; rfl) | (refine qaD ?_; first | ((first | refine qah 0 ?_ rfl rfl rfl rfl rfl rfl ?_ | refine qah 1 ?_ rfl rfl rfl rfl rfl rfl ?_ | refine qah 2 ?_ rfl rfl rfl rfl rfl rfl ?_); rfl; simp only [List.set_cons_zero, List.set_cons_succ]) | ((first | refine qad 0 ?_ rfl rfl rfl rfl rfl rfl rfl ?_ | refine qad 1 ?_ rfl rfl rfl rfl rfl rfl rfl ?_ | refine qad 2 ?_ rfl rfl rfl rfl rfl rfl rfl ?_); rfl; simp only [List.set_cons_zero, List.set_cons_succ]) | ((first | refine qac 0 ?_ rfl rfl rfl rfl rfl rfl rfl ?_ | refine qac 1 ?_ rfl rfl rfl rfl rfl rfl rfl ?_ | refine qac 2 ?_ rfl rfl rfl rfl rfl rfl rfl ?_); rfl; simp only [over, List.set_cons_zero, List.set_cons_succ])) | ((refine qaG ?_; refine SXl.lit (cells := [.int .i64 x.n, .int .i64 x.kid, .int .i64 x.pl]) (z := .int .i64 0) ?_ ?_ rfl (by decide) (by kernel_rfl) rfl (fun g => ?_); rfl; rfl)) | (rw [hw]) | (rw [hh]))
    refine SX.drawnCT 10 0 [[.int .i64 x.kind, .int .i64 x.n, .int .i64 0, .int .i64 0, .string ⟨#[]⟩, .int .i64 0, .int .i64 0, .slice none 0 0, .int .i64 0, .int .i64 0, .bool false], [.int .i64 x.kind, .int .i64 x.n, .int .i64 0, .int .i64 0, .string ⟨#[]⟩, .int .i64 0, .int .i64 0, .slice none 0 0, .int .i64 x.wide, .int .i64 0, .bool false], [.int .i64 x.kind, .int .i64 x.n, .int .i64 0, .int .i64 0, .string ⟨#[]⟩, .int .i64 0, .int .i64 0, .slice none 0 0, .int .i64 x.wide, .int .i64 x.high, .bool false]] rfl rfl rfl (by kernel_rfl) (by kernel_rfl) (by kernel_rfl) (fun hf => ?_)
    repeat (first | (refine SXc.store0 hf rfl rfl rfl (by simp) rfl rfl ?_) | (refine SXc.store 1 7 (by kernel_rfl) (.head _) hf rfl rfl rfl (by simp) rfl rfl ?_) | (refine SXc.v (qat 1 rfl rfl rfl) rfl rfl rfl ?_) | (refine SXc.v (qag rfl) rfl rfl rfl ?_))
    refine SXc.tail 9 2 hf (.head _) rfl rfl ?_
    repeat (first | refine qak ?_ | refine qab ?_ | (refine qam ?_; (refine qaa (qag rfl) rfl ?_ ?_ ?_); rfl; rfl) | (refine qaD ?_; first | ((first | refine qah 0 ?_ rfl rfl rfl rfl rfl rfl ?_ | refine qah 1 ?_ rfl rfl rfl rfl rfl rfl ?_ | refine qah 2 ?_ rfl rfl rfl rfl rfl rfl ?_); rfl; simp only [List.set_cons_zero, List.set_cons_succ]) | ((first | refine qad 0 ?_ rfl rfl rfl rfl rfl rfl rfl ?_ | refine qad 1 ?_ rfl rfl rfl rfl rfl rfl rfl ?_ | refine qad 2 ?_ rfl rfl rfl rfl rfl rfl rfl ?_); rfl; simp only [List.set_cons_zero, List.set_cons_succ]) | ((first | refine qac 0 ?_ rfl rfl rfl rfl rfl rfl rfl ?_ | refine qac 1 ?_ rfl rfl rfl rfl rfl rfl rfl ?_ | refine qac 2 ?_ rfl rfl rfl rfl rfl rfl rfl ?_); rfl; simp only [over, List.set_cons_zero, List.set_cons_succ])))
    refine SX.drawnTail 10 (by kernel_rfl) (by kernel_rfl) (by kernel_rfl) ?_
    repeat (first | refine SXr.nil ?_ | (refine r_call ?_; (first | refine SXr.v (qal (args := [.int .i64 x.wide]) rfl (fun w hl => dw _ (ht.keep hl.mod))) rfl ?_ ?_ ?_ | refine SXr.v (qal (args := [.int .i64 x.high]) rfl (fun w hl => dh _ (ht.keep hl.mod))) rfl ?_ ?_ ?_ | refine SXr.v (qal rfl (fun w hl => dirWord_any' x.rtl _)) rfl ?_ ?_ ?_); rfl; rfl) | (refine r_load ?_; (refine SXr.v (qat 2 rfl rfl rfl) rfl ?_ ?_ ?_); rfl; rfl) | (refine r_fieldAddr ?_; (refine SXr.v (qag rfl) rfl ?_ ?_ ?_); rfl; rfl) | (refine r_move ?_; (refine SXr.v (qaj rfl) rfl ?_ ?_ ?_); rfl; rfl))
    refine SQ.tail ?_
    have hT : toldA x = true := by simp [toldA, hk]
    by_cases hx : x = ⟨x.kind, x.n, 0, 0, [], ⟨0, 0⟩, [], x.wide, x.high, x.rtl⟩
    · rw [actLine_y ho hft hw hh hT (hx.trans hy.symm), hp]
      simp only [decide_eq_true hx] at hE
      repeat (first | refine qap ?_ | refine qak ?_ | refine qaf ?_ | refine qab ?_ | refine qaE ?_ | refine qas rfl ?_ | (refine qaA ?_; (first | refine qaa (qal rfl (fun w hl => hE _ hl.mod)) rfl ?_ ?_ ?_ | refine qaa (qal rfl (fun w hl => join_lit [[108, 97, 121], Lib.itoa x.n, sizeW x.wide, sizeW x.high, dirW x.rtl] hl (by simp) (by simp only [Lib.join_cons, Lib.joinTail, List.map_cons, List.map_nil, List.flatten_cons, List.flatten_nil, List.length_append, List.length_cons, List.length_nil]; omega))) rfl ?_ ?_ ?_); rfl; rfl) | (refine qaF ?_; (first | refine qaa (qaq 1 rfl rfl rfl) rfl ?_ ?_ ?_ | refine qaa (qaq 3 rfl rfl rfl) rfl ?_ ?_ ?_); rfl; rfl) | (refine qau ?_; (refine qaa (qaj rfl) rfl ?_ ?_ ?_); rfl; rfl) | (refine qai ?_; (refine qaa (qae rfl) rfl ?_ ?_ ?_); rfl; rfl) | (refine l_not ?_; (refine qaa (OpW.not rfl) rfl ?_ ?_ ?_); rfl; rfl) | ((refine qaG ?_; refine SXl.lit (cells := [.string ⟨([108, 97, 121]).toArray⟩, .string ⟨(Lib.itoa x.n).toArray⟩, .string ⟨(sizeW x.wide).toArray⟩, .string ⟨(sizeW x.high).toArray⟩, .string ⟨(dirW x.rtl).toArray⟩]) (z := .string ⟨#[]⟩) ?_ ?_ rfl (by decide) (by kernel_rfl) rfl (fun g => ?_); rfl; rfl)) | refine qav ?_ | refine qar ?_)
      refine qaC rfl rfl (fun w' hl => ⟨rfl, hl.mod⟩)
    · rw [actLine_6 (fun e => hx (e.trans hy))]
      simp only [decide_eq_false hx] at hE
      repeat (first | refine qap ?_ | refine qak ?_ | refine qaf ?_ | refine qab ?_ | refine qao rfl ?_ | (refine qaA ?_; (refine qaa (qal rfl (fun w hl => hE _ hl.mod)) rfl ?_ ?_ ?_); rfl; rfl) | (refine qaF ?_; (first | refine qaa (qaq 1 rfl rfl rfl) rfl ?_ ?_ ?_ | refine qaa (qaq 3 rfl rfl rfl) rfl ?_ ?_ ?_); rfl; rfl) | (refine qai ?_; (refine qaa (qae rfl) rfl ?_ ?_ ?_); rfl; rfl) | (refine l_not ?_; (refine qaa (OpW.not rfl) rfl ?_ ?_ ?_); rfl; rfl) | ((refine qaG ?_; refine SXl.lit (cells := [.string ⟨([108, 97, 121]).toArray⟩, .string ⟨(Lib.itoa x.n).toArray⟩, .string ⟨(sizeW x.wide).toArray⟩, .string ⟨(sizeW x.high).toArray⟩, .string ⟨(dirW x.rtl).toArray⟩]) (z := .string ⟨#[]⟩) ?_ ?_ rfl (by decide) (by kernel_rfl) rfl (fun g => ?_); rfl; rfl)) | refine qav ?_ | refine qan ?_ | refine qar ?_)
      refine qaC rfl rfl (fun w' hl => ⟨rfl, hl.mod⟩)
end Go.Proofs.YtkkjjhooamlljaaGreatDoor
