/-
  PROVED: contracts of functions and words on memory, several texts put together: what each says stands at its theorems. Conditions: as told there.
-/
import Derived.Test.YthffgbhphjkdeaaMCb
import Derived.Test.YthffgbhphjkdeaaChecked
import Derived.Deep.QuietTactic
import Derived.BigQuiet
import Derived.Outline
import Derived.WalkLawsBesides
import Derived.Laws.OwnMore
import Derived.Deep.Onto
set_option linter.unusedVariables false
set_option linter.unusedSimpArgs false
namespace Go.Proofs.Ythffgbhphjkdeaa
open Go.RowKit
set_option linter.unusedVariables false
set_option linter.unusedSimpArgs false

def ruleOk (x : Rule) : Bool := inB x.room (-1) 1048576 && inB x.wide 0 1048576 && inB x.high 0 1048576
def tableOk (l : List Rule) : Bool := inB (l.length : Int) 1 6 && l.all ruleOk
theorem tableOk_no {l : List Rule} {k : Nat} {x : Rule} (hx : l[k]? = some x) (h : ruleOk x = false) : tableOk l = false := by
  have : l.all ruleOk = false := by
    rw [List.all_eq_false]
    exact ⟨x, List.mem_of_getElem? hx, by simp [h]⟩
  simp [tableOk, this]
theorem allTo_succ {l : List Rule} {k : Nat} {x : Rule} (hs : ∀ i x, i < k → l[i]? = some x → ruleOk x = true) (hx : l[k]? = some x) (h : ruleOk x = true) : ∀ i x, i < k + 1 → l[i]? = some x → ruleOk x = true := by
  intro i y hi hy
  by_cases e : i = k
  · subst e; rw [hx] at hy; cases hy; exact h
  · exact hs i y (by omega) hy
theorem all_of {l : List Rule} {k : Nat} (hs : ∀ i x, i < k → l[i]? = some x → ruleOk x = true) (hk : l.length ≤ k) : l.all ruleOk = true := by
  rw [List.all_eq_true]
  intro x hx
  obtain ⟨i, hi⟩ := List.mem_iff_getElem?.1 hx
  exact hs i x (by have := (List.getElem?_eq_some_iff.1 hi).1; omega) hi

set_option maxRecDepth 100000 in
set_option maxHeartbeats 4000000 in
theorem tableOk_any (l : List Rule) (a : Option Addr) (c : Nat) (R : Nat → Prop) (w : World) (hlen : l.length ≤ 1048576) (h : SliceAt (Flat Rule.cells) 3 R w a l) :
    Calls Try.prog 83 #[.agg #[.slice a l.length c]] w fun e w' => e = .returned (.bool (tableOk l)) ∧ Mod (fun _ => False) w w' := by
  refine calls_sx Try.func83 rfl rfl (fun a h1 h2 h3 => ((Fr.nil h1 h2).arg (h3 0 _ rfl))) ?_
  cases qn : inB (l.length : Int) 1 6
  · repeat (first | refine SX.seq ?_ | refine SXl.nil ?_ | refine SX.region ?_ | refine SQ.thenNormal ?_ | refine SX.condT rfl ?_ | (refine l_call ?_; (refine SXl.v (OpW.calls rfl (fun w _ => in_any _ _ _ _)) rfl ?_ ?_ ?_); rfl; rfl) | (refine l_load ?_; (refine SXl.v (OpW.load 0 rfl rfl rfl) rfl ?_ ?_ ?_); rfl; rfl) | (refine l_fieldAddr ?_; (refine SXl.v (OpW.fieldAddr rfl) rfl ?_ ?_ ?_); rfl; rfl) | (refine l_assign ?_; (refine SXl.v (OpW.assign rfl) rfl ?_ ?_ ?_); rfl; rfl) | (refine l_len ?_; (refine SXl.v (OpW.len rfl) rfl ?_ ?_ ?_); rfl; rfl) | (refine l_not ?_; (refine SXl.v (OpW.not rfl) rfl ?_ ?_ ?_); rfl; rfl) | (refine l_box ?_; refine SXl.box ?_ ?_ rfl rfl (fun g => ?_); rfl; rfl) | (rw [qn]) | refine SX.ret ?_ | refine SQ.thenRet ?_)
    refine SQ.body1 rfl rfl (fun w' hl => ⟨ret_bool (by symm; simp [tableOk, qn]), hl.mod⟩)
  repeat (first | refine SX.seq ?_ | refine SXl.nil ?_ | refine SX.region ?_ | refine SQ.thenNormal ?_ | refine SX.block ?_ | refine SX.skip ?_ | refine SX.condF rfl ?_ | (refine l_call ?_; (refine SXl.v (OpW.calls rfl (fun w _ => in_any _ _ _ _)) rfl ?_ ?_ ?_); rfl; rfl) | (refine l_load ?_; (refine SXl.v (OpW.load 0 rfl rfl rfl) rfl ?_ ?_ ?_); rfl; rfl) | (refine l_fieldAddr ?_; (refine SXl.v (OpW.fieldAddr rfl) rfl ?_ ?_ ?_); rfl; rfl) | (refine l_move ?_; (refine SXl.v (OpW.move rfl) rfl ?_ ?_ ?_); rfl; rfl) | (refine l_assign ?_; (refine SXl.v (OpW.assign rfl) rfl ?_ ?_ ?_); rfl; rfl) | (refine l_len ?_; (refine SXl.v (OpW.len rfl) rfl ?_ ?_ ?_); rfl; rfl) | (refine l_not ?_; (refine SXl.v (OpW.not rfl) rfl ?_ ?_ ?_); rfl; rfl) | (refine l_box ?_; refine SXl.box ?_ ?_ rfl rfl (fun g => ?_); rfl; rfl) | (rw [qn]))
  refine SX.loopi (fun k : Nat => k ≤ l.length ∧ ∀ i x, i < k → l[i]? = some x → ruleOk x = true) (fun k => l.length - k) (fun _ => [⟨g, [.slice a l.length c], 76⟩]) (fun _ => []) (fun _ => []) (fun k => [(11, .slice a l.length c), (12, .int .i64 l.length), (13, .int .i64 k)]) 0 ⟨Nat.zero_le _, fun i x h => absurd h (Nat.not_lt_zero _)⟩ ?_ (fun _ hl => hl) ?_
  · (repeat (first | exact subF_nil _ | (refine subF_cons rfl ?_) | (refine subF_consv rfl (by rfl) ?_)))
  · rintro k ⟨hk, hs⟩
    by_cases hlt : k < l.length
    · obtain ⟨b1, o1, x, r1, rfl, _, _, hxk, rfl, hl1, hc1⟩ := h.get hlt
      cases q0 : inB x.room (-1) 1048576
      · repeat (first | refine SX.seq ?_ | refine SXl.nil ?_ | refine SX.region ?_ | refine SQ.thenNormal ?_ | refine SX.block ?_ | refine SX.skip ?_ | refine SX.condT rfl ?_ | (refine SXl.no rfl rfl rfl ?_) | (refine l_load ?_; (first | refine SXl.v (OpW.loadRowOld rfl hc1 rfl (Nat.succ_pos _) (fun h => h)) rfl ?_ ?_ ?_ | refine SXl.v (OpW.load 0 rfl rfl rfl) rfl ?_ ?_ ?_); rfl; rfl) | (refine l_call ?_; (refine SXl.v (OpW.calls rfl (fun w _ => in_any _ _ _ _)) rfl ?_ ?_ ?_); rfl; rfl) | (refine l_fieldAddr ?_; (refine SXl.v (OpW.fieldAddr rfl) rfl ?_ ?_ ?_); rfl; rfl) | (refine l_move ?_; (refine SXl.v (OpW.move rfl) rfl ?_ ?_ ?_); rfl; rfl) | (refine l_assign ?_; (refine SXl.v (OpW.assign rfl) rfl ?_ ?_ ?_); rfl; rfl) | (refine l_lss ?_; (refine SXl.v (OpW.lssT rfl rfl (by omega)) rfl ?_ ?_ ?_); rfl; rfl) | (refine l_not ?_; (refine SXl.v (OpW.not rfl) rfl ?_ ?_ ?_); rfl; rfl) | (refine l_pick ?_; (refine SXl.v (OpW.pick rfl rfl rfl) rfl ?_ ?_ ?_); rfl; rfl) | (refine l_indexAddr ?_; (refine SXl.v (OpW.indexAddr (by omega) rfl rfl) rfl ?_ ?_ ?_); rfl; rfl) | (refine l_alloc ?_; refine SXl.alloc ?_ ?_ (fun g => ?_); rfl; rfl) | (refine l_store ?_; first | (refine SXl.storeAll 0 ?_ rfl rfl rfl rfl rfl rfl rfl ?_; rfl; simp only [List.set_cons_zero, List.set_cons_succ]) | (refine SXl.storeAll 1 ?_ rfl rfl rfl rfl rfl rfl rfl ?_; rfl; simp only [List.set_cons_zero, List.set_cons_succ]) | (refine SXl.storeAll 2 ?_ rfl rfl rfl rfl rfl rfl rfl ?_; rfl; simp only [List.set_cons_zero, List.set_cons_succ]) | (refine SXl.storeRow 0 ?_ rfl rfl rfl rfl rfl rfl rfl ?_; rfl; simp only [over, List.set_cons_zero, List.set_cons_succ]) | (refine SXl.storeRow 1 ?_ rfl rfl rfl rfl rfl rfl rfl ?_; rfl; simp only [over, List.set_cons_zero, List.set_cons_succ]) | (refine SXl.storeRow 2 ?_ rfl rfl rfl rfl rfl rfl rfl ?_; rfl; simp only [over, List.set_cons_zero, List.set_cons_succ])) | (rw [q0]) | refine SX.ret ?_ | refine SQ.thenRet ?_ | refine SQ.blockRet ?_)
        refine SQ.body1 rfl rfl (fun w' hl => ⟨ret_bool (by symm; exact tableOk_no hxk.out (by simp [ruleOk, q0])), hl.mod⟩)
      · cases q1 : inB x.wide 0 1048576
        · repeat (first | refine SX.seq ?_ | refine SXl.nil ?_ | refine SX.region ?_ | refine SQ.thenNormal ?_ | refine SX.block ?_ | refine SX.skip ?_ | refine SX.condT rfl ?_ | (refine SXl.no rfl rfl rfl ?_) | (refine l_load ?_; (first | refine SXl.v (OpW.loadRowOld rfl hc1 rfl (Nat.succ_pos _) (fun h => h)) rfl ?_ ?_ ?_ | refine SXl.v (OpW.load 0 rfl rfl rfl) rfl ?_ ?_ ?_); rfl; rfl) | (refine l_call ?_; (refine SXl.v (OpW.calls rfl (fun w _ => in_any _ _ _ _)) rfl ?_ ?_ ?_); rfl; rfl) | (refine l_fieldAddr ?_; (refine SXl.v (OpW.fieldAddr rfl) rfl ?_ ?_ ?_); rfl; rfl) | (refine l_move ?_; (refine SXl.v (OpW.move rfl) rfl ?_ ?_ ?_); rfl; rfl) | (refine l_assign ?_; (refine SXl.v (OpW.assign rfl) rfl ?_ ?_ ?_); rfl; rfl) | (refine l_lss ?_; (refine SXl.v (OpW.lssT rfl rfl (by omega)) rfl ?_ ?_ ?_); rfl; rfl) | (refine l_not ?_; (refine SXl.v (OpW.not rfl) rfl ?_ ?_ ?_); rfl; rfl) | (refine l_pick ?_; (refine SXl.v (OpW.pick rfl rfl rfl) rfl ?_ ?_ ?_); rfl; rfl) | (refine l_indexAddr ?_; (refine SXl.v (OpW.indexAddr (by omega) rfl rfl) rfl ?_ ?_ ?_); rfl; rfl) | (refine l_alloc ?_; refine SXl.alloc ?_ ?_ (fun g => ?_); rfl; rfl) | (refine l_store ?_; first | (refine SXl.storeAll 0 ?_ rfl rfl rfl rfl rfl rfl rfl ?_; rfl; simp only [List.set_cons_zero, List.set_cons_succ]) | (refine SXl.storeAll 1 ?_ rfl rfl rfl rfl rfl rfl rfl ?_; rfl; simp only [List.set_cons_zero, List.set_cons_succ]) | (refine SXl.storeAll 2 ?_ rfl rfl rfl rfl rfl rfl rfl ?_; rfl; simp only [List.set_cons_zero, List.set_cons_succ]) | (refine SXl.storeRow 0 ?_ rfl rfl rfl rfl rfl rfl rfl ?_; rfl; simp only [over, List.set_cons_zero, List.set_cons_succ]) | (refine SXl.storeRow 1 ?_ rfl rfl rfl rfl rfl rfl rfl ?_; rfl; simp only [over, List.set_cons_zero, List.set_cons_succ]) | (refine SXl.storeRow 2 ?_ rfl rfl rfl rfl rfl rfl rfl ?_; rfl; simp only [over, List.set_cons_zero, List.set_cons_succ])) | ((first | rw [q0] | rw [q1])) | refine SX.ret ?_ | refine SQ.thenRet ?_ | refine SQ.blockRet ?_)
          refine SQ.body1 rfl rfl (fun w' hl => ⟨ret_bool (by symm; exact tableOk_no hxk.out (by simp [ruleOk, q1])), hl.mod⟩)
        · cases q2 : inB x.high 0 1048576
          · repeat (first | refine SX.seq ?_ | refine SXl.nil ?_ | refine SX.region ?_ | refine SQ.thenNormal ?_ | refine SX.block ?_ | refine SX.skip ?_ | refine SX.condT rfl ?_ | (refine l_load ?_; (first | refine SXl.v (OpW.loadRowOld rfl hc1 rfl (Nat.succ_pos _) (fun h => h)) rfl ?_ ?_ ?_ | refine SXl.v (OpW.load 0 rfl rfl rfl) rfl ?_ ?_ ?_); rfl; rfl) | (refine l_call ?_; (refine SXl.v (OpW.calls rfl (fun w _ => in_any _ _ _ _)) rfl ?_ ?_ ?_); rfl; rfl) | (refine l_fieldAddr ?_; (refine SXl.v (OpW.fieldAddr rfl) rfl ?_ ?_ ?_); rfl; rfl) | (refine l_move ?_; (refine SXl.v (OpW.move rfl) rfl ?_ ?_ ?_); rfl; rfl) | (refine l_assign ?_; (refine SXl.v (OpW.assign rfl) rfl ?_ ?_ ?_); rfl; rfl) | (refine l_lss ?_; (refine SXl.v (OpW.lssT rfl rfl (by omega)) rfl ?_ ?_ ?_); rfl; rfl) | (refine l_not ?_; (refine SXl.v (OpW.not rfl) rfl ?_ ?_ ?_); rfl; rfl) | (refine l_pick ?_; (refine SXl.v (OpW.pick rfl rfl rfl) rfl ?_ ?_ ?_); rfl; rfl) | (refine l_indexAddr ?_; (refine SXl.v (OpW.indexAddr (by omega) rfl rfl) rfl ?_ ?_ ?_); rfl; rfl) | (refine l_alloc ?_; refine SXl.alloc ?_ ?_ (fun g => ?_); rfl; rfl) | (refine l_store ?_; first | (refine SXl.storeAll 0 ?_ rfl rfl rfl rfl rfl rfl rfl ?_; rfl; simp only [List.set_cons_zero, List.set_cons_succ]) | (refine SXl.storeAll 1 ?_ rfl rfl rfl rfl rfl rfl rfl ?_; rfl; simp only [List.set_cons_zero, List.set_cons_succ]) | (refine SXl.storeAll 2 ?_ rfl rfl rfl rfl rfl rfl rfl ?_; rfl; simp only [List.set_cons_zero, List.set_cons_succ]) | (refine SXl.storeRow 0 ?_ rfl rfl rfl rfl rfl rfl rfl ?_; rfl; simp only [over, List.set_cons_zero, List.set_cons_succ]) | (refine SXl.storeRow 1 ?_ rfl rfl rfl rfl rfl rfl rfl ?_; rfl; simp only [over, List.set_cons_zero, List.set_cons_succ]) | (refine SXl.storeRow 2 ?_ rfl rfl rfl rfl rfl rfl rfl ?_; rfl; simp only [over, List.set_cons_zero, List.set_cons_succ])) | ((first | rw [q0] | rw [q1] | rw [q2])) | refine SX.ret ?_ | refine SQ.thenRet ?_ | refine SQ.blockRet ?_)
            refine SQ.body1 rfl rfl (fun w' hl => ⟨ret_bool (by symm; exact tableOk_no hxk.out (by simp [ruleOk, q2])), hl.mod⟩)
          · repeat (first | refine SX.seq ?_ | refine SXl.nil ?_ | refine SX.region ?_ | refine SQ.thenNormal ?_ | refine SX.block ?_ | refine SX.skip ?_ | refine SX.condT rfl ?_ | refine SX.condF rfl ?_ | (refine l_load ?_; (first | refine SXl.v (OpW.loadRowOld rfl hc1 rfl (Nat.succ_pos _) (fun h => h)) rfl ?_ ?_ ?_ | refine SXl.v (OpW.load 0 rfl rfl rfl) rfl ?_ ?_ ?_); rfl; rfl) | (refine l_call ?_; (refine SXl.v (OpW.calls rfl (fun w _ => in_any _ _ _ _)) rfl ?_ ?_ ?_); rfl; rfl) | (refine l_fieldAddr ?_; (refine SXl.v (OpW.fieldAddr rfl) rfl ?_ ?_ ?_); rfl; rfl) | (refine l_move ?_; (refine SXl.v (OpW.move rfl) rfl ?_ ?_ ?_); rfl; rfl) | (refine l_add ?_; (refine SXl.v (OpW.succ rfl rfl (by omega)) rfl ?_ ?_ ?_); rfl; rfl) | (refine l_lss ?_; (refine SXl.v (OpW.lssT rfl rfl (by omega)) rfl ?_ ?_ ?_); rfl; rfl) | (refine l_not ?_; (refine SXl.v (OpW.not rfl) rfl ?_ ?_ ?_); rfl; rfl) | (refine l_pick ?_; (refine SXl.v (OpW.pick rfl rfl rfl) rfl ?_ ?_ ?_); rfl; rfl) | (refine l_indexAddr ?_; (refine SXl.v (OpW.indexAddr (by omega) rfl rfl) rfl ?_ ?_ ?_); rfl; rfl) | (refine l_alloc ?_; refine SXl.alloc ?_ ?_ (fun g => ?_); rfl; rfl) | (refine l_store ?_; first | (refine SXl.storeAll 0 ?_ rfl rfl rfl rfl rfl rfl rfl ?_; rfl; simp only [List.set_cons_zero, List.set_cons_succ]) | (refine SXl.storeAll 1 ?_ rfl rfl rfl rfl rfl rfl rfl ?_; rfl; simp only [List.set_cons_zero, List.set_cons_succ]) | (refine SXl.storeAll 2 ?_ rfl rfl rfl rfl rfl rfl rfl ?_; rfl; simp only [List.set_cons_zero, List.set_cons_succ]) | (refine SXl.storeRow 0 ?_ rfl rfl rfl rfl rfl rfl rfl ?_; rfl; simp only [over, List.set_cons_zero, List.set_cons_succ]) | (refine SXl.storeRow 1 ?_ rfl rfl rfl rfl rfl rfl rfl ?_; rfl; simp only [over, List.set_cons_zero, List.set_cons_succ]) | (refine SXl.storeRow 2 ?_ rfl rfl rfl rfl rfl rfl rfl ?_; rfl; simp only [over, List.set_cons_zero, List.set_cons_succ])) | ((first | rw [q0] | rw [q1] | rw [q2])) | refine SQ.blockNormal ?_)
            refine SQ.roundi (k + 1) ⟨by omega, allTo_succ hs hxk.out (by simp [ruleOk, q0, q1, q2])⟩ (by omega) ?_ (fun _ hl => hl.drop1)
            (repeat (first | exact subF_nil _ | (refine subF_cons rfl ?_) | (refine subF_consv rfl (by rfl) ?_)))
    · repeat (first | refine SX.seq ?_ | refine SXl.nil ?_ | refine SX.region ?_ | refine SQ.thenNormal ?_ | refine SX.condF rfl ?_ | (refine l_assign ?_; (refine SXl.v (OpW.assign rfl) rfl ?_ ?_ ?_); rfl; rfl) | (refine l_lss ?_; (refine SXl.v (OpW.lssF rfl rfl (by omega)) rfl ?_ ?_ ?_); rfl; rfl) | refine SX.ret ?_ | refine SX.exit ?_ | refine SQ.thenExit ?_ | refine SQ.blockExit ?_)
      refine SQ.body1 rfl rfl (fun w' hl => ⟨ret_bool (by symm; simp [tableOk, qn, all_of hs (by omega)]), hl.mod⟩)

set_option maxRecDepth 100000 in
set_option maxHeartbeats 4000000 in
theorem stableOk_any (l : List Rule) (a : Option Addr) (c : Nat) (R : Nat → Prop) (w : World) (hlen : l.length ≤ 1048576) (h : SliceAt (Flat Rule.cells) 3 R w a l) :
    Calls Try.prog 87 #[.agg #[.slice a l.length c]] w fun e w' => e = .returned (.bool (tableOk l)) ∧ Mod (fun _ => False) w w' := by
  refine calls_sx Try.func87 rfl rfl (fun a h1 h2 h3 => ((Fr.nil h1 h2).arg (h3 0 _ rfl))) ?_
  repeat (first | refine SX.seq ?_ | refine SXl.nil ?_ | refine SX.region ?_ | refine SQ.thenNormal ?_ | refine SX.block ?_ | (refine l_assign ?_; (refine SXl.v (OpW.assign rfl) rfl ?_ ?_ ?_); rfl; rfl) | (refine l_box ?_; refine SXl.box ?_ ?_ rfl rfl (fun g => ?_); rfl; rfl))
  refine SX.loopi (fun k : Nat => k ≤ l.length ∧ ∀ i x, i < k → l[i]? = some x → ruleOk x = true) (fun k => l.length - k) (fun _ => [⟨g, [.slice a l.length c], 76⟩]) (fun _ => []) (fun _ => []) (fun k => [(1, .pointer (some ⟨g, 0, none⟩)), (3, .int .i64 k)]) 0 ⟨Nat.zero_le _, fun i x h => absurd h (Nat.not_lt_zero _)⟩ ?_ (fun _ hl => hl) ?_
  · (repeat (first | exact subF_nil _ | (refine subF_cons rfl ?_) | (refine subF_consv rfl (by rfl) ?_)))
  · rintro k ⟨hk, hs⟩
    by_cases hlt : k < l.length
    · obtain ⟨b1, o1, x, r1, rfl, _, _, hxk, rfl, hl1, hc1⟩ := h.get hlt
      cases q0 : inB x.room (-1) 1048576
      · repeat (first | refine SX.seq ?_ | refine SXl.nil ?_ | refine SX.region ?_ | refine SQ.thenNormal ?_ | refine SX.block ?_ | refine SX.skip ?_ | refine SX.condT rfl ?_ | (refine SXl.no rfl rfl rfl ?_) | (refine l_load ?_; (first | refine SXl.v (OpW.loadRowOld rfl hc1 rfl (Nat.succ_pos _) (fun h => h)) rfl ?_ ?_ ?_ | refine SXl.v (OpW.load 0 rfl rfl rfl) rfl ?_ ?_ ?_); rfl; rfl) | (refine l_call ?_; (refine SXl.v (OpW.calls rfl (fun w _ => l01In_any _ _ _ _)) rfl ?_ ?_ ?_); rfl; rfl) | (refine l_fieldAddr ?_; (refine SXl.v (OpW.fieldAddr rfl) rfl ?_ ?_ ?_); rfl; rfl) | (refine l_move ?_; (refine SXl.v (OpW.move rfl) rfl ?_ ?_ ?_); rfl; rfl) | (refine l_assign ?_; (refine SXl.v (OpW.assign rfl) rfl ?_ ?_ ?_); rfl; rfl) | (refine l_len ?_; (refine SXl.v (OpW.len rfl) rfl ?_ ?_ ?_); rfl; rfl) | (refine l_lss ?_; (refine SXl.v (OpW.lssT rfl rfl (by omega)) rfl ?_ ?_ ?_); rfl; rfl) | (refine l_not ?_; (refine SXl.v (OpW.not rfl) rfl ?_ ?_ ?_); rfl; rfl) | (refine l_pick ?_; (refine SXl.v (OpW.pick rfl rfl rfl) rfl ?_ ?_ ?_); rfl; rfl) | (refine l_indexAddr ?_; (refine SXl.v (OpW.indexAddr (by omega) rfl rfl) rfl ?_ ?_ ?_); rfl; rfl) | (refine l_alloc ?_; refine SXl.alloc ?_ ?_ (fun g => ?_); rfl; rfl) | (refine l_store ?_; first | (refine SXl.storeAll 0 ?_ rfl rfl rfl rfl rfl rfl rfl ?_; rfl; simp only [List.set_cons_zero, List.set_cons_succ]) | (refine SXl.storeAll 1 ?_ rfl rfl rfl rfl rfl rfl rfl ?_; rfl; simp only [List.set_cons_zero, List.set_cons_succ]) | (refine SXl.storeAll 2 ?_ rfl rfl rfl rfl rfl rfl rfl ?_; rfl; simp only [List.set_cons_zero, List.set_cons_succ]) | (refine SXl.storeRow 0 ?_ rfl rfl rfl rfl rfl rfl rfl ?_; rfl; simp only [over, List.set_cons_zero, List.set_cons_succ]) | (refine SXl.storeRow 1 ?_ rfl rfl rfl rfl rfl rfl rfl ?_; rfl; simp only [over, List.set_cons_zero, List.set_cons_succ]) | (refine SXl.storeRow 2 ?_ rfl rfl rfl rfl rfl rfl rfl ?_; rfl; simp only [over, List.set_cons_zero, List.set_cons_succ])) | (rw [q0]) | refine SX.ret ?_ | refine SQ.thenRet ?_ | refine SQ.blockRet ?_)
        refine SQ.body1 rfl rfl (fun w' hl => ⟨ret_bool (by symm; exact tableOk_no hxk.out (by simp [ruleOk, q0])), hl.mod⟩)
      · cases q1 : inB x.wide 0 1048576
        · repeat (first | refine SX.seq ?_ | refine SXl.nil ?_ | refine SX.region ?_ | refine SQ.thenNormal ?_ | refine SX.block ?_ | refine SX.skip ?_ | refine SX.condT rfl ?_ | (refine SXl.no rfl rfl rfl ?_) | (refine l_load ?_; (first | refine SXl.v (OpW.loadRowOld rfl hc1 rfl (Nat.succ_pos _) (fun h => h)) rfl ?_ ?_ ?_ | refine SXl.v (OpW.load 0 rfl rfl rfl) rfl ?_ ?_ ?_); rfl; rfl) | (refine l_call ?_; (refine SXl.v (OpW.calls rfl (fun w _ => l01In_any _ _ _ _)) rfl ?_ ?_ ?_); rfl; rfl) | (refine l_fieldAddr ?_; (refine SXl.v (OpW.fieldAddr rfl) rfl ?_ ?_ ?_); rfl; rfl) | (refine l_move ?_; (refine SXl.v (OpW.move rfl) rfl ?_ ?_ ?_); rfl; rfl) | (refine l_assign ?_; (refine SXl.v (OpW.assign rfl) rfl ?_ ?_ ?_); rfl; rfl) | (refine l_len ?_; (refine SXl.v (OpW.len rfl) rfl ?_ ?_ ?_); rfl; rfl) | (refine l_lss ?_; (refine SXl.v (OpW.lssT rfl rfl (by omega)) rfl ?_ ?_ ?_); rfl; rfl) | (refine l_not ?_; (refine SXl.v (OpW.not rfl) rfl ?_ ?_ ?_); rfl; rfl) | (refine l_pick ?_; (refine SXl.v (OpW.pick rfl rfl rfl) rfl ?_ ?_ ?_); rfl; rfl) | (refine l_indexAddr ?_; (refine SXl.v (OpW.indexAddr (by omega) rfl rfl) rfl ?_ ?_ ?_); rfl; rfl) | (refine l_alloc ?_; refine SXl.alloc ?_ ?_ (fun g => ?_); rfl; rfl) | (refine l_store ?_; first | (refine SXl.storeAll 0 ?_ rfl rfl rfl rfl rfl rfl rfl ?_; rfl; simp only [List.set_cons_zero, List.set_cons_succ]) | (refine SXl.storeAll 1 ?_ rfl rfl rfl rfl rfl rfl rfl ?_; rfl; simp only [List.set_cons_zero, List.set_cons_succ]) | (refine SXl.storeAll 2 ?_ rfl rfl rfl rfl rfl rfl rfl ?_; rfl; simp only [List.set_cons_zero, List.set_cons_succ]) | (refine SXl.storeRow 0 ?_ rfl rfl rfl rfl rfl rfl rfl ?_; rfl; simp only [over, List.set_cons_zero, List.set_cons_succ]) | (refine SXl.storeRow 1 ?_ rfl rfl rfl rfl rfl rfl rfl ?_; rfl; simp only [over, List.set_cons_zero, List.set_cons_succ]) | (refine SXl.storeRow 2 ?_ rfl rfl rfl rfl rfl rfl rfl ?_; rfl; simp only [over, List.set_cons_zero, List.set_cons_succ])) | ((first | rw [q0] | rw [q1])) | refine SX.ret ?_ | refine SQ.thenRet ?_ | refine SQ.blockRet ?_)
          refine SQ.body1 rfl rfl (fun w' hl => ⟨ret_bool (by symm; exact tableOk_no hxk.out (by simp [ruleOk, q1])), hl.mod⟩)
        · cases q2 : inB x.high 0 1048576
          · repeat (first | refine SX.seq ?_ | refine SXl.nil ?_ | refine SX.region ?_ | refine SQ.thenNormal ?_ | refine SX.block ?_ | refine SX.skip ?_ | refine SX.condT rfl ?_ | (refine l_load ?_; (first | refine SXl.v (OpW.loadRowOld rfl hc1 rfl (Nat.succ_pos _) (fun h => h)) rfl ?_ ?_ ?_ | refine SXl.v (OpW.load 0 rfl rfl rfl) rfl ?_ ?_ ?_); rfl; rfl) | (refine l_call ?_; (refine SXl.v (OpW.calls rfl (fun w _ => l01In_any _ _ _ _)) rfl ?_ ?_ ?_); rfl; rfl) | (refine l_fieldAddr ?_; (refine SXl.v (OpW.fieldAddr rfl) rfl ?_ ?_ ?_); rfl; rfl) | (refine l_move ?_; (refine SXl.v (OpW.move rfl) rfl ?_ ?_ ?_); rfl; rfl) | (refine l_assign ?_; (refine SXl.v (OpW.assign rfl) rfl ?_ ?_ ?_); rfl; rfl) | (refine l_len ?_; (refine SXl.v (OpW.len rfl) rfl ?_ ?_ ?_); rfl; rfl) | (refine l_lss ?_; (refine SXl.v (OpW.lssT rfl rfl (by omega)) rfl ?_ ?_ ?_); rfl; rfl) | (refine l_not ?_; (refine SXl.v (OpW.not rfl) rfl ?_ ?_ ?_); rfl; rfl) | (refine l_pick ?_; (refine SXl.v (OpW.pick rfl rfl rfl) rfl ?_ ?_ ?_); rfl; rfl) | (refine l_indexAddr ?_; (refine SXl.v (OpW.indexAddr (by omega) rfl rfl) rfl ?_ ?_ ?_); rfl; rfl) | (refine l_alloc ?_; refine SXl.alloc ?_ ?_ (fun g => ?_); rfl; rfl) | (refine l_store ?_; first | (refine SXl.storeAll 0 ?_ rfl rfl rfl rfl rfl rfl rfl ?_; rfl; simp only [List.set_cons_zero, List.set_cons_succ]) | (refine SXl.storeAll 1 ?_ rfl rfl rfl rfl rfl rfl rfl ?_; rfl; simp only [List.set_cons_zero, List.set_cons_succ]) | (refine SXl.storeAll 2 ?_ rfl rfl rfl rfl rfl rfl rfl ?_; rfl; simp only [List.set_cons_zero, List.set_cons_succ]) | (refine SXl.storeRow 0 ?_ rfl rfl rfl rfl rfl rfl rfl ?_; rfl; simp only [over, List.set_cons_zero, List.set_cons_succ]) | (refine SXl.storeRow 1 ?_ rfl rfl rfl rfl rfl rfl rfl ?_; rfl; simp only [over, List.set_cons_zero, List.set_cons_succ]) | (refine SXl.storeRow 2 ?_ rfl rfl rfl rfl rfl rfl rfl ?_; rfl; simp only [over, List.set_cons_zero, List.set_cons_succ])) | ((first | rw [q0] | rw [q1] | rw [q2])) | refine SX.ret ?_ | refine SQ.thenRet ?_ | refine SQ.blockRet ?_)
            refine SQ.body1 rfl rfl (fun w' hl => ⟨ret_bool (by symm; exact tableOk_no hxk.out (by simp [ruleOk, q2])), hl.mod⟩)
          · repeat (first | refine SX.seq ?_ | refine SXl.nil ?_ | refine SX.region ?_ | refine SQ.thenNormal ?_ | refine SX.block ?_ | refine SX.skip ?_ | refine SX.condT rfl ?_ | refine SX.condF rfl ?_ | (refine l_load ?_; (first | refine SXl.v (OpW.loadRowOld rfl hc1 rfl (Nat.succ_pos _) (fun h => h)) rfl ?_ ?_ ?_ | refine SXl.v (OpW.load 0 rfl rfl rfl) rfl ?_ ?_ ?_); rfl; rfl) | (refine l_call ?_; (refine SXl.v (OpW.calls rfl (fun w _ => l01In_any _ _ _ _)) rfl ?_ ?_ ?_); rfl; rfl) | (refine l_fieldAddr ?_; (refine SXl.v (OpW.fieldAddr rfl) rfl ?_ ?_ ?_); rfl; rfl) | (refine l_move ?_; (refine SXl.v (OpW.move rfl) rfl ?_ ?_ ?_); rfl; rfl) | (refine l_assign ?_; (refine SXl.v (OpW.assign rfl) rfl ?_ ?_ ?_); rfl; rfl) | (refine l_len ?_; (refine SXl.v (OpW.len rfl) rfl ?_ ?_ ?_); rfl; rfl) | (refine l_add ?_; (refine SXl.v (OpW.succ rfl rfl (by omega)) rfl ?_ ?_ ?_); rfl; rfl) | (refine l_lss ?_; (refine SXl.v (OpW.lssT rfl rfl (by omega)) rfl ?_ ?_ ?_); rfl; rfl) | (refine l_not ?_; (refine SXl.v (OpW.not rfl) rfl ?_ ?_ ?_); rfl; rfl) | (refine l_pick ?_; (refine SXl.v (OpW.pick rfl rfl rfl) rfl ?_ ?_ ?_); rfl; rfl) | (refine l_indexAddr ?_; (refine SXl.v (OpW.indexAddr (by omega) rfl rfl) rfl ?_ ?_ ?_); rfl; rfl) | (refine l_alloc ?_; refine SXl.alloc ?_ ?_ (fun g => ?_); rfl; rfl) | (refine l_store ?_; first | (refine SXl.storeAll 0 ?_ rfl rfl rfl rfl rfl rfl rfl ?_; rfl; simp only [List.set_cons_zero, List.set_cons_succ]) | (refine SXl.storeAll 1 ?_ rfl rfl rfl rfl rfl rfl rfl ?_; rfl; simp only [List.set_cons_zero, List.set_cons_succ]) | (refine SXl.storeAll 2 ?_ rfl rfl rfl rfl rfl rfl rfl ?_; rfl; simp only [List.set_cons_zero, List.set_cons_succ]) | (refine SXl.storeRow 0 ?_ rfl rfl rfl rfl rfl rfl rfl ?_; rfl; simp only [over, List.set_cons_zero, List.set_cons_succ]) | (refine SXl.storeRow 1 ?_ rfl rfl rfl rfl rfl rfl rfl ?_; rfl; simp only [over, List.set_cons_zero, List.set_cons_succ]) | (refine SXl.storeRow 2 ?_ rfl rfl rfl rfl rfl rfl rfl ?_; rfl; simp only [over, List.set_cons_zero, List.set_cons_succ])) | ((first | rw [q0] | rw [q1] | rw [q2])) | refine SQ.blockNormal ?_)
            refine SQ.roundi (k + 1) ⟨by omega, allTo_succ hs hxk.out (by simp [ruleOk, q0, q1, q2])⟩ (by omega) ?_ (fun _ hl => hl.drop1)
            (repeat (first | exact subF_nil _ | (refine subF_cons rfl ?_) | (refine subF_consv rfl (by rfl) ?_)))
    · repeat (first | refine SX.seq ?_ | refine SXl.nil ?_ | refine SX.region ?_ | refine SQ.thenNormal ?_ | refine SX.condF rfl ?_ | (refine l_call ?_; (refine SXl.v (OpW.calls rfl (fun w _ => l01In_any _ _ _ _)) rfl ?_ ?_ ?_); rfl; rfl) | (refine l_load ?_; (refine SXl.v (OpW.load 0 rfl rfl rfl) rfl ?_ ?_ ?_); rfl; rfl) | (refine l_fieldAddr ?_; (refine SXl.v (OpW.fieldAddr rfl) rfl ?_ ?_ ?_); rfl; rfl) | (refine l_move ?_; (refine SXl.v (OpW.move rfl) rfl ?_ ?_ ?_); rfl; rfl) | (refine l_assign ?_; (refine SXl.v (OpW.assign rfl) rfl ?_ ?_ ?_); rfl; rfl) | (refine l_len ?_; (refine SXl.v (OpW.len rfl) rfl ?_ ?_ ?_); rfl; rfl) | (refine l_lss ?_; (refine SXl.v (OpW.lssF rfl rfl (by omega)) rfl ?_ ?_ ?_); rfl; rfl) | refine SX.ret ?_ | refine SX.exit ?_ | refine SQ.thenExit ?_ | refine SQ.blockExit ?_)
      refine SQ.body1 rfl rfl (fun w' hl => ⟨ret_bool (by symm; simp [tableOk, all_of hs (by omega)]), hl.mod⟩)

end Go.Proofs.Ythffgbhphjkdeaa
namespace Go.Proofs.Ythffgbhphjkdeaa
open Go.RowKit
set_option linter.unusedVariables false
set_option linter.unusedSimpArgs false

/-- How often n stands among the first k. -/
def hasTo (l : List Int) (n : Int) (k : Nat) : Nat := (l.take k).count n
theorem hasTo_succ {l : List Int} {n : Int} {k : Nat} {x : Int} (hx : l[k]? = some x) : hasTo l n (k + 1) = hasTo l n k + if x = n then 1 else 0 := by
  unfold hasTo
  rw [List.take_add_one, hx, List.count_append]
  simp [List.count_cons]
theorem hasTo_le (l : List Int) (n : Int) (k : Nat) : hasTo l n k ≤ k := Nat.le_trans List.count_le_length (by simp; omega)
theorem hasTo_all {l : List Int} {n : Int} {k : Nat} (h : l.length ≤ k) : hasTo l n k = l.count n := by
  unfold hasTo; rw [List.take_of_length_le h]

set_option maxRecDepth 100000 in
set_option maxHeartbeats 4000000 in
theorem shas_any (l : List Int) (n : Int) (a : Option Addr) (c : Nat) (R : Nat → Prop) (w : World) (hlen : l.length ≤ 1048576) (h : IntSlice R w a l) :
    Calls Try.prog 86 #[.slice a l.length c, .int .i64 n] w fun e w' => e = .returned (.int .i64 (l.count n : Nat)) ∧ Mod (fun _ => False) w w' := by
  refine calls_sx Try.func86 rfl rfl (fun a h1 h2 h3 => ((Fr.nil h1 h2).arg (h3 1 _ rfl)).arg (h3 0 _ rfl)) ?_
  repeat (first | refine SX.seq ?_ | refine SXl.nil ?_ | refine SX.region ?_ | refine SQ.thenNormal ?_ | refine SX.block ?_ | (refine l_assign ?_; (refine SXl.v (OpW.assign rfl) rfl ?_ ?_ ?_); rfl; rfl))
  refine SX.loopi (fun k : Nat => k ≤ l.length) (fun k => l.length - k) (fun _ => []) (fun _ => []) (fun _ => []) (fun k => [(0, .slice a l.length c), (1, .int .i64 n), (5, .int .i64 (hasTo l n k : Nat)), (6, .int .i64 k)]) 0 (Nat.zero_le _) ?_ (fun _ hl => hl) ?_
  · (repeat (first | exact subF_nil _ | (refine subF_cons rfl ?_) | (refine subF_consv rfl (by rfl) ?_)))
  · intro k hk
    have hle := hasTo_le l n k
    by_cases hlt : k < l.length
    · obtain ⟨b1, o1, x, rfl, _, _, hxk, hc1⟩ := IntSlice.get h hlt
      have hs := hasTo_succ (n := n) hxk.out
      by_cases e : x = n
      · rw [if_pos e] at hs
        repeat (first | refine SX.seq ?_ | refine SXl.nil ?_ | refine SX.region ?_ | refine SQ.thenNormal ?_ | refine SX.block ?_ | refine SX.skip ?_ | refine SX.condT rfl ?_ | (refine l_load ?_; (refine SXl.v (OpW.loadOld rfl (by assumption) (fun h => h)) rfl ?_ ?_ ?_); rfl; rfl) | (refine l_move ?_; (refine SXl.v (OpW.move rfl) rfl ?_ ?_ ?_); rfl; rfl) | (refine l_assign ?_; (refine SXl.v (OpW.assign rfl) rfl ?_ ?_ ?_); rfl; rfl) | (refine l_len ?_; (refine SXl.v (OpW.len rfl) rfl ?_ ?_ ?_); rfl; rfl) | (refine l_add ?_; (refine SXl.v (OpW.succ rfl rfl (by omega)) rfl ?_ ?_ ?_); rfl; rfl) | (refine l_eql ?_; (refine SXl.v (OpW.eqlT rfl rfl (by omega)) rfl ?_ ?_ ?_); rfl; rfl) | (refine l_lss ?_; (refine SXl.v (OpW.lssT rfl rfl (by omega)) rfl ?_ ?_ ?_); rfl; rfl) | (refine l_indexAddr ?_; (refine SXl.v (OpW.indexAddr1 (by omega) rfl rfl) rfl ?_ ?_ ?_); rfl; rfl) | refine SQ.blockNormal ?_)
        refine SQ.roundi (k + 1) (by omega) (by omega) ?_ (fun _ hl => hl)
        (repeat (first | exact subF_nil _ | (refine subF_cons rfl ?_) | (refine subF_consv rfl (by rw [hs]) ?_)))
      · rw [if_neg e] at hs
        repeat (first | refine SX.seq ?_ | refine SXl.nil ?_ | refine SX.region ?_ | refine SQ.thenNormal ?_ | refine SX.block ?_ | refine SX.skip ?_ | refine SX.condT rfl ?_ | refine SX.condF rfl ?_ | (refine l_load ?_; (refine SXl.v (OpW.loadOld rfl (by assumption) (fun h => h)) rfl ?_ ?_ ?_); rfl; rfl) | (refine l_move ?_; (refine SXl.v (OpW.move rfl) rfl ?_ ?_ ?_); rfl; rfl) | (refine l_assign ?_; (refine SXl.v (OpW.assign rfl) rfl ?_ ?_ ?_); rfl; rfl) | (refine l_len ?_; (refine SXl.v (OpW.len rfl) rfl ?_ ?_ ?_); rfl; rfl) | (refine l_add ?_; (refine SXl.v (OpW.succ rfl rfl (by omega)) rfl ?_ ?_ ?_); rfl; rfl) | (refine l_eql ?_; (refine SXl.v (OpW.eqlF rfl rfl (by omega)) rfl ?_ ?_ ?_); rfl; rfl) | (refine l_lss ?_; (refine SXl.v (OpW.lssT rfl rfl (by omega)) rfl ?_ ?_ ?_); rfl; rfl) | (refine l_indexAddr ?_; (refine SXl.v (OpW.indexAddr1 (by omega) rfl rfl) rfl ?_ ?_ ?_); rfl; rfl) | refine SQ.blockNormal ?_)
        refine SQ.roundi (k + 1) (by omega) (by omega) ?_ (fun _ hl => hl)
        (repeat (first | exact subF_nil _ | (refine subF_cons rfl ?_) | (refine subF_consv rfl (by rw [hs]; rfl) ?_)))
    · have hs := hasTo_all (n := n) (show l.length ≤ k by omega)
      repeat (first | refine SX.seq ?_ | refine SXl.nil ?_ | refine SX.region ?_ | refine SQ.thenNormal ?_ | refine SX.condF rfl ?_ | (refine l_move ?_; (refine SXl.v (OpW.move rfl) rfl ?_ ?_ ?_); rfl; rfl) | (refine l_assign ?_; (refine SXl.v (OpW.assign rfl) rfl ?_ ?_ ?_); rfl; rfl) | (refine l_len ?_; (refine SXl.v (OpW.len rfl) rfl ?_ ?_ ?_); rfl; rfl) | (refine l_lss ?_; (refine SXl.v (OpW.lssF rfl rfl (by omega)) rfl ?_ ?_ ?_); rfl; rfl) | refine SX.ret ?_ | refine SX.exit ?_ | refine SQ.thenExit ?_ | refine SQ.blockExit ?_)
      refine SQ.body1 rfl rfl (fun w' hl => ⟨by rw [hs], hl.mod⟩)

end Go.Proofs.Ythffgbhphjkdeaa
namespace Go.Proofs.Ythffgbhphjkdeaa
open Go.RowKit

def kidOk (l : List Node) (i : Nat) (y : Int) : Bool := inB y 1 l.length && decide (((l[(y - 1).toNat]?).getD default).up = ((i + 1 : Nat) : Int))
def upOk (l : List Node) (i : Nat) (x : Node) : Bool := decide (x.up = 0) || decide (((l[(x.up - 1).toNat]?).getD default).kids.count ((i + 1 : Nat) : Int) = 1)
def tabOk (x : Node) : Bool := if x.measured then tableOk x.rules && decide (x.kids.length = 0) else decide (x.rules.length = 0)
def nodeOk (l : List Node) (i : Nat) (x : Node) : Bool := styleOk x.style && inB (depthF l (l.length + 1) ((i + 1 : Nat) : Int) (0 : Nat)) 1 4 && x.kids.all (kidOk l i) && upOk l i x && tabOk x
def treeOk (l : List Node) : Bool := decide (l.length ≤ 12) && (List.range l.length).all fun i => nodeOk l i ((l[i]?).getD default)
theorem treeOk_iff {l : List Node} : treeOk l = true ↔ l.length ≤ 12 ∧ ∀ i x, l[i]? = some x → nodeOk l i x = true := by
  unfold treeOk
  rw [Bool.and_eq_true, decide_eq_true_eq, List.all_eq_true]
  refine and_congr_right fun _ => ⟨fun h i x hx => ?_, fun h i hi => ?_⟩
  · have := h i (List.mem_range.2 (List.getElem?_eq_some_iff.1 hx).1)
    rwa [hx] at this
  · have hlt := List.mem_range.1 hi
    exact h i _ (by rw [List.getElem?_eq_getElem hlt]; rfl)
theorem treeOk_no {l : List Node} {k : Nat} {x : Node} (hx : l[k]? = some x) (h : nodeOk l k x = false) : treeOk l = false := by
  rw [Bool.eq_false_iff]
  intro ht
  rw [(treeOk_iff.1 ht).2 k x hx] at h
  cases h
theorem treeOk_all {l : List Node} {k : Nat} (hn : l.length ≤ 12) (hs : ∀ i x, i < k → l[i]? = some x → nodeOk l i x = true) (hk : l.length ≤ k) : treeOk l = true :=
  treeOk_iff.2 ⟨hn, fun i x hx => hs i x (by have := (List.getElem?_eq_some_iff.1 hx).1; omega) hx⟩
theorem treeOk_long {l : List Node} (hn : ¬ l.length ≤ 12) : treeOk l = false := by simp [treeOk, hn]
theorem pto_succ {α : Type} {p : Nat → α → Prop} {l : List α} {k : Nat} {x : α} (hs : ∀ i x, i < k → l[i]? = some x → p i x) (hx : l[k]? = some x) (h : p k x) : ∀ i x, i < k + 1 → l[i]? = some x → p i x := fun j y hj hy => by
  by_cases e : j = k
  · subst e; rw [hx] at hy; rw [← Option.some.inj hy]; exact h
  · exact hs j y (by omega) hy
theorem all_ints {l : List Int} {p : Int → Bool} {k : Nat} (hs : ∀ i x, i < k → l[i]? = some x → p x = true) (hk : l.length ≤ k) : l.all p = true := by
  rw [List.all_eq_true]
  intro x hx
  obtain ⟨i, hi⟩ := List.mem_iff_getElem?.1 hx
  exact hs i x (by have := (List.getElem?_eq_some_iff.1 hi).1; omega) hi
theorem not_all {l : List Int} {p : Int → Bool} {k : Nat} {y : Int} (hy : l[k]? = some y) (h : p y = false) : l.all p = false := by
  rw [Bool.eq_false_iff]
  intro ha
  rw [List.all_eq_true] at ha
  rw [ha y (List.mem_of_getElem? hy)] at h
  cases h
/-- Where the depth is a depth, the node above is one or there is none. -/
theorem depth_up {l : List Node} {k : Nat} {x : Node} (hx : l[k]? = some x) (hq : inB (depthF l (l.length + 1) ((k + 1 : Nat) : Int) (0 : Nat)) 1 4 = true) (h0 : x.up ≠ 0) : ∃ ku : Nat, x.up = ((ku + 1 : Nat) : Int) ∧ ku < l.length := by
  have hlt := (List.getElem?_eq_some_iff.1 hx).1
  have e := depthF_up (l := l) (d := 0) (by omega) hx
  rw [Nat.sub_zero] at e
  have e0 : depthF l (l.length + 1) ((k + 1 : Nat) : Int) 0 = depthF l (l.length + 1 - (0 + 1)) x.up (0 + 1) := e
  by_cases hb : inB x.up 1 l.length = true
  · exact inB_node hb
  · have hb' : inB x.up 1 l.length = false := by simpa using hb
    have := depthF_out (l := l) (d := 0 + 1) (by omega) h0 hb'
    rw [e0, this] at hq
    simp [inB] at hq

section
variable {l : List Node} {i : Nat} {x : Node}
theorem nodeOk_s (h : styleOk x.style = false) : nodeOk l i x = false := by simp [nodeOk, h]
theorem nodeOk_d (h : inB (depthF l (l.length + 1) ((i + 1 : Nat) : Int) (0 : Nat)) 1 4 = false) : nodeOk l i x = false := by unfold nodeOk; rw [h]; simp
theorem nodeOk_k {j : Nat} {y : Int} (hy : x.kids[j]? = some y) (h : kidOk l i y = false) : nodeOk l i x = false := by unfold nodeOk; rw [not_all hy h]; simp
theorem nodeOk_u (h : upOk l i x = false) : nodeOk l i x = false := by simp [nodeOk, h]
theorem nodeOk_t (h : tabOk x = false) : nodeOk l i x = false := by simp [nodeOk, h]
theorem nodeOk_y (h1 : styleOk x.style = true) (h2 : inB (depthF l (l.length + 1) ((i + 1 : Nat) : Int) (0 : Nat)) 1 4 = true) (h3 : x.kids.all (kidOk l i) = true) (h4 : upOk l i x = true) (h5 : tabOk x = true) : nodeOk l i x = true := by unfold nodeOk; rw [h1, h2, h3, h4, h5]; rfl
theorem kidOk_at {ky : Nat} {z : Node} (h : inB ((ky + 1 : Nat) : Int) 1 l.length = true) (hz : l[ky]? = some z) : kidOk l i ((ky + 1 : Nat) : Int) = decide (z.up = ((i + 1 : Nat) : Int)) := by
  unfold kidOk
  rw [h, show (((ky + 1 : Nat) : Int) - 1).toNat = ky by omega, hz]; rfl
theorem upOk_at {ku : Nat} {z : Node} (h : x.up = ((ku + 1 : Nat) : Int)) (hz : l[ku]? = some z) : upOk l i x = decide (z.kids.count ((i + 1 : Nat) : Int) = 1) := by
  unfold upOk
  rw [h, decide_eq_false (by omega), show (((ku + 1 : Nat) : Int) - 1).toNat = ku by omega, hz]; rfl
end
instance : TFv Try.prog 86 1 1 := ⟨_, _, _, Try.underlying86, rfl, rfl, Try.underlying84, rfl⟩
theorem nodeRow_tab (up : Int) (k : Option Addr) (n c : Nat) (s : Style) (m : Bool) (t : Option Addr) (n' c' : Nat) : ((nodeRow up k n c s m t n' c').drop 63).take 1 = [.slice t n' c'] := rfl
theorem styleC_any (x : Style) (w : World) : Calls Try.prog 82 #[.agg x.cells.toArray] w fun e w' => e = .returned (.bool (styleOk x)) ∧ Mod (fun _ => False) w w' := styleOk_any x w
theorem sstyleC_any (x : Style) (w : World) : Calls Try.prog 84 #[.agg x.cells.toArray] w fun e w' => e = .returned (.bool (styleOk x)) ∧ Mod (fun _ => False) w w' := sstyleOk_any x w

end Go.Proofs.Ythffgbhphjkdeaa
namespace Go.Proofs.Ythffgbhphjkdeaa
open Go.RowKit

/-- The depth of node n. -/
def dep (l : List Node) (n : Int) : Int := depthF l (l.length + 1) n (0 : Nat)
def nodeAt (l : List Node) (n : Int) : Node := (l[(n - 1).toNat]?).getD default
theorem nodeAt_of {l : List Node} {k : Nat} {x : Node} (h : l[k]? = some x) : nodeAt l ((k + 1 : Nat) : Int) = x := by
  unfold nodeAt
  rw [show (((k + 1 : Nat) : Int) - 1).toNat = k by omega, h]; rfl
theorem depthF_ge {l : List Node} : ∀ (f : Nat) (n : Int) (d : Nat), depthF l f n d ≠ 0 → (d : Int) ≤ depthF l f n d
  | 0, _, _, h => (h rfl).elim
  | f + 1, n, d, h => by
    unfold depthF at h ⊢
    split
    · exact Int.le_refl _
    · rename_i h0
      rw [if_neg h0] at h
      split
      · rename_i h1
        rw [if_pos h1] at h
        have := depthF_ge f _ _ h
        omega
      · rename_i h1
        rw [if_neg h1] at h
        exact (h rfl).elim
theorem depthF_shift {l : List Node} : ∀ (f : Nat) (n : Int) (d : Nat), depthF l f n (d + 1) ≠ 0 → depthF l f n (d + 1) = depthF l f n d + 1
  | 0, _, _, h => (h rfl).elim
  | f + 1, n, d, h => by
    unfold depthF at h ⊢
    split
    · rfl
    · rename_i h0
      rw [if_neg h0] at h
      split
      · rename_i h1
        rw [if_pos h1] at h
        exact depthF_shift f _ _ h
      · rename_i h1
        rw [if_neg h1] at h
        exact (h rfl).elim
theorem depthF_fuel {l : List Node} : ∀ (f : Nat) (n : Int) (d : Nat), depthF l f n d ≠ 0 → depthF l (f + 1) n d = depthF l f n d
  | 0, _, _, h => (h rfl).elim
  | f + 1, n, d, h => by
    unfold depthF at h
    show (if n = 0 then (d : Int) else if inB n 1 l.length then depthF l (f + 1) _ _ else 0) = (if n = 0 then (d : Int) else if inB n 1 l.length then depthF l f _ _ else 0)
    split
    · rfl
    · rename_i h0
      rw [if_neg h0] at h
      split
      · rename_i h1
        rw [if_pos h1] at h
        exact depthF_fuel f _ _ h
      · rfl
theorem depthF_far {l : List Node} {f : Nat} {n : Int} {d : Nat} (h0 : n ≠ 0) (h : depthF l f n d ≠ 0) : ((d + 1 : Nat) : Int) ≤ depthF l f n d := by
  cases f with
  | zero => exact (h rfl).elim
  | succ f =>
    unfold depthF at h ⊢
    rw [if_neg h0] at h ⊢
    split
    · rename_i h1
      rw [if_pos h1] at h
      exact depthF_ge f _ _ h
    · rename_i h1
      rw [if_neg h1] at h
      exact (h rfl).elim
theorem dep_root {l : List Node} {k : Nat} {x : Node} (hx : l[k]? = some x) (h0 : x.up = 0) (hl : 0 < l.length) : dep l ((k + 1 : Nat) : Int) = 1 := by
  have e := depthF_up (l := l) (d := 0) (by omega) hx
  rw [h0] at e
  have e2 := depthF_zero (l := l) (d := 0 + 1) (by omega)
  rw [Nat.sub_zero] at e
  unfold dep
  exact e.trans (e2.trans rfl)
theorem dep_up {l : List Node} {k : Nat} {x : Node} (hx : l[k]? = some x) (h0 : x.up ≠ 0) (hd : dep l ((k + 1 : Nat) : Int) ≠ 0) : dep l ((k + 1 : Nat) : Int) = dep l x.up + 1 := by
  have e := depthF_up (l := l) (d := 0) (by omega) hx
  rw [Nat.sub_zero] at e
  unfold dep at hd ⊢
  have e' : depthF l (l.length + 1) ((k + 1 : Nat) : Int) (0 : Nat) = depthF l l.length x.up 1 := e
  rw [e'] at hd ⊢
  have hs : depthF l l.length x.up 1 = depthF l l.length x.up 0 + 1 := depthF_shift _ _ 0 hd
  have hfar := depthF_far h0 hd
  rw [hs]
  have hne : depthF l l.length x.up 0 ≠ 0 := by omega
  rw [depthF_fuel _ _ _ hne]

section
variable {l : List Node} (hv : treeOk l = true)
include hv
theorem ok_len : l.length ≤ 12 := (treeOk_iff.1 hv).1
theorem ok_node {k : Nat} {x : Node} (hx : l[k]? = some x) : styleOk x.style = true ∧ (1 ≤ dep l ((k + 1 : Nat) : Int) ∧ dep l ((k + 1 : Nat) : Int) ≤ 4) ∧ (∀ y ∈ x.kids, kidOk l k y = true) ∧ upOk l k x = true ∧ tabOk x = true := by
  have h := (treeOk_iff.1 hv).2 k x hx
  unfold nodeOk inB at h
  simp only [Bool.and_eq_true, decide_eq_true_eq, List.all_eq_true] at h
  obtain ⟨⟨⟨⟨h1, h2⟩, h3⟩, h4⟩, h5⟩ := h
  refine ⟨h1, ?_, h3, h4, h5⟩
  unfold dep
  omega
/-- A child of a node: where it is, and that it knows its node; it is one level below. -/
theorem ok_kid {k : Nat} {x : Node} (hx : l[k]? = some x) {y : Int} (hy : y ∈ x.kids) : ∃ (ky : Nat) (z : Node), y = ((ky + 1 : Nat) : Int) ∧ l[ky]? = some z ∧ z.up = ((k + 1 : Nat) : Int) ∧ dep l y = dep l ((k + 1 : Nat) : Int) + 1 := by
  obtain ⟨_, _, h3, _, _⟩ := ok_node hv hx
  have hk := h3 y hy
  unfold kidOk at hk
  rw [Bool.and_eq_true] at hk
  obtain ⟨ky, rfl, hky⟩ := inB_node hk.1
  have hz := List.getElem?_eq_getElem hky
  generalize l[ky] = z at hz
  have hu : z.up = ((k + 1 : Nat) : Int) := by
    have := hk.2
    rw [show (((ky + 1 : Nat) : Int) - 1).toNat = ky by omega, hz] at this
    simpa using this
  have hd := (ok_node hv hz).2.1
  refine ⟨ky, z, rfl, hz, hu, ?_⟩
  rw [dep_up hz (by omega) (by omega), hu]
theorem ok_count {k : Nat} {x : Node} (hx : l[k]? = some x) {y : Int} (hy : y ∈ x.kids) : x.kids.count y = 1 := by
  obtain ⟨ky, z, rfl, hz, hu, _⟩ := ok_kid hv hx hy
  obtain ⟨_, _, _, h4, _⟩ := ok_node hv hz
  rw [upOk_at hu hx] at h4
  simpa using h4
omit hv in
theorem nodup_len : ∀ (N : Nat) (xs : List Int), (∀ a, xs.count a ≤ 1) → (∀ x ∈ xs, 1 ≤ x ∧ x ≤ (N : Int)) → xs.length ≤ N
  | 0, xs, _, h => by
    cases xs with
    | nil => simp
    | cons x xs => have := h x List.mem_cons_self; omega
  | N + 1, xs, hc, h => by
    have ih := nodup_len N (xs.filter fun x => !decide (x = ((N + 1 : Nat) : Int))) (fun a => by
      have h1 := hc a
      have h2 : (xs.filter fun x => !decide (x = ((N + 1 : Nat) : Int))).count a ≤ xs.count a := List.Sublist.count_le a List.filter_sublist
      omega) (fun x hx => by
      obtain ⟨hx1, hx2⟩ := List.mem_filter.1 hx
      have := h x hx1
      simp at hx2
      omega)
    have h3 := List.length_eq_countP_add_countP (fun x => decide (x = ((N + 1 : Nat) : Int))) (l := xs)
    have h4 : xs.countP (fun x => decide (x = ((N + 1 : Nat) : Int))) ≤ 1 := by
      have := hc ((N + 1 : Nat) : Int)
      unfold List.count at this
      have e : (fun x : Int => decide (x = ((N + 1 : Nat) : Int))) = fun x => x == ((N + 1 : Nat) : Int) := by
        funext x
        rw [Bool.eq_iff_iff]
        simp
      rw [e]; exact this
    have h5 : xs.countP (fun x => decide ¬ (decide (x = ((N + 1 : Nat) : Int))) = true) = (xs.filter fun x => !decide (x = ((N + 1 : Nat) : Int))).length := by
      rw [List.countP_eq_length_filter]
      congr 1
      apply List.filter_congr
      intro x _
      simp
    omega
theorem ok_kids_len {k : Nat} {x : Node} (hx : l[k]? = some x) : x.kids.length ≤ 12 := by
  refine nodup_len 12 x.kids (fun a => ?_) (fun y hy => ?_)
  · by_cases ha : a ∈ x.kids
    · rw [ok_count hv hx ha]; omega
    · rw [List.count_eq_zero.2 ha]; omega
  · obtain ⟨ky, z, rfl, hz, _, _⟩ := ok_kid hv hx hy
    have := (List.getElem?_eq_some_iff.1 hz).1
    have := ok_len hv
    omega
end
/-- A node and all below it. -/
def under (l : List Node) : Nat → Int → List Int
  | 0, n => [n]
  | f + 1, n => n :: ((nodeAt l n).kids.map (under l f)).flatten
def underB : Nat → Nat
  | 0 => 1
  | f + 1 => 1 + 12 * underB f
theorem under_len {l : List Node} (hv : treeOk l = true) : ∀ (f k : Nat) (x : Node), l[k]? = some x → (under l f ((k + 1 : Nat) : Int)).length ≤ underB f
  | 0, _, _, _ => Nat.le_refl _
  | f + 1, k, x, hx => by
    have hb : ∀ ys : List Int, (∀ y ∈ ys, y ∈ x.kids) → ((ys.map (under l f)).flatten).length ≤ ys.length * underB f := by
      intro ys
      induction ys with
      | nil => intro _; simp
      | cons y ys ih =>
        intro h
        obtain ⟨ky, z, rfl, hz, _, _⟩ := ok_kid hv hx (h y List.mem_cons_self)
        have h1 := under_len hv f ky z hz
        have h2 := ih fun y hy => h y (List.mem_cons_of_mem _ hy)
        rw [List.map_cons, List.flatten_cons, List.length_append, List.length_cons, Nat.succ_mul]
        omega
    have h1 := hb x.kids fun _ h => h
    have h2 := ok_kids_len hv hx
    have h3 : x.kids.length * underB f ≤ 12 * underB f := Nat.mul_le_mul_right _ h2
    unfold under underB
    rw [nodeAt_of hx, List.length_cons]
    omega
/-- A node and all below it, in a valid tree. -/
def allU (l : List Node) (n : Int) : List Int := under l (5 - dep l n).toNat n
theorem allU_len {l : List Node} (hv : treeOk l = true) {k : Nat} {x : Node} (hx : l[k]? = some x) : (allU l ((k + 1 : Nat) : Int)).length ≤ 30000 := by
  have h1 := (ok_node hv hx).2.1
  have h2 := under_len hv (5 - dep l ((k + 1 : Nat) : Int)).toNat k x hx
  have h3 : ∀ f, f ≤ 4 → underB f ≤ 22621 := by decide
  have h4 := h3 (5 - dep l ((k + 1 : Nat) : Int)).toNat (by omega)
  unfold allU
  omega
theorem allU_eq {l : List Node} (hv : treeOk l = true) {k : Nat} {x : Node} (hx : l[k]? = some x) : allU l ((k + 1 : Nat) : Int) = ((k + 1 : Nat) : Int) :: (x.kids.map (allU l)).flatten := by
  have h1 := (ok_node hv hx).2.1
  obtain ⟨f, hf⟩ : ∃ f, (5 - dep l ((k + 1 : Nat) : Int)).toNat = f + 1 := ⟨(5 - dep l ((k + 1 : Nat) : Int)).toNat - 1, by omega⟩
  unfold allU
  rw [hf]
  show _ :: _ = _
  rw [nodeAt_of hx]
  congr 2
  refine List.map_congr_left fun y hy => ?_
  obtain ⟨ky, z, rfl, hz, _, hd⟩ := ok_kid hv hx hy
  rw [hd]
  congr 1
  omega
end Go.Proofs.Ythffgbhphjkdeaa
namespace Go.Proofs.Ythffgbhphjkdeaa
open Go.RowKit
set_option linter.unusedVariables false
set_option linter.unusedSimpArgs false

set_option maxRecDepth 100000 in
set_option maxHeartbeats 16000000 in
theorem treeOk_any (l : List Node) (o : Bool) (a : Option Addr) (c : Nat) (R : Nat → Prop) (w : World) (hlen : l.length ≤ 1048576) (hfit : ∀ x ∈ l, x.fits 1048576) (h : NodeSlice o R w a l) :
    Calls Try.prog 22 #[.agg #[.slice a l.length c]] w fun e w' => e = .returned (.bool (treeOk l)) ∧ Mod (fun _ => False) w w' := by
  refine calls_sx Try.func22 rfl rfl (fun a h1 h2 h3 => ((Fr.nil h1 h2).arg (h3 0 _ rfl))) ?_
  by_cases hn : l.length ≤ 12
  rotate_left
  · repeat (first | refine SX.seq ?_ | refine SXl.nil ?_ | refine SX.region ?_ | refine SQ.thenNormal ?_ | refine SX.condT rfl ?_ | (refine l_load ?_; (refine SXl.v (OpW.load 0 rfl rfl rfl) rfl ?_ ?_ ?_); rfl; rfl) | (refine l_fieldAddr ?_; (refine SXl.v (OpW.fieldAddr rfl) rfl ?_ ?_ ?_); rfl; rfl) | (refine l_assign ?_; (refine SXl.v (OpW.assign rfl) rfl ?_ ?_ ?_); rfl; rfl) | (refine l_len ?_; (refine SXl.v (OpW.len rfl) rfl ?_ ?_ ?_); rfl; rfl) | (refine l_gtr ?_; (refine SXl.v (OpW.gtrT rfl rfl (by omega)) rfl ?_ ?_ ?_); rfl; rfl) | (refine l_box ?_; refine SXl.box ?_ ?_ rfl rfl (fun g => ?_); rfl; rfl) | refine SX.ret ?_ | refine SQ.thenRet ?_)
    refine SQ.body1 rfl rfl (fun w' hl => ⟨by rw [treeOk_long hn], hl.mod⟩)
  repeat (first | refine SX.seq ?_ | refine SXl.nil ?_ | refine SX.region ?_ | refine SQ.thenNormal ?_ | refine SX.block ?_ | refine SX.skip ?_ | refine SX.condF rfl ?_ | (refine l_load ?_; (refine SXl.v (OpW.load 0 rfl rfl rfl) rfl ?_ ?_ ?_); rfl; rfl) | (refine l_fieldAddr ?_; (refine SXl.v (OpW.fieldAddr rfl) rfl ?_ ?_ ?_); rfl; rfl) | (refine l_move ?_; (refine SXl.v (OpW.move rfl) rfl ?_ ?_ ?_); rfl; rfl) | (refine l_assign ?_; (refine SXl.v (OpW.assign rfl) rfl ?_ ?_ ?_); rfl; rfl) | (refine l_len ?_; (refine SXl.v (OpW.len rfl) rfl ?_ ?_ ?_); rfl; rfl) | (refine l_gtr ?_; (refine SXl.v (OpW.gtrF rfl rfl (by omega)) rfl ?_ ?_ ?_); rfl; rfl) | (refine l_box ?_; refine SXl.box ?_ ?_ rfl rfl (fun g => ?_); rfl; rfl))
  revert g; intro gt
  refine SX.loopi (fun k : Nat => k ≤ l.length ∧ ∀ i x, i < k → l[i]? = some x → nodeOk l i x = true) (fun k => l.length - k) (fun _ => [⟨gt, [.slice a l.length c], 37⟩]) (fun _ => []) (fun _ => []) (fun k => [(1, .pointer (some ⟨gt, 0, none⟩)), (16, .slice a l.length c), (17, .int .i64 l.length), (18, .int .i64 k)]) 0 ⟨Nat.zero_le _, fun i x h => absurd h (Nat.not_lt_zero _)⟩ ?_ (fun _ hl => hl) ?_
  · (repeat (first | exact subF_nil _ | (refine subF_cons rfl ?_) | (refine subF_consv rfl (by rfl) ?_)))
  rintro k ⟨hk, hs⟩
  by_cases hlt : k < l.length
  rotate_left
  · repeat (first | refine SX.seq ?_ | refine SXl.nil ?_ | refine SX.region ?_ | refine SQ.thenNormal ?_ | refine SX.condF rfl ?_ | (refine l_assign ?_; (refine SXl.v (OpW.assign rfl) rfl ?_ ?_ ?_); rfl; rfl) | (refine l_lss ?_; (refine SXl.v (OpW.lssF rfl rfl (by omega)) rfl ?_ ?_ ?_); rfl; rfl) | refine SX.ret ?_ | refine SX.exit ?_ | refine SQ.thenExit ?_ | refine SQ.blockExit ?_)
    refine SQ.body1 rfl rfl (fun w' hl => ⟨by rw [treeOk_all hn hs (by omega)], hl.mod⟩)
  obtain ⟨b1, o1, ⟨up, kids, st, me, ru⟩, r1, rfl, hR1, hb1, hxk, hr1, hl1, hc1⟩ := h.get hlt
  obtain ⟨ka, kc, ra, rc, rfl, hk1, ht1, _⟩ := hr1
  replace hxk := hxk.out
  have hfx := hfit _ (List.mem_of_getElem? hxk)
  have hf1 : kids.length ≤ 1048576 := hfx.1
  have hf2 : ru.length ≤ 1048576 := hfx.2
  clear hfx
  simp only at hc1 hk1 ht1
  cases q1 : styleOk st
  · have hv := nodeOk_s (l := l) (i := k) (x := ⟨up, kids, st, me, ru⟩) q1
    repeat (first | refine SX.seq ?_ | refine SXl.nil ?_ | refine SX.region ?_ | refine SQ.thenNormal ?_ | refine SX.block ?_ | refine SX.skip ?_ | refine SX.condT rfl ?_ | (refine SXl.no rfl rfl rfl ?_) | (refine l_load ?_; (first | refine SXl.v (OpW.loadRowOld rfl hc1 (nodeRow_len _ _ _ _ _ _ _ _ _) (Nat.succ_pos _) (fun h => h)) rfl ?_ ?_ ?_ | refine SXl.v (OpW.loadRow (cells := nodeRow up ka kids.length kc st me ra ru.length rc) 0 rfl rfl rfl (nodeRow_style _ _ _ _ _ _ _ _ _)) rfl ?_ ?_ ?_ | refine SXl.v (OpW.loadAll 1 rfl rfl rfl) rfl ?_ ?_ ?_); rfl; rfl) | (refine l_call ?_; (refine SXl.v (OpW.call rfl (fun w hl => styleC_any _ _)) rfl ?_ ?_ ?_); rfl; rfl) | (refine l_fieldAddr ?_; (refine SXl.v (OpW.fieldAddr rfl) rfl ?_ ?_ ?_); rfl; rfl) | (refine l_move ?_; (refine SXl.v (OpW.move rfl) rfl ?_ ?_ ?_); rfl; rfl) | (refine l_assign ?_; (refine SXl.v (OpW.assign rfl) rfl ?_ ?_ ?_); rfl; rfl) | (refine l_add ?_; (refine SXl.v (OpW.succ rfl rfl (by omega)) rfl ?_ ?_ ?_); rfl; rfl) | (refine l_lss ?_; (refine SXl.v (OpW.lssT rfl rfl (by omega)) rfl ?_ ?_ ?_); rfl; rfl) | (refine l_not ?_; (refine SXl.v (OpW.not rfl) rfl ?_ ?_ ?_); rfl; rfl) | (refine l_pick ?_; (refine SXl.v (OpW.pick rfl rfl rfl) rfl ?_ ?_ ?_); rfl; rfl) | (refine l_indexAddr ?_; (refine SXl.v (OpW.indexAddr (by omega) rfl rfl) rfl ?_ ?_ ?_); rfl; rfl) | (refine l_alloc ?_; refine SXl.alloc ?_ ?_ (fun g => ?_); rfl; rfl) | (refine l_store ?_; first | (refine SXl.storeAll 0 ?_ rfl rfl rfl rfl rfl rfl rfl ?_; rfl; simp only [List.set_cons_zero, List.set_cons_succ]) | (refine SXl.storeAll 1 ?_ rfl rfl rfl rfl rfl rfl rfl ?_; rfl; simp only [List.set_cons_zero, List.set_cons_succ]) | (refine SXl.storeAll 2 ?_ rfl rfl rfl rfl rfl rfl rfl ?_; rfl; simp only [List.set_cons_zero, List.set_cons_succ]) | (refine SXl.storeRow 0 ?_ rfl rfl rfl rfl rfl rfl rfl ?_; rfl; simp only [over, List.set_cons_zero, List.set_cons_succ]) | (refine SXl.storeRow 1 ?_ rfl rfl rfl rfl rfl rfl rfl ?_; rfl; simp only [over, List.set_cons_zero, List.set_cons_succ]) | (refine SXl.storeRow 2 ?_ rfl rfl rfl rfl rfl rfl rfl ?_; rfl; simp only [over, List.set_cons_zero, List.set_cons_succ])) | (rw [q1]) | refine SX.ret ?_ | refine SQ.thenRet ?_ | refine SQ.blockRet ?_)
    refine SQ.body1 rfl rfl (fun w' hl => ⟨by rw [treeOk_no hxk (hv)], hl.mod⟩)
  cases q2 : inB (depthF l (l.length + 1) ((k + 1 : Nat) : Int) (0 : Nat)) 1 4
  · have hv := nodeOk_d (x := ⟨up, kids, st, me, ru⟩) q2
    repeat (first | refine SX.seq ?_ | refine SXl.nil ?_ | refine SX.region ?_ | refine SQ.thenNormal ?_ | refine SX.block ?_ | refine SX.skip ?_ | refine SX.condT rfl ?_ | (refine l_load ?_; (first | refine SXl.v (OpW.loadRowOld rfl hc1 (nodeRow_len _ _ _ _ _ _ _ _ _) (Nat.succ_pos _) (fun h => h)) rfl ?_ ?_ ?_ | refine SXl.v (OpW.loadRow (cells := nodeRow up ka kids.length kc st me ra ru.length rc) 0 rfl rfl rfl (nodeRow_style _ _ _ _ _ _ _ _ _)) rfl ?_ ?_ ?_ | refine SXl.v (OpW.loadAll 1 rfl rfl rfl) rfl ?_ ?_ ?_); rfl; rfl) | (refine l_call ?_; (first | refine SXl.v (OpW.call rfl (fun w hl => styleC_any _ _)) rfl ?_ ?_ ?_ | refine SXl.v (OpW.call rfl (fun w hl => depthOf_any l _ o _ c R _ (by omega) (h.keep hl.mod))) rfl ?_ ?_ ?_ | refine SXl.v (OpW.calls rfl (fun w _ => in_any _ _ _ _)) rfl ?_ ?_ ?_); rfl; rfl) | (refine l_fieldAddr ?_; (refine SXl.v (OpW.fieldAddr rfl) rfl ?_ ?_ ?_); rfl; rfl) | (refine l_move ?_; (refine SXl.v (OpW.move rfl) rfl ?_ ?_ ?_); rfl; rfl) | (refine l_assign ?_; (refine SXl.v (OpW.assign rfl) rfl ?_ ?_ ?_); rfl; rfl) | (refine l_add ?_; (refine SXl.v (OpW.succ rfl rfl (by omega)) rfl ?_ ?_ ?_); rfl; rfl) | (refine l_lss ?_; (refine SXl.v (OpW.lssT rfl rfl (by omega)) rfl ?_ ?_ ?_); rfl; rfl) | (refine l_not ?_; (refine SXl.v (OpW.not rfl) rfl ?_ ?_ ?_); rfl; rfl) | (refine l_pick ?_; (refine SXl.v (OpW.pick rfl rfl rfl) rfl ?_ ?_ ?_); rfl; rfl) | (refine l_indexAddr ?_; (refine SXl.v (OpW.indexAddr (by omega) rfl rfl) rfl ?_ ?_ ?_); rfl; rfl) | (refine l_alloc ?_; refine SXl.alloc ?_ ?_ (fun g => ?_); rfl; rfl) | (refine l_store ?_; first | (refine SXl.storeAll 0 ?_ rfl rfl rfl rfl rfl rfl rfl ?_; rfl; simp only [List.set_cons_zero, List.set_cons_succ]) | (refine SXl.storeAll 1 ?_ rfl rfl rfl rfl rfl rfl rfl ?_; rfl; simp only [List.set_cons_zero, List.set_cons_succ]) | (refine SXl.storeAll 2 ?_ rfl rfl rfl rfl rfl rfl rfl ?_; rfl; simp only [List.set_cons_zero, List.set_cons_succ]) | (refine SXl.storeRow 0 ?_ rfl rfl rfl rfl rfl rfl rfl ?_; rfl; simp only [over, List.set_cons_zero, List.set_cons_succ]) | (refine SXl.storeRow 1 ?_ rfl rfl rfl rfl rfl rfl rfl ?_; rfl; simp only [over, List.set_cons_zero, List.set_cons_succ]) | (refine SXl.storeRow 2 ?_ rfl rfl rfl rfl rfl rfl rfl ?_; rfl; simp only [over, List.set_cons_zero, List.set_cons_succ])) | ((first | rw [q1] | rw [q2])) | refine SX.ret ?_ | refine SQ.thenRet ?_ | refine SQ.blockRet ?_)
    refine SQ.body1 rfl rfl (fun w' hl => ⟨by rw [treeOk_no hxk (hv)], hl.mod⟩)
  repeat (first | refine SX.seq ?_ | refine SXl.nil ?_ | refine SX.region ?_ | refine SQ.thenNormal ?_ | refine SX.block ?_ | refine SX.skip ?_ | refine SX.condT rfl ?_ | refine SX.condF rfl ?_ | (refine l_load ?_; (first | refine SXl.v (OpW.loadRowOld rfl hc1 (nodeRow_len _ _ _ _ _ _ _ _ _) (Nat.succ_pos _) (fun h => h)) rfl ?_ ?_ ?_ | refine SXl.v (OpW.loadRow (cells := nodeRow up ka kids.length kc st me ra ru.length rc) 0 rfl rfl rfl (nodeRow_style _ _ _ _ _ _ _ _ _)) rfl ?_ ?_ ?_ | refine SXl.v (OpW.load 0 rfl rfl rfl) rfl ?_ ?_ ?_ | refine SXl.v (OpW.loadAll 1 rfl rfl rfl) rfl ?_ ?_ ?_); rfl; rfl) | (refine l_call ?_; (first | refine SXl.v (OpW.call rfl (fun w hl => styleC_any _ _)) rfl ?_ ?_ ?_ | refine SXl.v (OpW.call rfl (fun w hl => depthOf_any l _ o _ c R _ (by omega) (h.keep hl.mod))) rfl ?_ ?_ ?_ | refine SXl.v (OpW.calls rfl (fun w _ => in_any _ _ _ _)) rfl ?_ ?_ ?_); rfl; rfl) | (refine l_fieldAddr ?_; (refine SXl.v (OpW.fieldAddr rfl) rfl ?_ ?_ ?_); rfl; rfl) | (refine l_move ?_; (refine SXl.v (OpW.move rfl) rfl ?_ ?_ ?_); rfl; rfl) | (refine l_assign ?_; (refine SXl.v (OpW.assign rfl) rfl ?_ ?_ ?_); rfl; rfl) | (refine l_len ?_; (refine SXl.v (OpW.len rfl) rfl ?_ ?_ ?_); rfl; rfl) | (refine l_add ?_; (refine SXl.v (OpW.succ rfl rfl (by omega)) rfl ?_ ?_ ?_); rfl; rfl) | (refine l_lss ?_; (refine SXl.v (OpW.lssT rfl rfl (by omega)) rfl ?_ ?_ ?_); rfl; rfl) | (refine l_not ?_; (refine SXl.v (OpW.not rfl) rfl ?_ ?_ ?_); rfl; rfl) | (refine l_pick ?_; (refine SXl.v (OpW.pick rfl rfl rfl) rfl ?_ ?_ ?_); rfl; rfl) | (refine l_indexAddr ?_; (refine SXl.v (OpW.indexAddr (by omega) rfl rfl) rfl ?_ ?_ ?_); rfl; rfl) | (refine l_alloc ?_; refine SXl.alloc ?_ ?_ (fun g => ?_); rfl; rfl) | (refine l_store ?_; first | (refine SXl.storeAll 0 ?_ rfl rfl rfl rfl rfl rfl rfl ?_; rfl; simp only [List.set_cons_zero, List.set_cons_succ]) | (refine SXl.storeAll 1 ?_ rfl rfl rfl rfl rfl rfl rfl ?_; rfl; simp only [List.set_cons_zero, List.set_cons_succ]) | (refine SXl.storeAll 2 ?_ rfl rfl rfl rfl rfl rfl rfl ?_; rfl; simp only [List.set_cons_zero, List.set_cons_succ]) | (refine SXl.storeRow 0 ?_ rfl rfl rfl rfl rfl rfl rfl ?_; rfl; simp only [over, List.set_cons_zero, List.set_cons_succ]) | (refine SXl.storeRow 1 ?_ rfl rfl rfl rfl rfl rfl rfl ?_; rfl; simp only [over, List.set_cons_zero, List.set_cons_succ]) | (refine SXl.storeRow 2 ?_ rfl rfl rfl rfl rfl rfl rfl ?_; rfl; simp only [over, List.set_cons_zero, List.set_cons_succ])) | ((first | rw [q1] | rw [q2])))
  refine SX.loopi (fun j : Nat => j ≤ kids.length ∧ ∀ i y, i < j → kids[i]? = some y → kidOk l k y = true) (fun j => kids.length - j) (fun _ => [⟨g, nodeRow up ka kids.length kc st me ra ru.length rc, 86⟩, ⟨gt, [.slice (some ⟨b1, o1, none⟩) l.length c], 37⟩]) (fun _ => []) (fun _ => []) (fun j => [(1, .pointer (some ⟨gt, 0, none⟩)), (4, .pointer (some ⟨g, 0, none⟩)), (5, .int .i64 ((k + 1 : Nat) : Int)), (16, .slice (some ⟨b1, o1, none⟩) l.length c), (17, .int .i64 l.length), (18, .int .i64 k), (37, .slice ka kids.length kc), (38, .int .i64 kids.length), (39, .int .i64 j)]) 0 ⟨Nat.zero_le _, fun i x h => absurd h (Nat.not_lt_zero _)⟩ ?_ (fun _ hl => hl) ?_
  · (repeat (first | exact subF_nil _ | (refine subF_cons rfl ?_) | (refine subF_consv rfl (by rfl) ?_)))
  rintro j ⟨hj, hks⟩
  by_cases hjl : j < kids.length
  · obtain ⟨b3, o3, y, e3, hR3, hb3, hyk, hc3⟩ := IntSlice.get hk1 hjl
    subst e3
    replace hyk := hyk.out
    cases p1 : inB y 1 l.length
    · have hv := nodeOk_k (l := l) (i := k) (x := ⟨up, kids, st, me, ru⟩) hyk (by simp [kidOk, p1])
      repeat (first | refine SX.seq ?_ | refine SXl.nil ?_ | refine SX.region ?_ | refine SQ.thenNormal ?_ | refine SX.block ?_ | refine SX.skip ?_ | refine SX.condT rfl ?_ | (refine SXl.no rfl rfl rfl ?_) | (refine l_call ?_; (refine SXl.v (OpW.call rfl (fun w hl => isNode_any _ _ _ _ _)) rfl ?_ ?_ ?_); rfl; rfl) | (refine l_load ?_; (first | refine SXl.v (OpW.loadOld rfl (by assumption) (fun h => h)) rfl ?_ ?_ ?_ | refine SXl.v (OpW.loadAll 1 rfl rfl rfl) rfl ?_ ?_ ?_); rfl; rfl) | (refine l_move ?_; (refine SXl.v (OpW.move rfl) rfl ?_ ?_ ?_); rfl; rfl) | (refine l_assign ?_; (refine SXl.v (OpW.assign rfl) rfl ?_ ?_ ?_); rfl; rfl) | (refine l_lss ?_; (refine SXl.v (OpW.lssT rfl rfl (by omega)) rfl ?_ ?_ ?_); rfl; rfl) | (refine l_not ?_; (refine SXl.v (OpW.not rfl) rfl ?_ ?_ ?_); rfl; rfl) | (refine l_pick ?_; (refine SXl.v (OpW.pick rfl rfl rfl) rfl ?_ ?_ ?_); rfl; rfl) | (refine l_indexAddr ?_; (refine SXl.v (OpW.indexAddr1 (by omega) rfl rfl) rfl ?_ ?_ ?_); rfl; rfl) | (rw [p1]) | refine SX.ret ?_ | refine SQ.thenRet ?_ | refine SQ.blockRet ?_)
      refine SQ.body1 rfl rfl (fun w' hl => ⟨by rw [treeOk_no hxk (hv)], hl.mod⟩)
    obtain ⟨ky, rfl, hky⟩ := inB_node p1
    obtain ⟨b2, o2, z, r2, e2, hR2, hb2, hzk, hr2, hl2, hc2⟩ := h.get hky
    obtain ⟨rfl, rfl⟩ : b1 = b2 ∧ o1 = o2 := by simpa using e2
    obtain ⟨kb, kd, rb, rd, rfl, _, _, _⟩ := hr2
    have hkid : kidOk l k ((ky + 1 : Nat) : Int) = decide (z.up = ((k + 1 : Nat) : Int)) := kidOk_at p1 hzk.out
    by_cases p2 : z.up = ((k + 1 : Nat) : Int)
    · repeat (first | refine SX.seq ?_ | refine SXl.nil ?_ | refine SX.region ?_ | refine SQ.thenNormal ?_ | refine SX.block ?_ | refine SX.skip ?_ | refine SX.condT rfl ?_ | refine SX.condF rfl ?_ | (refine l_call ?_; (first | refine SXl.v (OpW.call rfl (fun w hl => isNode_any _ _ _ _ _)) rfl ?_ ?_ ?_ | refine SXl.v (OpW.call rfl (fun w hl => node_any _ _ _ _ ky _ _ _ _ _ _ _ _ _ w (by omega) hky (fun j v hv => hl.old (hc2 j v hv) (fun h => h)))) rfl ?_ ?_ ?_); rfl; rfl) | (refine l_field ?_; (refine SXl.v (OpW.field rfl (nodeRow_a0 _ _ _ _ _ _ _ _ _)) rfl ?_ ?_ ?_); rfl; rfl) | (refine l_load ?_; (first | refine SXl.v (OpW.loadOld rfl (by assumption) (fun h => h)) rfl ?_ ?_ ?_ | refine SXl.v (OpW.loadAll 1 rfl rfl rfl) rfl ?_ ?_ ?_); rfl; rfl) | (refine l_move ?_; (refine SXl.v (OpW.move rfl) rfl ?_ ?_ ?_); rfl; rfl) | (refine l_assign ?_; (refine SXl.v (OpW.assign rfl) rfl ?_ ?_ ?_); rfl; rfl) | (refine l_add ?_; (refine SXl.v (OpW.succ rfl rfl (by omega)) rfl ?_ ?_ ?_); rfl; rfl) | (refine l_lss ?_; (refine SXl.v (OpW.lssT rfl rfl (by omega)) rfl ?_ ?_ ?_); rfl; rfl) | (refine l_neq ?_; (refine SXl.v (OpW.neqF rfl rfl (by omega)) rfl ?_ ?_ ?_); rfl; rfl) | (refine l_not ?_; (refine SXl.v (OpW.not rfl) rfl ?_ ?_ ?_); rfl; rfl) | (refine l_pick ?_; (refine SXl.v (OpW.pick rfl rfl rfl) rfl ?_ ?_ ?_); rfl; rfl) | (refine l_indexAddr ?_; (refine SXl.v (OpW.indexAddr1 (by omega) rfl rfl) rfl ?_ ?_ ?_); rfl; rfl) | (rw [p1]) | refine SQ.blockNormal ?_)
      refine SQ.roundi (j + 1) ⟨by omega, pto_succ hks hyk (by rw [hkid]; exact decide_eq_true p2)⟩ (by omega) ?_ (fun _ hl => hl)
      (repeat (first | exact subF_nil _ | (refine subF_cons rfl ?_) | (refine subF_consv rfl (by rfl) ?_)))
    · have hv := nodeOk_k (l := l) (i := k) (x := ⟨up, kids, st, me, ru⟩) hyk (by rw [hkid]; exact decide_eq_false p2)
      repeat (first | refine SX.seq ?_ | refine SXl.nil ?_ | refine SX.region ?_ | refine SQ.thenNormal ?_ | refine SX.block ?_ | refine SX.skip ?_ | refine SX.condT rfl ?_ | (refine l_call ?_; (first | refine SXl.v (OpW.call rfl (fun w hl => isNode_any _ _ _ _ _)) rfl ?_ ?_ ?_ | refine SXl.v (OpW.call rfl (fun w hl => node_any _ _ _ _ ky _ _ _ _ _ _ _ _ _ w (by omega) hky (fun j v hv => hl.old (hc2 j v hv) (fun h => h)))) rfl ?_ ?_ ?_); rfl; rfl) | (refine l_field ?_; (refine SXl.v (OpW.field rfl (nodeRow_a0 _ _ _ _ _ _ _ _ _)) rfl ?_ ?_ ?_); rfl; rfl) | (refine l_load ?_; (first | refine SXl.v (OpW.loadOld rfl (by assumption) (fun h => h)) rfl ?_ ?_ ?_ | refine SXl.v (OpW.loadAll 1 rfl rfl rfl) rfl ?_ ?_ ?_); rfl; rfl) | (refine l_move ?_; (refine SXl.v (OpW.move rfl) rfl ?_ ?_ ?_); rfl; rfl) | (refine l_assign ?_; (refine SXl.v (OpW.assign rfl) rfl ?_ ?_ ?_); rfl; rfl) | (refine l_lss ?_; (refine SXl.v (OpW.lssT rfl rfl (by omega)) rfl ?_ ?_ ?_); rfl; rfl) | (refine l_neq ?_; (refine SXl.v (OpW.neqT rfl rfl (by omega)) rfl ?_ ?_ ?_); rfl; rfl) | (refine l_not ?_; (refine SXl.v (OpW.not rfl) rfl ?_ ?_ ?_); rfl; rfl) | (refine l_pick ?_; (refine SXl.v (OpW.pick rfl rfl rfl) rfl ?_ ?_ ?_); rfl; rfl) | (refine l_indexAddr ?_; (refine SXl.v (OpW.indexAddr1 (by omega) rfl rfl) rfl ?_ ?_ ?_); rfl; rfl) | (rw [p1]) | refine SX.ret ?_ | refine SQ.thenRet ?_ | refine SQ.blockRet ?_)
      refine SQ.body1 rfl rfl (fun w' hl => ⟨by rw [treeOk_no hxk (hv)], hl.mod⟩)
  have hka := all_ints (p := kidOk l k) hks (by omega)
  by_cases u0 : up = 0
  · subst u0
    have hup : upOk l k ⟨0, kids, st, me, ru⟩ = true := rfl
    cases me
    · by_cases r0 : ru.length = 0
      · repeat (first | refine SX.seq ?_ | refine SXl.nil ?_ | refine SX.region ?_ | refine SQ.thenNormal ?_ | refine SX.skip ?_ | refine SX.condF rfl ?_ | (refine SXl.no rfl rfl rfl ?_) | (refine l_load ?_; (refine SXl.v (OpW.load 0 rfl rfl rfl) rfl ?_ ?_ ?_); rfl; rfl) | (refine l_fieldAddr ?_; (refine SXl.v (OpW.fieldAddr rfl) rfl ?_ ?_ ?_); rfl; rfl) | (refine l_move ?_; (refine SXl.v (OpW.move rfl) rfl ?_ ?_ ?_); rfl; rfl) | (refine l_len ?_; (refine SXl.v (OpW.len rfl) rfl ?_ ?_ ?_); rfl; rfl) | (refine l_add ?_; (refine SXl.v (OpW.succ rfl rfl (by omega)) rfl ?_ ?_ ?_); rfl; rfl) | (refine l_gtr ?_; (refine SXl.v (OpW.gtrF rfl rfl (by omega)) rfl ?_ ?_ ?_); rfl; rfl) | (refine l_lss ?_; (refine SXl.v (OpW.lssF rfl rfl (by omega)) rfl ?_ ?_ ?_); rfl; rfl) | (refine l_neq ?_; (refine SXl.v (OpW.neqF rfl rfl (by omega)) rfl ?_ ?_ ?_); rfl; rfl) | (refine l_not ?_; (refine SXl.v (OpW.not rfl) rfl ?_ ?_ ?_); rfl; rfl) | (refine l_pick ?_; (refine SXl.v (OpW.pick rfl rfl rfl) rfl ?_ ?_ ?_); rfl; rfl) | refine SX.exit ?_ | refine SQ.thenExit ?_ | refine SQ.blockNormal ?_ | refine SQ.blockExit ?_)
        refine SQ.roundi (k + 1) ⟨by omega, pto_succ hs hxk (nodeOk_y q1 q2 hka hup (by simp [tabOk, r0]))⟩ (by omega) ?_ (fun _ hl => hl.drop1)
        (repeat (first | exact subF_nil _ | (refine subF_cons rfl ?_) | (refine subF_consv rfl (by rfl) ?_)))
      · have hv := nodeOk_t (l := l) (i := k) (x := ⟨0, kids, st, false, ru⟩) (by simp [tabOk]; intro e; exact r0 (by rw [e]; rfl))
        repeat (first | refine SX.seq ?_ | refine SXl.nil ?_ | refine SX.region ?_ | refine SQ.thenNormal ?_ | refine SX.skip ?_ | refine SX.condT rfl ?_ | refine SX.condF rfl ?_ | (refine SXl.no rfl rfl rfl ?_) | (refine l_load ?_; (refine SXl.v (OpW.load 0 rfl rfl rfl) rfl ?_ ?_ ?_); rfl; rfl) | (refine l_fieldAddr ?_; (refine SXl.v (OpW.fieldAddr rfl) rfl ?_ ?_ ?_); rfl; rfl) | (refine l_move ?_; (refine SXl.v (OpW.move rfl) rfl ?_ ?_ ?_); rfl; rfl) | (refine l_assign ?_; (refine SXl.v (OpW.assign rfl) rfl ?_ ?_ ?_); rfl; rfl) | (refine l_len ?_; (refine SXl.v (OpW.len rfl) rfl ?_ ?_ ?_); rfl; rfl) | (refine l_gtr ?_; (refine SXl.v (OpW.gtrT rfl rfl (by omega)) rfl ?_ ?_ ?_); rfl; rfl) | (refine l_lss ?_; (refine SXl.v (OpW.lssF rfl rfl (by omega)) rfl ?_ ?_ ?_); rfl; rfl) | (refine l_neq ?_; (refine SXl.v (OpW.neqF rfl rfl (by omega)) rfl ?_ ?_ ?_); rfl; rfl) | (refine l_not ?_; (refine SXl.v (OpW.not rfl) rfl ?_ ?_ ?_); rfl; rfl) | (refine l_pick ?_; (refine SXl.v (OpW.pick rfl rfl rfl) rfl ?_ ?_ ?_); rfl; rfl) | refine SX.ret ?_ | refine SX.exit ?_ | refine SQ.thenRet ?_ | refine SQ.thenExit ?_ | refine SQ.blockRet ?_ | refine SQ.blockExit ?_)
        refine SQ.body1 rfl rfl (fun w' hl => ⟨by rw [treeOk_no hxk (hv)], hl.mod⟩)
    · cases tq : tableOk ru
      · have hv := nodeOk_t (l := l) (i := k) (x := ⟨0, kids, st, true, ru⟩) (by simp [tabOk, tq])
        repeat (first | refine SX.seq ?_ | refine SXl.nil ?_ | refine SX.region ?_ | refine SQ.thenNormal ?_ | refine SX.skip ?_ | refine SX.condT rfl ?_ | refine SX.condF rfl ?_ | (refine SXl.no rfl rfl rfl ?_) | (refine l_load ?_; (first | refine SXl.v (OpW.loadRow (cells := nodeRow _ _ _ _ _ _ _ _ _) 0 rfl rfl rfl (nodeRow_tab _ _ _ _ _ _ _ _ _)) rfl ?_ ?_ ?_ | refine SXl.v (OpW.load 0 rfl rfl rfl) rfl ?_ ?_ ?_); rfl; rfl) | (refine l_call ?_; (refine SXl.v (OpW.call rfl (fun w hl => tableOk_any ru ra rc R _ hf2 (ht1.flatKeep hl.mod))) rfl ?_ ?_ ?_); rfl; rfl) | (refine l_fieldAddr ?_; (refine SXl.v (OpW.fieldAddr rfl) rfl ?_ ?_ ?_); rfl; rfl) | (refine l_move ?_; (refine SXl.v (OpW.move rfl) rfl ?_ ?_ ?_); rfl; rfl) | (refine l_assign ?_; (refine SXl.v (OpW.assign rfl) rfl ?_ ?_ ?_); rfl; rfl) | (refine l_lss ?_; (refine SXl.v (OpW.lssF rfl rfl (by omega)) rfl ?_ ?_ ?_); rfl; rfl) | (refine l_neq ?_; (refine SXl.v (OpW.neqF rfl rfl (by omega)) rfl ?_ ?_ ?_); rfl; rfl) | (refine l_not ?_; (refine SXl.v (OpW.not rfl) rfl ?_ ?_ ?_); rfl; rfl) | (refine l_pick ?_; (refine SXl.v (OpW.pick rfl rfl rfl) rfl ?_ ?_ ?_); rfl; rfl) | (rw [tq]) | refine SX.ret ?_ | refine SX.exit ?_ | refine SQ.thenRet ?_ | refine SQ.thenExit ?_ | refine SQ.blockRet ?_ | refine SQ.blockExit ?_)
        refine SQ.body1 rfl rfl (fun w' hl => ⟨by rw [treeOk_no hxk (hv)], hl.mod⟩)
      by_cases k0 : kids.length = 0
      · repeat (first | refine SX.seq ?_ | refine SXl.nil ?_ | refine SX.region ?_ | refine SQ.thenNormal ?_ | refine SX.skip ?_ | refine SX.condF rfl ?_ | (refine SXl.no rfl rfl rfl ?_) | (refine l_load ?_; (first | refine SXl.v (OpW.loadRow (cells := nodeRow _ _ _ _ _ _ _ _ _) 0 rfl rfl rfl (nodeRow_tab _ _ _ _ _ _ _ _ _)) rfl ?_ ?_ ?_ | refine SXl.v (OpW.load 0 rfl rfl rfl) rfl ?_ ?_ ?_); rfl; rfl) | (refine l_call ?_; (refine SXl.v (OpW.call rfl (fun w hl => tableOk_any ru ra rc R _ hf2 (ht1.flatKeep hl.mod))) rfl ?_ ?_ ?_); rfl; rfl) | (refine l_fieldAddr ?_; (refine SXl.v (OpW.fieldAddr rfl) rfl ?_ ?_ ?_); rfl; rfl) | (refine l_move ?_; (refine SXl.v (OpW.move rfl) rfl ?_ ?_ ?_); rfl; rfl) | (refine l_len ?_; (refine SXl.v (OpW.len rfl) rfl ?_ ?_ ?_); rfl; rfl) | (refine l_add ?_; (refine SXl.v (OpW.succ rfl rfl (by omega)) rfl ?_ ?_ ?_); rfl; rfl) | (refine l_gtr ?_; (refine SXl.v (OpW.gtrF rfl rfl (by omega)) rfl ?_ ?_ ?_); rfl; rfl) | (refine l_lss ?_; (refine SXl.v (OpW.lssF rfl rfl (by omega)) rfl ?_ ?_ ?_); rfl; rfl) | (refine l_neq ?_; (refine SXl.v (OpW.neqF rfl rfl (by omega)) rfl ?_ ?_ ?_); rfl; rfl) | (refine l_not ?_; (refine SXl.v (OpW.not rfl) rfl ?_ ?_ ?_); rfl; rfl) | (refine l_pick ?_; (refine SXl.v (OpW.pick rfl rfl rfl) rfl ?_ ?_ ?_); rfl; rfl) | (rw [tq]) | refine SX.exit ?_ | refine SQ.thenExit ?_ | refine SQ.blockNormal ?_ | refine SQ.blockExit ?_)
        refine SQ.roundi (k + 1) ⟨by omega, pto_succ hs hxk (nodeOk_y q1 q2 hka hup (by simp [tabOk, tq, k0]))⟩ (by omega) ?_ (fun _ hl => hl.drop1)
        (repeat (first | exact subF_nil _ | (refine subF_cons rfl ?_) | (refine subF_consv rfl (by rfl) ?_)))
      · have hv := nodeOk_t (l := l) (i := k) (x := ⟨0, kids, st, true, ru⟩) (by simp [tabOk, tq]; intro e; exact k0 (by rw [e]; rfl))
        repeat (first | refine SX.seq ?_ | refine SXl.nil ?_ | refine SX.region ?_ | refine SQ.thenNormal ?_ | refine SX.skip ?_ | refine SX.condT rfl ?_ | refine SX.condF rfl ?_ | (refine SXl.no rfl rfl rfl ?_) | (refine l_load ?_; (first | refine SXl.v (OpW.loadRow (cells := nodeRow _ _ _ _ _ _ _ _ _) 0 rfl rfl rfl (nodeRow_tab _ _ _ _ _ _ _ _ _)) rfl ?_ ?_ ?_ | refine SXl.v (OpW.load 0 rfl rfl rfl) rfl ?_ ?_ ?_); rfl; rfl) | (refine l_call ?_; (refine SXl.v (OpW.call rfl (fun w hl => tableOk_any ru ra rc R _ hf2 (ht1.flatKeep hl.mod))) rfl ?_ ?_ ?_); rfl; rfl) | (refine l_fieldAddr ?_; (refine SXl.v (OpW.fieldAddr rfl) rfl ?_ ?_ ?_); rfl; rfl) | (refine l_move ?_; (refine SXl.v (OpW.move rfl) rfl ?_ ?_ ?_); rfl; rfl) | (refine l_assign ?_; (refine SXl.v (OpW.assign rfl) rfl ?_ ?_ ?_); rfl; rfl) | (refine l_len ?_; (refine SXl.v (OpW.len rfl) rfl ?_ ?_ ?_); rfl; rfl) | (refine l_gtr ?_; (refine SXl.v (OpW.gtrT rfl rfl (by omega)) rfl ?_ ?_ ?_); rfl; rfl) | (refine l_lss ?_; (refine SXl.v (OpW.lssF rfl rfl (by omega)) rfl ?_ ?_ ?_); rfl; rfl) | (refine l_neq ?_; (refine SXl.v (OpW.neqF rfl rfl (by omega)) rfl ?_ ?_ ?_); rfl; rfl) | (refine l_not ?_; (refine SXl.v (OpW.not rfl) rfl ?_ ?_ ?_); rfl; rfl) | (refine l_pick ?_; (refine SXl.v (OpW.pick rfl rfl rfl) rfl ?_ ?_ ?_); rfl; rfl) | (rw [tq]) | refine SX.ret ?_ | refine SX.exit ?_ | refine SQ.thenRet ?_ | refine SQ.thenExit ?_ | refine SQ.blockRet ?_ | refine SQ.blockExit ?_)
        refine SQ.body1 rfl rfl (fun w' hl => ⟨by rw [treeOk_no hxk (hv)], hl.mod⟩)
  have hu0 : up ≠ 0 := u0
  obtain ⟨ku, rfl, hku⟩ := depth_up hxk q2 u0
  obtain ⟨b5, o5, z, r5, e5, hR5, hb5, hzk, hr5, hl5, hc5⟩ := h.get hku
  obtain ⟨rfl, rfl⟩ : b1 = b5 ∧ o1 = o5 := by simpa using e5
  obtain ⟨kb, kd, rb, rd, rfl, hk5, _, _⟩ := hr5
  have hfz : z.kids.length ≤ 1048576 := (hfit _ (List.mem_of_getElem? hzk.out)).1
  have hup := upOk_at (l := l) (i := k) (x := ⟨((ku + 1 : Nat) : Int), kids, st, me, ru⟩) rfl hzk.out
  repeat (first | refine SX.seq ?_ | refine SXl.nil ?_ | refine SX.region ?_ | refine SQ.thenNormal ?_ | refine SX.block ?_ | refine SX.condT rfl ?_ | refine SX.condF rfl ?_ | (refine l_call ?_; (refine SXl.v (OpW.call rfl (fun w hl => node_any _ _ _ _ ku _ _ _ _ _ _ _ _ _ w (by omega) hku (fun j v hv => hl.old (hc5 j v hv) (fun h => h)))) rfl ?_ ?_ ?_); rfl; rfl) | (refine l_field ?_; (refine SXl.v (OpW.field rfl (nodeRow_a1 _ _ _ _ _ _ _ _ _)) rfl ?_ ?_ ?_); rfl; rfl) | (refine l_load ?_; (first | refine SXl.v (OpW.load 0 rfl rfl rfl) rfl ?_ ?_ ?_ | refine SXl.v (OpW.loadAll 1 rfl rfl rfl) rfl ?_ ?_ ?_); rfl; rfl) | (refine l_fieldAddr ?_; (refine SXl.v (OpW.fieldAddr rfl) rfl ?_ ?_ ?_); rfl; rfl) | (refine l_move ?_; (refine SXl.v (OpW.move rfl) rfl ?_ ?_ ?_); rfl; rfl) | (refine l_assign ?_; (refine SXl.v (OpW.assign rfl) rfl ?_ ?_ ?_); rfl; rfl) | (refine l_len ?_; (refine SXl.v (OpW.len rfl) rfl ?_ ?_ ?_); rfl; rfl) | (refine l_lss ?_; (refine SXl.v (OpW.lssF rfl rfl (by omega)) rfl ?_ ?_ ?_); rfl; rfl) | (refine l_neq ?_; (refine SXl.v (OpW.neqT rfl rfl (by omega)) rfl ?_ ?_ ?_); rfl; rfl) | refine SX.exit ?_ | refine SQ.thenExit ?_ | refine SQ.blockExit ?_)
  refine SX.loopi (fun j : Nat => j ≤ z.kids.length) (fun j => z.kids.length - j) (fun _ => [⟨g, nodeRow ((ku + 1 : Nat) : Int) ka kids.length kc st me ra ru.length rc, 86⟩, ⟨gt, [.slice (some ⟨b1, o1, none⟩) l.length c], 37⟩]) (fun _ => []) (fun _ => []) (fun j => [(1, .pointer (some ⟨gt, 0, none⟩)), (4, .pointer (some ⟨g, 0, none⟩)), (5, .int .i64 ((k + 1 : Nat) : Int)), (16, .slice (some ⟨b1, o1, none⟩) l.length c), (17, .int .i64 l.length), (18, .int .i64 k), (8, .int .i64 (hasTo z.kids ((k + 1 : Nat) : Int) j : Nat)), (63, .slice kb z.kids.length kd), (64, .int .i64 z.kids.length), (65, .int .i64 j)]) 0 (Nat.zero_le _) ?_ (fun _ hl => hl) ?_
  · (repeat (first | exact subF_nil _ | (refine subF_cons rfl ?_) | (refine subF_consv rfl (by rfl) ?_)))
  intro j hj
  have hle := hasTo_le z.kids ((k + 1 : Nat) : Int) j
  by_cases hjl : j < z.kids.length
  · obtain ⟨b6, o6, y, rfl, _, _, hyk, hc6⟩ := IntSlice.get hk5 hjl
    have hsu := hasTo_succ (n := ((k + 1 : Nat) : Int)) hyk.out
    by_cases e : y = ((k + 1 : Nat) : Int)
    · rw [if_pos e] at hsu
      repeat (first | refine SX.seq ?_ | refine SXl.nil ?_ | refine SX.region ?_ | refine SQ.thenNormal ?_ | refine SX.block ?_ | refine SX.skip ?_ | refine SX.condT rfl ?_ | (refine l_load ?_; (refine SXl.v (OpW.loadOld rfl (by assumption) (fun h => h)) rfl ?_ ?_ ?_); rfl; rfl) | (refine l_move ?_; (refine SXl.v (OpW.move rfl) rfl ?_ ?_ ?_); rfl; rfl) | (refine l_assign ?_; (refine SXl.v (OpW.assign rfl) rfl ?_ ?_ ?_); rfl; rfl) | (refine l_add ?_; (refine SXl.v (OpW.succ rfl rfl (by omega)) rfl ?_ ?_ ?_); rfl; rfl) | (refine l_eql ?_; (refine SXl.v (OpW.eqlT rfl rfl (by omega)) rfl ?_ ?_ ?_); rfl; rfl) | (refine l_lss ?_; (refine SXl.v (OpW.lssT rfl rfl (by omega)) rfl ?_ ?_ ?_); rfl; rfl) | (refine l_indexAddr ?_; (refine SXl.v (OpW.indexAddr1 (by omega) rfl rfl) rfl ?_ ?_ ?_); rfl; rfl) | refine SQ.blockNormal ?_)
      refine SQ.roundi (j + 1) (by omega) (by omega) ?_ (fun _ hl => hl)
      (repeat (first | exact subF_nil _ | (refine subF_cons rfl ?_) | (refine subF_consv rfl (by rw [hsu]) ?_)))
    · rw [if_neg e] at hsu
      repeat (first | refine SX.seq ?_ | refine SXl.nil ?_ | refine SX.region ?_ | refine SQ.thenNormal ?_ | refine SX.block ?_ | refine SX.skip ?_ | refine SX.condT rfl ?_ | refine SX.condF rfl ?_ | (refine l_load ?_; (refine SXl.v (OpW.loadOld rfl (by assumption) (fun h => h)) rfl ?_ ?_ ?_); rfl; rfl) | (refine l_move ?_; (refine SXl.v (OpW.move rfl) rfl ?_ ?_ ?_); rfl; rfl) | (refine l_assign ?_; (refine SXl.v (OpW.assign rfl) rfl ?_ ?_ ?_); rfl; rfl) | (refine l_add ?_; (refine SXl.v (OpW.succ rfl rfl (by omega)) rfl ?_ ?_ ?_); rfl; rfl) | (refine l_eql ?_; (refine SXl.v (OpW.eqlF rfl rfl (by omega)) rfl ?_ ?_ ?_); rfl; rfl) | (refine l_lss ?_; (refine SXl.v (OpW.lssT rfl rfl (by omega)) rfl ?_ ?_ ?_); rfl; rfl) | (refine l_indexAddr ?_; (refine SXl.v (OpW.indexAddr1 (by omega) rfl rfl) rfl ?_ ?_ ?_); rfl; rfl) | refine SQ.blockNormal ?_)
      refine SQ.roundi (j + 1) (by omega) (by omega) ?_ (fun _ hl => hl)
      (repeat (first | exact subF_nil _ | (refine subF_cons rfl ?_) | (refine subF_consv rfl (by rw [hsu]; rfl) ?_)))
  have hjz : j = z.kids.length := by omega
  have hall := hasTo_all (n := ((k + 1 : Nat) : Int)) (show z.kids.length ≤ j by omega)
  by_cases c1 : z.kids.count ((k + 1 : Nat) : Int) = 1
  rotate_left
  · rw [decide_eq_false c1] at hup
    have hv := nodeOk_u hup
    repeat (first | refine SX.seq ?_ | refine SXl.nil ?_ | refine SX.region ?_ | refine SQ.thenNormal ?_ | refine SX.condT rfl ?_ | refine SX.condF rfl ?_ | (refine l_move ?_; (refine SXl.v (OpW.move rfl) rfl ?_ ?_ ?_); rfl; rfl) | (refine l_assign ?_; (refine SXl.v (OpW.assign rfl) rfl ?_ ?_ ?_); rfl; rfl) | (refine l_lss ?_; (refine SXl.v (OpW.lssF rfl rfl (by omega)) rfl ?_ ?_ ?_); rfl; rfl) | (refine l_neq ?_; (refine SXl.v (OpW.neqT rfl rfl (by omega)) rfl ?_ ?_ ?_); rfl; rfl) | refine SX.ret ?_ | refine SX.exit ?_ | refine SQ.thenRet ?_ | refine SQ.thenExit ?_ | refine SQ.blockRet ?_ | refine SQ.blockExit ?_)
    refine SQ.body1 rfl rfl (fun w' hl => ⟨by rw [treeOk_no hxk (hv)], hl.mod⟩)
  rw [decide_eq_true c1] at hup
  cases me
  · by_cases r0 : ru.length = 0
    · repeat (first | refine SX.seq ?_ | refine SXl.nil ?_ | refine SX.region ?_ | refine SQ.thenNormal ?_ | refine SX.skip ?_ | refine SX.condF rfl ?_ | (refine SXl.no rfl rfl rfl ?_) | (refine l_load ?_; (refine SXl.v (OpW.load 0 rfl rfl rfl) rfl ?_ ?_ ?_); rfl; rfl) | (refine l_fieldAddr ?_; (refine SXl.v (OpW.fieldAddr rfl) rfl ?_ ?_ ?_); rfl; rfl) | (refine l_move ?_; (refine SXl.v (OpW.move rfl) rfl ?_ ?_ ?_); rfl; rfl) | (refine l_len ?_; (refine SXl.v (OpW.len rfl) rfl ?_ ?_ ?_); rfl; rfl) | (refine l_add ?_; (refine SXl.v (OpW.succ rfl rfl (by omega)) rfl ?_ ?_ ?_); rfl; rfl) | (refine l_gtr ?_; (refine SXl.v (OpW.gtrF rfl rfl (by omega)) rfl ?_ ?_ ?_); rfl; rfl) | (refine l_lss ?_; (refine SXl.v (OpW.lssF rfl rfl (by omega)) rfl ?_ ?_ ?_); rfl; rfl) | (refine l_neq ?_; (refine SXl.v (OpW.neqF rfl rfl (by omega)) rfl ?_ ?_ ?_); rfl; rfl) | (refine l_not ?_; (refine SXl.v (OpW.not rfl) rfl ?_ ?_ ?_); rfl; rfl) | (refine l_pick ?_; (refine SXl.v (OpW.pick rfl rfl rfl) rfl ?_ ?_ ?_); rfl; rfl) | refine SX.exit ?_ | refine SQ.thenExit ?_ | refine SQ.blockNormal ?_ | refine SQ.blockExit ?_)
      refine SQ.roundi (k + 1) ⟨by omega, pto_succ hs hxk (nodeOk_y q1 q2 hka hup (by simp [tabOk, r0]))⟩ (by omega) ?_ (fun _ hl => hl.drop1)
      (repeat (first | exact subF_nil _ | (refine subF_cons rfl ?_) | (refine subF_consv rfl (by rfl) ?_)))
    · have hv := nodeOk_t (l := l) (i := k) (x := ⟨((ku + 1 : Nat) : Int), kids, st, false, ru⟩) (by simp [tabOk]; intro e; exact r0 (by rw [e]; rfl))
      repeat (first | refine SX.seq ?_ | refine SXl.nil ?_ | refine SX.region ?_ | refine SQ.thenNormal ?_ | refine SX.skip ?_ | refine SX.condT rfl ?_ | refine SX.condF rfl ?_ | (refine SXl.no rfl rfl rfl ?_) | (refine l_load ?_; (refine SXl.v (OpW.load 0 rfl rfl rfl) rfl ?_ ?_ ?_); rfl; rfl) | (refine l_fieldAddr ?_; (refine SXl.v (OpW.fieldAddr rfl) rfl ?_ ?_ ?_); rfl; rfl) | (refine l_move ?_; (refine SXl.v (OpW.move rfl) rfl ?_ ?_ ?_); rfl; rfl) | (refine l_assign ?_; (refine SXl.v (OpW.assign rfl) rfl ?_ ?_ ?_); rfl; rfl) | (refine l_len ?_; (refine SXl.v (OpW.len rfl) rfl ?_ ?_ ?_); rfl; rfl) | (refine l_gtr ?_; (refine SXl.v (OpW.gtrT rfl rfl (by omega)) rfl ?_ ?_ ?_); rfl; rfl) | (refine l_lss ?_; (refine SXl.v (OpW.lssF rfl rfl (by omega)) rfl ?_ ?_ ?_); rfl; rfl) | (refine l_neq ?_; (refine SXl.v (OpW.neqF rfl rfl (by omega)) rfl ?_ ?_ ?_); rfl; rfl) | (refine l_not ?_; (refine SXl.v (OpW.not rfl) rfl ?_ ?_ ?_); rfl; rfl) | (refine l_pick ?_; (refine SXl.v (OpW.pick rfl rfl rfl) rfl ?_ ?_ ?_); rfl; rfl) | refine SX.ret ?_ | refine SX.exit ?_ | refine SQ.thenRet ?_ | refine SQ.thenExit ?_ | refine SQ.blockRet ?_ | refine SQ.blockExit ?_)
      refine SQ.body1 rfl rfl (fun w' hl => ⟨by rw [treeOk_no hxk (hv)], hl.mod⟩)
  · cases tq : tableOk ru
    · have hv := nodeOk_t (l := l) (i := k) (x := ⟨((ku + 1 : Nat) : Int), kids, st, true, ru⟩) (by simp [tabOk, tq])
      repeat (first | refine SX.seq ?_ | refine SXl.nil ?_ | refine SX.region ?_ | refine SQ.thenNormal ?_ | refine SX.skip ?_ | refine SX.condT rfl ?_ | refine SX.condF rfl ?_ | (refine SXl.no rfl rfl rfl ?_) | (refine l_load ?_; (first | refine SXl.v (OpW.loadRow (cells := nodeRow _ _ _ _ _ _ _ _ _) 0 rfl rfl rfl (nodeRow_tab _ _ _ _ _ _ _ _ _)) rfl ?_ ?_ ?_ | refine SXl.v (OpW.load 0 rfl rfl rfl) rfl ?_ ?_ ?_); rfl; rfl) | (refine l_call ?_; (refine SXl.v (OpW.call rfl (fun w hl => tableOk_any ru ra rc R _ hf2 (ht1.flatKeep hl.mod))) rfl ?_ ?_ ?_); rfl; rfl) | (refine l_fieldAddr ?_; (refine SXl.v (OpW.fieldAddr rfl) rfl ?_ ?_ ?_); rfl; rfl) | (refine l_move ?_; (refine SXl.v (OpW.move rfl) rfl ?_ ?_ ?_); rfl; rfl) | (refine l_assign ?_; (refine SXl.v (OpW.assign rfl) rfl ?_ ?_ ?_); rfl; rfl) | (refine l_lss ?_; (refine SXl.v (OpW.lssF rfl rfl (by omega)) rfl ?_ ?_ ?_); rfl; rfl) | (refine l_neq ?_; (refine SXl.v (OpW.neqF rfl rfl (by omega)) rfl ?_ ?_ ?_); rfl; rfl) | (refine l_not ?_; (refine SXl.v (OpW.not rfl) rfl ?_ ?_ ?_); rfl; rfl) | (refine l_pick ?_; (refine SXl.v (OpW.pick rfl rfl rfl) rfl ?_ ?_ ?_); rfl; rfl) | (rw [tq]) | refine SX.ret ?_ | refine SX.exit ?_ | refine SQ.thenRet ?_ | refine SQ.thenExit ?_ | refine SQ.blockRet ?_ | refine SQ.blockExit ?_)
      refine SQ.body1 rfl rfl (fun w' hl => ⟨by rw [treeOk_no hxk (hv)], hl.mod⟩)
    by_cases k0 : kids.length = 0
    · repeat (first | refine SX.seq ?_ | refine SXl.nil ?_ | refine SX.region ?_ | refine SQ.thenNormal ?_ | refine SX.skip ?_ | refine SX.condF rfl ?_ | (refine SXl.no rfl rfl rfl ?_) | (refine l_load ?_; (first | refine SXl.v (OpW.loadRow (cells := nodeRow _ _ _ _ _ _ _ _ _) 0 rfl rfl rfl (nodeRow_tab _ _ _ _ _ _ _ _ _)) rfl ?_ ?_ ?_ | refine SXl.v (OpW.load 0 rfl rfl rfl) rfl ?_ ?_ ?_); rfl; rfl) | (refine l_call ?_; (refine SXl.v (OpW.call rfl (fun w hl => tableOk_any ru ra rc R _ hf2 (ht1.flatKeep hl.mod))) rfl ?_ ?_ ?_); rfl; rfl) | (refine l_fieldAddr ?_; (refine SXl.v (OpW.fieldAddr rfl) rfl ?_ ?_ ?_); rfl; rfl) | (refine l_move ?_; (refine SXl.v (OpW.move rfl) rfl ?_ ?_ ?_); rfl; rfl) | (refine l_len ?_; (refine SXl.v (OpW.len rfl) rfl ?_ ?_ ?_); rfl; rfl) | (refine l_add ?_; (refine SXl.v (OpW.succ rfl rfl (by omega)) rfl ?_ ?_ ?_); rfl; rfl) | (refine l_gtr ?_; (refine SXl.v (OpW.gtrF rfl rfl (by omega)) rfl ?_ ?_ ?_); rfl; rfl) | (refine l_lss ?_; (refine SXl.v (OpW.lssF rfl rfl (by omega)) rfl ?_ ?_ ?_); rfl; rfl) | (refine l_neq ?_; (refine SXl.v (OpW.neqF rfl rfl (by omega)) rfl ?_ ?_ ?_); rfl; rfl) | (refine l_not ?_; (refine SXl.v (OpW.not rfl) rfl ?_ ?_ ?_); rfl; rfl) | (refine l_pick ?_; (refine SXl.v (OpW.pick rfl rfl rfl) rfl ?_ ?_ ?_); rfl; rfl) | (rw [tq]) | refine SX.exit ?_ | refine SQ.thenExit ?_ | refine SQ.blockNormal ?_ | refine SQ.blockExit ?_)
      refine SQ.roundi (k + 1) ⟨by omega, pto_succ hs hxk (nodeOk_y q1 q2 hka hup (by simp [tabOk, tq, k0]))⟩ (by omega) ?_ (fun _ hl => hl.drop1)
      (repeat (first | exact subF_nil _ | (refine subF_cons rfl ?_) | (refine subF_consv rfl (by rfl) ?_)))
    · have hv := nodeOk_t (l := l) (i := k) (x := ⟨((ku + 1 : Nat) : Int), kids, st, true, ru⟩) (by simp [tabOk, tq]; intro e; exact k0 (by rw [e]; rfl))
      repeat (first | refine SX.seq ?_ | refine SXl.nil ?_ | refine SX.region ?_ | refine SQ.thenNormal ?_ | refine SX.skip ?_ | refine SX.condT rfl ?_ | refine SX.condF rfl ?_ | (refine SXl.no rfl rfl rfl ?_) | (refine l_load ?_; (first | refine SXl.v (OpW.loadRow (cells := nodeRow _ _ _ _ _ _ _ _ _) 0 rfl rfl rfl (nodeRow_tab _ _ _ _ _ _ _ _ _)) rfl ?_ ?_ ?_ | refine SXl.v (OpW.load 0 rfl rfl rfl) rfl ?_ ?_ ?_); rfl; rfl) | (refine l_call ?_; (refine SXl.v (OpW.call rfl (fun w hl => tableOk_any ru ra rc R _ hf2 (ht1.flatKeep hl.mod))) rfl ?_ ?_ ?_); rfl; rfl) | (refine l_fieldAddr ?_; (refine SXl.v (OpW.fieldAddr rfl) rfl ?_ ?_ ?_); rfl; rfl) | (refine l_move ?_; (refine SXl.v (OpW.move rfl) rfl ?_ ?_ ?_); rfl; rfl) | (refine l_assign ?_; (refine SXl.v (OpW.assign rfl) rfl ?_ ?_ ?_); rfl; rfl) | (refine l_len ?_; (refine SXl.v (OpW.len rfl) rfl ?_ ?_ ?_); rfl; rfl) | (refine l_gtr ?_; (refine SXl.v (OpW.gtrT rfl rfl (by omega)) rfl ?_ ?_ ?_); rfl; rfl) | (refine l_lss ?_; (refine SXl.v (OpW.lssF rfl rfl (by omega)) rfl ?_ ?_ ?_); rfl; rfl) | (refine l_neq ?_; (refine SXl.v (OpW.neqF rfl rfl (by omega)) rfl ?_ ?_ ?_); rfl; rfl) | (refine l_not ?_; (refine SXl.v (OpW.not rfl) rfl ?_ ?_ ?_); rfl; rfl) | (refine l_pick ?_; (refine SXl.v (OpW.pick rfl rfl rfl) rfl ?_ ?_ ?_); rfl; rfl) | (rw [tq]) | refine SX.ret ?_ | refine SX.exit ?_ | refine SQ.thenRet ?_ | refine SQ.thenExit ?_ | refine SQ.blockRet ?_ | refine SQ.blockExit ?_)
      refine SQ.body1 rfl rfl (fun w' hl => ⟨by rw [treeOk_no hxk (hv)], hl.mod⟩)

end Go.Proofs.Ythffgbhphjkdeaa
namespace Go.Proofs.Ythffgbhphjkdeaa
open Go.RowKit
set_option linter.unusedVariables false
set_option linter.unusedSimpArgs false

set_option maxRecDepth 100000 in
set_option maxHeartbeats 16000000 in
theorem streeOk_any (l : List Node) (o : Bool) (a : Option Addr) (c : Nat) (R : Nat → Prop) (w : World) (hlen : l.length ≤ 1048576) (hfit : ∀ x ∈ l, x.fits 1048576) (h : NodeSlice o R w a l) :
    Calls Try.prog 23 #[.agg #[.slice a l.length c]] w fun e w' => e = .returned (.bool (treeOk l)) ∧ Mod (fun _ => False) w w' := by
  refine calls_sx Try.func23 rfl rfl (fun a h1 h2 h3 => ((Fr.nil h1 h2).arg (h3 0 _ rfl))) ?_
  by_cases hn : l.length ≤ 12
  rotate_left
  · repeat (first | refine SX.seq ?_ | refine SXl.nil ?_ | refine SX.region ?_ | refine SQ.thenNormal ?_ | refine SX.condT rfl ?_ | (refine l_load ?_; (refine SXl.v (OpW.load 0 rfl rfl rfl) rfl ?_ ?_ ?_); rfl; rfl) | (refine l_fieldAddr ?_; (refine SXl.v (OpW.fieldAddr rfl) rfl ?_ ?_ ?_); rfl; rfl) | (refine l_assign ?_; (refine SXl.v (OpW.assign rfl) rfl ?_ ?_ ?_); rfl; rfl) | (refine l_len ?_; (refine SXl.v (OpW.len rfl) rfl ?_ ?_ ?_); rfl; rfl) | (refine l_gtr ?_; (refine SXl.v (OpW.gtrT rfl rfl (by omega)) rfl ?_ ?_ ?_); rfl; rfl) | (refine l_box ?_; refine SXl.box ?_ ?_ rfl rfl (fun g => ?_); rfl; rfl) | refine SX.ret ?_ | refine SQ.thenRet ?_)
    refine SQ.body1 rfl rfl (fun w' hl => ⟨by rw [treeOk_long hn], hl.mod⟩)
  repeat (first | refine SX.seq ?_ | refine SXl.nil ?_ | refine SX.region ?_ | refine SQ.thenNormal ?_ | refine SX.block ?_ | refine SX.skip ?_ | refine SX.condF rfl ?_ | (refine l_load ?_; (refine SXl.v (OpW.load 0 rfl rfl rfl) rfl ?_ ?_ ?_); rfl; rfl) | (refine l_fieldAddr ?_; (refine SXl.v (OpW.fieldAddr rfl) rfl ?_ ?_ ?_); rfl; rfl) | (refine l_assign ?_; (refine SXl.v (OpW.assign rfl) rfl ?_ ?_ ?_); rfl; rfl) | (refine l_len ?_; (refine SXl.v (OpW.len rfl) rfl ?_ ?_ ?_); rfl; rfl) | (refine l_gtr ?_; (refine SXl.v (OpW.gtrF rfl rfl (by omega)) rfl ?_ ?_ ?_); rfl; rfl) | (refine l_box ?_; refine SXl.box ?_ ?_ rfl rfl (fun g => ?_); rfl; rfl))
  revert g; intro gt
  refine SX.loopi (fun k : Nat => k ≤ l.length ∧ ∀ i x, i < k → l[i]? = some x → nodeOk l i x = true) (fun k => l.length - k) (fun _ => [⟨gt, [.slice a l.length c], 37⟩]) (fun _ => []) (fun _ => []) (fun k => [(1, .pointer (some ⟨gt, 0, none⟩)), (3, .int .i64 k)]) 0 ⟨Nat.zero_le _, fun i x h => absurd h (Nat.not_lt_zero _)⟩ ?_ (fun _ hl => hl) ?_
  · (repeat (first | exact subF_nil _ | (refine subF_cons rfl ?_) | (refine subF_consv rfl (by rfl) ?_)))
  rintro k ⟨hk, hs⟩
  by_cases hlt : k < l.length
  rotate_left
  · repeat (first | refine SX.seq ?_ | refine SXl.nil ?_ | refine SX.region ?_ | refine SQ.thenNormal ?_ | refine SX.condF rfl ?_ | (refine l_load ?_; (refine SXl.v (OpW.load 0 rfl rfl rfl) rfl ?_ ?_ ?_); rfl; rfl) | (refine l_fieldAddr ?_; (refine SXl.v (OpW.fieldAddr rfl) rfl ?_ ?_ ?_); rfl; rfl) | (refine l_move ?_; (refine SXl.v (OpW.move rfl) rfl ?_ ?_ ?_); rfl; rfl) | (refine l_assign ?_; (refine SXl.v (OpW.assign rfl) rfl ?_ ?_ ?_); rfl; rfl) | (refine l_len ?_; (refine SXl.v (OpW.len rfl) rfl ?_ ?_ ?_); rfl; rfl) | (refine l_lss ?_; (refine SXl.v (OpW.lssF rfl rfl (by omega)) rfl ?_ ?_ ?_); rfl; rfl) | refine SX.ret ?_ | refine SX.exit ?_ | refine SQ.thenExit ?_ | refine SQ.blockExit ?_)
    refine SQ.body1 rfl rfl (fun w' hl => ⟨by rw [treeOk_all hn hs (by omega)], hl.mod⟩)
  obtain ⟨b1, o1, ⟨up, kids, st, me, ru⟩, r1, rfl, hR1, hb1, hxk, hr1, hl1, hc1⟩ := h.get hlt
  obtain ⟨ka, kc, ra, rc, rfl, hk1, ht1, _⟩ := hr1
  replace hxk := hxk.out
  have hfx := hfit _ (List.mem_of_getElem? hxk)
  have hf1 : kids.length ≤ 1048576 := hfx.1
  have hf2 : ru.length ≤ 1048576 := hfx.2
  clear hfx
  simp only at hc1 hk1 ht1
  cases q1 : styleOk st
  · have hv := nodeOk_s (l := l) (i := k) (x := ⟨up, kids, st, me, ru⟩) q1
    repeat (first | refine SX.seq ?_ | refine SXl.nil ?_ | refine SX.region ?_ | refine SQ.thenNormal ?_ | refine SX.block ?_ | refine SX.skip ?_ | refine SX.condT rfl ?_ | (refine SXl.no rfl rfl rfl ?_) | (refine l_load ?_; (first | refine SXl.v (OpW.loadRowOld rfl hc1 (nodeRow_len _ _ _ _ _ _ _ _ _) (Nat.succ_pos _) (fun h => h)) rfl ?_ ?_ ?_ | refine SXl.v (OpW.loadRow (cells := nodeRow up ka kids.length kc st me ra ru.length rc) 0 rfl rfl rfl (nodeRow_style _ _ _ _ _ _ _ _ _)) rfl ?_ ?_ ?_ | refine SXl.v (OpW.load 0 rfl rfl rfl) rfl ?_ ?_ ?_ | refine SXl.v (OpW.loadAll 1 rfl rfl rfl) rfl ?_ ?_ ?_); rfl; rfl) | (refine l_call ?_; (refine SXl.v (OpW.call rfl (fun w hl => sstyleC_any _ _)) rfl ?_ ?_ ?_); rfl; rfl) | (refine l_fieldAddr ?_; (refine SXl.v (OpW.fieldAddr rfl) rfl ?_ ?_ ?_); rfl; rfl) | (refine l_move ?_; (refine SXl.v (OpW.move rfl) rfl ?_ ?_ ?_); rfl; rfl) | (refine l_assign ?_; (refine SXl.v (OpW.assign rfl) rfl ?_ ?_ ?_); rfl; rfl) | (refine l_len ?_; (refine SXl.v (OpW.len rfl) rfl ?_ ?_ ?_); rfl; rfl) | (refine l_lss ?_; (refine SXl.v (OpW.lssT rfl rfl (by omega)) rfl ?_ ?_ ?_); rfl; rfl) | (refine l_not ?_; (refine SXl.v (OpW.not rfl) rfl ?_ ?_ ?_); rfl; rfl) | (refine l_pick ?_; (refine SXl.v (OpW.pick rfl rfl rfl) rfl ?_ ?_ ?_); rfl; rfl) | (refine l_indexAddr ?_; (refine SXl.v (OpW.indexAddr (by omega) rfl rfl) rfl ?_ ?_ ?_); rfl; rfl) | (refine l_alloc ?_; refine SXl.alloc ?_ ?_ (fun g => ?_); rfl; rfl) | (refine l_store ?_; first | (refine SXl.storeAll 0 ?_ rfl rfl rfl rfl rfl rfl rfl ?_; rfl; simp only [List.set_cons_zero, List.set_cons_succ]) | (refine SXl.storeAll 1 ?_ rfl rfl rfl rfl rfl rfl rfl ?_; rfl; simp only [List.set_cons_zero, List.set_cons_succ]) | (refine SXl.storeAll 2 ?_ rfl rfl rfl rfl rfl rfl rfl ?_; rfl; simp only [List.set_cons_zero, List.set_cons_succ]) | (refine SXl.storeRow 0 ?_ rfl rfl rfl rfl rfl rfl rfl ?_; rfl; simp only [over, List.set_cons_zero, List.set_cons_succ]) | (refine SXl.storeRow 1 ?_ rfl rfl rfl rfl rfl rfl rfl ?_; rfl; simp only [over, List.set_cons_zero, List.set_cons_succ]) | (refine SXl.storeRow 2 ?_ rfl rfl rfl rfl rfl rfl rfl ?_; rfl; simp only [over, List.set_cons_zero, List.set_cons_succ])) | (rw [q1]) | refine SX.ret ?_ | refine SQ.thenRet ?_ | refine SQ.blockRet ?_)
    refine SQ.body1 rfl rfl (fun w' hl => ⟨by rw [treeOk_no hxk (hv)], hl.mod⟩)
  cases q2 : inB (depthF l (l.length + 1) ((k + 1 : Nat) : Int) (0 : Nat)) 1 4
  · have hv := nodeOk_d (x := ⟨up, kids, st, me, ru⟩) q2
    repeat (first | refine SX.seq ?_ | refine SXl.nil ?_ | refine SX.region ?_ | refine SQ.thenNormal ?_ | refine SX.block ?_ | refine SX.skip ?_ | refine SX.condT rfl ?_ | (refine SXl.no rfl rfl rfl ?_) | (refine l_load ?_; (first | refine SXl.v (OpW.loadRowOld rfl hc1 (nodeRow_len _ _ _ _ _ _ _ _ _) (Nat.succ_pos _) (fun h => h)) rfl ?_ ?_ ?_ | refine SXl.v (OpW.loadRow (cells := nodeRow up ka kids.length kc st me ra ru.length rc) 0 rfl rfl rfl (nodeRow_style _ _ _ _ _ _ _ _ _)) rfl ?_ ?_ ?_ | refine SXl.v (OpW.load 0 rfl rfl rfl) rfl ?_ ?_ ?_ | refine SXl.v (OpW.loadAll 1 rfl rfl rfl) rfl ?_ ?_ ?_); rfl; rfl) | (refine l_call ?_; (first | refine SXl.v (OpW.call rfl (fun w hl => sstyleC_any _ _)) rfl ?_ ?_ ?_ | refine SXl.v (OpW.call rfl (fun w hl => sdepthOf_any l _ o _ c R _ (by omega) (h.keep hl.mod))) rfl ?_ ?_ ?_ | refine SXl.v (OpW.calls rfl (fun w _ => l01In_any _ _ _ _)) rfl ?_ ?_ ?_); rfl; rfl) | (refine l_fieldAddr ?_; (refine SXl.v (OpW.fieldAddr rfl) rfl ?_ ?_ ?_); rfl; rfl) | (refine l_move ?_; (refine SXl.v (OpW.move rfl) rfl ?_ ?_ ?_); rfl; rfl) | (refine l_assign ?_; (refine SXl.v (OpW.assign rfl) rfl ?_ ?_ ?_); rfl; rfl) | (refine l_len ?_; (refine SXl.v (OpW.len rfl) rfl ?_ ?_ ?_); rfl; rfl) | (refine l_add ?_; (refine SXl.v (OpW.succ rfl rfl (by omega)) rfl ?_ ?_ ?_); rfl; rfl) | (refine l_lss ?_; (refine SXl.v (OpW.lssT rfl rfl (by omega)) rfl ?_ ?_ ?_); rfl; rfl) | (refine l_not ?_; (refine SXl.v (OpW.not rfl) rfl ?_ ?_ ?_); rfl; rfl) | (refine l_pick ?_; (refine SXl.v (OpW.pick rfl rfl rfl) rfl ?_ ?_ ?_); rfl; rfl) | (refine l_indexAddr ?_; (refine SXl.v (OpW.indexAddr (by omega) rfl rfl) rfl ?_ ?_ ?_); rfl; rfl) | (refine l_alloc ?_; refine SXl.alloc ?_ ?_ (fun g => ?_); rfl; rfl) | (refine l_store ?_; first | (refine SXl.storeAll 0 ?_ rfl rfl rfl rfl rfl rfl rfl ?_; rfl; simp only [List.set_cons_zero, List.set_cons_succ]) | (refine SXl.storeAll 1 ?_ rfl rfl rfl rfl rfl rfl rfl ?_; rfl; simp only [List.set_cons_zero, List.set_cons_succ]) | (refine SXl.storeAll 2 ?_ rfl rfl rfl rfl rfl rfl rfl ?_; rfl; simp only [List.set_cons_zero, List.set_cons_succ]) | (refine SXl.storeRow 0 ?_ rfl rfl rfl rfl rfl rfl rfl ?_; rfl; simp only [over, List.set_cons_zero, List.set_cons_succ]) | (refine SXl.storeRow 1 ?_ rfl rfl rfl rfl rfl rfl rfl ?_; rfl; simp only [over, List.set_cons_zero, List.set_cons_succ]) | (refine SXl.storeRow 2 ?_ rfl rfl rfl rfl rfl rfl rfl ?_; rfl; simp only [over, List.set_cons_zero, List.set_cons_succ])) | ((first | rw [q1] | rw [q2])) | refine SX.ret ?_ | refine SQ.thenRet ?_ | refine SQ.blockRet ?_)
    refine SQ.body1 rfl rfl (fun w' hl => ⟨by rw [treeOk_no hxk (hv)], hl.mod⟩)
  by_cases u0 : up = 0
  · subst u0
    have hup : upOk l k ⟨0, kids, st, me, ru⟩ = true := rfl
    repeat (first | refine SX.seq ?_ | refine SXl.nil ?_ | refine SX.region ?_ | refine SQ.thenNormal ?_ | refine SX.block ?_ | refine SX.skip ?_ | refine SX.condT rfl ?_ | refine SX.condF rfl ?_ | (refine SXl.no rfl rfl rfl ?_) | (refine l_load ?_; (first | refine SXl.v (OpW.loadRowOld rfl hc1 (nodeRow_len _ _ _ _ _ _ _ _ _) (Nat.succ_pos _) (fun h => h)) rfl ?_ ?_ ?_ | refine SXl.v (OpW.load 0 rfl rfl rfl) rfl ?_ ?_ ?_ | refine SXl.v (OpW.loadAll 1 rfl rfl rfl) rfl ?_ ?_ ?_ | refine SXl.v (OpW.loadRow 0 rfl rfl rfl rfl) rfl ?_ ?_ ?_); rfl; rfl) | (refine l_call ?_; (first | refine SXl.v (OpW.call rfl (fun w hl => sstyleC_any _ _)) rfl ?_ ?_ ?_ | refine SXl.v (OpW.call rfl (fun w hl => sdepthOf_any l _ o _ c R _ (by omega) (h.keep hl.mod))) rfl ?_ ?_ ?_ | refine SXl.v (OpW.calls rfl (fun w _ => l01In_any _ _ _ _)) rfl ?_ ?_ ?_); rfl; rfl) | (refine l_fieldAddr ?_; (refine SXl.v (OpW.fieldAddr rfl) rfl ?_ ?_ ?_); rfl; rfl) | (refine l_move ?_; (refine SXl.v (OpW.move rfl) rfl ?_ ?_ ?_); rfl; rfl) | (refine l_assign ?_; (refine SXl.v (OpW.assign rfl) rfl ?_ ?_ ?_); rfl; rfl) | (refine l_len ?_; (refine SXl.v (OpW.len rfl) rfl ?_ ?_ ?_); rfl; rfl) | (refine l_add ?_; (refine SXl.v (OpW.succ rfl rfl (by omega)) rfl ?_ ?_ ?_); rfl; rfl) | (refine l_lss ?_; (refine SXl.v (OpW.lssT rfl rfl (by omega)) rfl ?_ ?_ ?_); rfl; rfl) | (refine l_neq ?_; (refine SXl.v (OpW.neqF rfl rfl (by omega)) rfl ?_ ?_ ?_); rfl; rfl) | (refine l_not ?_; (refine SXl.v (OpW.not rfl) rfl ?_ ?_ ?_); rfl; rfl) | (refine l_pick ?_; (refine SXl.v (OpW.pick rfl rfl rfl) rfl ?_ ?_ ?_); rfl; rfl) | (refine l_indexAddr ?_; (refine SXl.v (OpW.indexAddr (by omega) rfl rfl) rfl ?_ ?_ ?_); rfl; rfl) | (refine l_alloc ?_; refine SXl.alloc ?_ ?_ (fun g => ?_); rfl; rfl) | (refine l_store ?_; first | (refine SXl.storeAll 0 ?_ rfl rfl rfl rfl rfl rfl rfl ?_; rfl; simp only [List.set_cons_zero, List.set_cons_succ]) | (refine SXl.storeAll 1 ?_ rfl rfl rfl rfl rfl rfl rfl ?_; rfl; simp only [List.set_cons_zero, List.set_cons_succ]) | (refine SXl.storeAll 2 ?_ rfl rfl rfl rfl rfl rfl rfl ?_; rfl; simp only [List.set_cons_zero, List.set_cons_succ]) | (refine SXl.storeRow 0 ?_ rfl rfl rfl rfl rfl rfl rfl ?_; rfl; simp only [over, List.set_cons_zero, List.set_cons_succ]) | (refine SXl.storeRow 1 ?_ rfl rfl rfl rfl rfl rfl rfl ?_; rfl; simp only [over, List.set_cons_zero, List.set_cons_succ]) | (refine SXl.storeRow 2 ?_ rfl rfl rfl rfl rfl rfl rfl ?_; rfl; simp only [over, List.set_cons_zero, List.set_cons_succ])) | ((first | rw [q1] | rw [q2])))
    refine SX.loopi (fun j : Nat => j ≤ kids.length ∧ ∀ i y, i < j → kids[i]? = some y → kidOk l k y = true) (fun j => kids.length - j) (fun _ => [⟨g, nodeRow 0 ka kids.length kc st me ra ru.length rc, 86⟩, ⟨gt, [.slice (some ⟨b1, o1, none⟩) l.length c], 37⟩]) (fun _ => []) (fun _ => []) (fun j => [(1, .pointer (some ⟨gt, 0, none⟩)), (4, .pointer (some ⟨g, 0, none⟩)), (3, .int .i64 k), (5, .int .i64 j)]) 0 ⟨Nat.zero_le _, fun i x h => absurd h (Nat.not_lt_zero _)⟩ ?_ (fun _ hl => hl) ?_
    · (repeat (first | exact subF_nil _ | (refine subF_cons rfl ?_) | (refine subF_consv rfl (by rfl) ?_)))
    rintro j ⟨hj, hks⟩
    by_cases hjl : j < kids.length
    · obtain ⟨b3, o3, y, e3, hR3, hb3, hyk, hc3⟩ := IntSlice.get hk1 hjl
      subst e3
      replace hyk := hyk.out
      cases p1 : inB y 1 l.length
      · have hv := nodeOk_k (l := l) (i := k) (x := ⟨0, kids, st, me, ru⟩) hyk (by simp [kidOk, p1])
        repeat (first | refine SX.seq ?_ | refine SXl.nil ?_ | refine SX.region ?_ | refine SQ.thenNormal ?_ | refine SX.block ?_ | refine SX.skip ?_ | refine SX.condT rfl ?_ | (refine l_load ?_; (refine SXl.v (OpW.load 0 rfl rfl rfl) rfl ?_ ?_ ?_); rfl; rfl) | (refine l_fieldAddr ?_; (refine SXl.v (OpW.fieldAddr rfl) rfl ?_ ?_ ?_); rfl; rfl) | (refine l_move ?_; (refine SXl.v (OpW.move rfl) rfl ?_ ?_ ?_); rfl; rfl) | (refine l_assign ?_; (refine SXl.v (OpW.assign rfl) rfl ?_ ?_ ?_); rfl; rfl) | (refine l_len ?_; (refine SXl.v (OpW.len rfl) rfl ?_ ?_ ?_); rfl; rfl) | (refine l_lss ?_; (refine SXl.v (OpW.lssT rfl rfl (by omega)) rfl ?_ ?_ ?_); rfl; rfl) | refine SX.drawn (by kernel_rfl) (by kernel_rfl) ?_ | refine SXr.nil ?_ | (refine SXr.no rfl rfl rfl ?_) | (refine r_call ?_; (refine SXr.v (OpW.call rfl (fun w hl => sisNode_any _ _ _ _ _)) rfl ?_ ?_ ?_); rfl; rfl) | (refine r_load ?_; (first | refine SXr.v (OpW.load 0 rfl rfl rfl) rfl ?_ ?_ ?_ | refine SXr.v (OpW.loadOld rfl (by assumption) (fun h => h)) rfl ?_ ?_ ?_ | refine SXr.v (OpW.loadAll 1 rfl rfl rfl) rfl ?_ ?_ ?_); rfl; rfl) | (refine r_fieldAddr ?_; (refine SXr.v (OpW.fieldAddr rfl) rfl ?_ ?_ ?_); rfl; rfl) | (refine r_move ?_; (refine SXr.v (OpW.move rfl) rfl ?_ ?_ ?_); rfl; rfl) | (refine r_not ?_; (refine SXr.v (OpW.not rfl) rfl ?_ ?_ ?_); rfl; rfl) | (refine r_pick ?_; (refine SXr.v (OpW.pick rfl rfl rfl) rfl ?_ ?_ ?_); rfl; rfl) | (refine r_indexAddr ?_; (refine SXr.v (OpW.indexAddr1 (by omega) rfl rfl) rfl ?_ ?_ ?_); rfl; rfl) | (rw [p1]) | refine SX.ret ?_ | refine SQ.thenRet ?_ | refine SQ.blockRet ?_)
        refine SQ.body1 rfl rfl (fun w' hl => ⟨by rw [treeOk_no hxk (hv)], hl.mod⟩)
      obtain ⟨ky, rfl, hky⟩ := inB_node p1
      obtain ⟨b2, o2, z, r2, e2, hR2, hb2, hzk, hr2, hl2, hc2⟩ := h.get hky
      obtain ⟨rfl, rfl⟩ : b1 = b2 ∧ o1 = o2 := by simpa using e2
      obtain ⟨kb, kd, rb, rd, rfl, _, _, _⟩ := hr2
      have hkid : kidOk l k ((ky + 1 : Nat) : Int) = decide (z.up = ((k + 1 : Nat) : Int)) := kidOk_at p1 hzk.out
      by_cases p2 : z.up = ((k + 1 : Nat) : Int)
      · repeat (first | refine SX.seq ?_ | refine SXl.nil ?_ | refine SX.region ?_ | refine SQ.thenNormal ?_ | refine SX.block ?_ | refine SX.skip ?_ | refine SX.condT rfl ?_ | refine SX.condF rfl ?_ | (refine l_load ?_; (refine SXl.v (OpW.load 0 rfl rfl rfl) rfl ?_ ?_ ?_); rfl; rfl) | (refine l_fieldAddr ?_; (refine SXl.v (OpW.fieldAddr rfl) rfl ?_ ?_ ?_); rfl; rfl) | (refine l_move ?_; (refine SXl.v (OpW.move rfl) rfl ?_ ?_ ?_); rfl; rfl) | (refine l_assign ?_; (refine SXl.v (OpW.assign rfl) rfl ?_ ?_ ?_); rfl; rfl) | (refine l_len ?_; (refine SXl.v (OpW.len rfl) rfl ?_ ?_ ?_); rfl; rfl) | (refine l_add ?_; (refine SXl.v (OpW.succ rfl rfl (by omega)) rfl ?_ ?_ ?_); rfl; rfl) | (refine l_lss ?_; (refine SXl.v (OpW.lssT rfl rfl (by omega)) rfl ?_ ?_ ?_); rfl; rfl) | refine SX.drawn (by kernel_rfl) (by kernel_rfl) ?_ | refine SXr.nil ?_ | (refine r_call ?_; (first | refine SXr.v (OpW.call rfl (fun w hl => sisNode_any _ _ _ _ _)) rfl ?_ ?_ ?_ | refine SXr.v (OpW.call rfl (fun w hl => snode_any _ _ _ _ ky _ _ _ _ _ _ _ _ _ w (by omega) hky (fun j v hv => hl.old (hc2 j v hv) (fun h => h)))) rfl ?_ ?_ ?_); rfl; rfl) | (refine r_field ?_; (refine SXr.v (OpW.field rfl (nodeRow_a0 _ _ _ _ _ _ _ _ _)) rfl ?_ ?_ ?_); rfl; rfl) | (refine r_load ?_; (first | refine SXr.v (OpW.load 0 rfl rfl rfl) rfl ?_ ?_ ?_ | refine SXr.v (OpW.loadOld rfl (by assumption) (fun h => h)) rfl ?_ ?_ ?_ | refine SXr.v (OpW.loadAll 1 rfl rfl rfl) rfl ?_ ?_ ?_); rfl; rfl) | (refine r_fieldAddr ?_; (refine SXr.v (OpW.fieldAddr rfl) rfl ?_ ?_ ?_); rfl; rfl) | (refine r_move ?_; (refine SXr.v (OpW.move rfl) rfl ?_ ?_ ?_); rfl; rfl) | (refine r_add ?_; (refine SXr.v (OpW.succ rfl rfl (by omega)) rfl ?_ ?_ ?_); rfl; rfl) | (refine r_neq ?_; (refine SXr.v (OpW.neqF rfl rfl (by omega)) rfl ?_ ?_ ?_); rfl; rfl) | (refine r_not ?_; (refine SXr.v (OpW.not rfl) rfl ?_ ?_ ?_); rfl; rfl) | (refine r_pick ?_; (refine SXr.v (OpW.pick rfl rfl rfl) rfl ?_ ?_ ?_); rfl; rfl) | (refine r_indexAddr ?_; (refine SXr.v (OpW.indexAddr1 (by omega) rfl rfl) rfl ?_ ?_ ?_); rfl; rfl) | (rw [p1]) | refine SQ.blockNormal ?_)
        refine SQ.roundi (j + 1) ⟨by omega, pto_succ hks hyk (by rw [hkid]; exact decide_eq_true p2)⟩ (by omega) ?_ (fun _ hl => hl)
        (repeat (first | exact subF_nil _ | (refine subF_cons rfl ?_) | (refine subF_consv rfl (by rfl) ?_)))
      · have hv := nodeOk_k (l := l) (i := k) (x := ⟨0, kids, st, me, ru⟩) hyk (by rw [hkid]; exact decide_eq_false p2)
        repeat (first | refine SX.seq ?_ | refine SXl.nil ?_ | refine SX.region ?_ | refine SQ.thenNormal ?_ | refine SX.block ?_ | refine SX.skip ?_ | refine SX.condT rfl ?_ | (refine l_load ?_; (refine SXl.v (OpW.load 0 rfl rfl rfl) rfl ?_ ?_ ?_); rfl; rfl) | (refine l_fieldAddr ?_; (refine SXl.v (OpW.fieldAddr rfl) rfl ?_ ?_ ?_); rfl; rfl) | (refine l_move ?_; (refine SXl.v (OpW.move rfl) rfl ?_ ?_ ?_); rfl; rfl) | (refine l_assign ?_; (refine SXl.v (OpW.assign rfl) rfl ?_ ?_ ?_); rfl; rfl) | (refine l_len ?_; (refine SXl.v (OpW.len rfl) rfl ?_ ?_ ?_); rfl; rfl) | (refine l_lss ?_; (refine SXl.v (OpW.lssT rfl rfl (by omega)) rfl ?_ ?_ ?_); rfl; rfl) | refine SX.drawn (by kernel_rfl) (by kernel_rfl) ?_ | refine SXr.nil ?_ | (refine r_call ?_; (first | refine SXr.v (OpW.call rfl (fun w hl => sisNode_any _ _ _ _ _)) rfl ?_ ?_ ?_ | refine SXr.v (OpW.call rfl (fun w hl => snode_any _ _ _ _ ky _ _ _ _ _ _ _ _ _ w (by omega) hky (fun j v hv => hl.old (hc2 j v hv) (fun h => h)))) rfl ?_ ?_ ?_); rfl; rfl) | (refine r_field ?_; (refine SXr.v (OpW.field rfl (nodeRow_a0 _ _ _ _ _ _ _ _ _)) rfl ?_ ?_ ?_); rfl; rfl) | (refine r_load ?_; (first | refine SXr.v (OpW.load 0 rfl rfl rfl) rfl ?_ ?_ ?_ | refine SXr.v (OpW.loadOld rfl (by assumption) (fun h => h)) rfl ?_ ?_ ?_ | refine SXr.v (OpW.loadAll 1 rfl rfl rfl) rfl ?_ ?_ ?_); rfl; rfl) | (refine r_fieldAddr ?_; (refine SXr.v (OpW.fieldAddr rfl) rfl ?_ ?_ ?_); rfl; rfl) | (refine r_move ?_; (refine SXr.v (OpW.move rfl) rfl ?_ ?_ ?_); rfl; rfl) | (refine r_add ?_; (refine SXr.v (OpW.succ rfl rfl (by omega)) rfl ?_ ?_ ?_); rfl; rfl) | (refine r_neq ?_; (refine SXr.v (OpW.neqT rfl rfl (by omega)) rfl ?_ ?_ ?_); rfl; rfl) | (refine r_not ?_; (refine SXr.v (OpW.not rfl) rfl ?_ ?_ ?_); rfl; rfl) | (refine r_pick ?_; (refine SXr.v (OpW.pick rfl rfl rfl) rfl ?_ ?_ ?_); rfl; rfl) | (refine r_indexAddr ?_; (refine SXr.v (OpW.indexAddr1 (by omega) rfl rfl) rfl ?_ ?_ ?_); rfl; rfl) | (rw [p1]) | refine SX.ret ?_ | refine SQ.thenRet ?_ | refine SQ.blockRet ?_)
        refine SQ.body1 rfl rfl (fun w' hl => ⟨by rw [treeOk_no hxk (hv)], hl.mod⟩)
    have hka := all_ints (p := kidOk l k) hks (by omega)
    cases me
    · by_cases r0 : ru.length = 0
      · repeat (first | refine SX.seq ?_ | refine SXl.nil ?_ | refine SX.region ?_ | refine SQ.thenNormal ?_ | refine SX.skip ?_ | refine SX.condF rfl ?_ | (refine SXl.no rfl rfl rfl ?_) | (refine l_load ?_; (refine SXl.v (OpW.load 0 rfl rfl rfl) rfl ?_ ?_ ?_); rfl; rfl) | (refine l_fieldAddr ?_; (refine SXl.v (OpW.fieldAddr rfl) rfl ?_ ?_ ?_); rfl; rfl) | (refine l_move ?_; (refine SXl.v (OpW.move rfl) rfl ?_ ?_ ?_); rfl; rfl) | (refine l_assign ?_; (refine SXl.v (OpW.assign rfl) rfl ?_ ?_ ?_); rfl; rfl) | (refine l_len ?_; (refine SXl.v (OpW.len rfl) rfl ?_ ?_ ?_); rfl; rfl) | (refine l_add ?_; (refine SXl.v (OpW.succ rfl rfl (by omega)) rfl ?_ ?_ ?_); rfl; rfl) | (refine l_gtr ?_; (refine SXl.v (OpW.gtrF rfl rfl (by omega)) rfl ?_ ?_ ?_); rfl; rfl) | (refine l_lss ?_; (refine SXl.v (OpW.lssF rfl rfl (by omega)) rfl ?_ ?_ ?_); rfl; rfl) | (refine l_not ?_; (refine SXl.v (OpW.not rfl) rfl ?_ ?_ ?_); rfl; rfl) | (refine l_pick ?_; (refine SXl.v (OpW.pick rfl rfl rfl) rfl ?_ ?_ ?_); rfl; rfl) | refine SX.exit ?_ | refine SQ.thenExit ?_ | refine SQ.blockNormal ?_ | refine SQ.blockExit ?_)
        refine SQ.roundi (k + 1) ⟨by omega, pto_succ hs hxk (nodeOk_y q1 q2 hka hup (by simp [tabOk, r0]))⟩ (by omega) ?_ (fun _ hl => hl.drop1)
        (repeat (first | exact subF_nil _ | (refine subF_cons rfl ?_) | (refine subF_consv rfl (by rfl) ?_)))
      · have hv := nodeOk_t (l := l) (i := k) (x := ⟨0, kids, st, false, ru⟩) (by simp [tabOk]; intro e; exact r0 (by rw [e]; rfl))
        repeat (first | refine SX.seq ?_ | refine SXl.nil ?_ | refine SX.region ?_ | refine SQ.thenNormal ?_ | refine SX.condT rfl ?_ | refine SX.condF rfl ?_ | (refine SXl.no rfl rfl rfl ?_) | (refine l_load ?_; (refine SXl.v (OpW.load 0 rfl rfl rfl) rfl ?_ ?_ ?_); rfl; rfl) | (refine l_fieldAddr ?_; (refine SXl.v (OpW.fieldAddr rfl) rfl ?_ ?_ ?_); rfl; rfl) | (refine l_move ?_; (refine SXl.v (OpW.move rfl) rfl ?_ ?_ ?_); rfl; rfl) | (refine l_assign ?_; (refine SXl.v (OpW.assign rfl) rfl ?_ ?_ ?_); rfl; rfl) | (refine l_len ?_; (refine SXl.v (OpW.len rfl) rfl ?_ ?_ ?_); rfl; rfl) | (refine l_gtr ?_; (refine SXl.v (OpW.gtrT rfl rfl (by omega)) rfl ?_ ?_ ?_); rfl; rfl) | (refine l_lss ?_; (refine SXl.v (OpW.lssF rfl rfl (by omega)) rfl ?_ ?_ ?_); rfl; rfl) | (refine l_not ?_; (refine SXl.v (OpW.not rfl) rfl ?_ ?_ ?_); rfl; rfl) | (refine l_pick ?_; (refine SXl.v (OpW.pick rfl rfl rfl) rfl ?_ ?_ ?_); rfl; rfl) | refine SX.ret ?_ | refine SX.exit ?_ | refine SQ.thenRet ?_ | refine SQ.thenExit ?_ | refine SQ.blockRet ?_ | refine SQ.blockExit ?_)
        refine SQ.body1 rfl rfl (fun w' hl => ⟨by rw [treeOk_no hxk (hv)], hl.mod⟩)
    · cases tq : tableOk ru
      · have hv := nodeOk_t (l := l) (i := k) (x := ⟨0, kids, st, true, ru⟩) (by simp [tabOk, tq])
        repeat (first | refine SX.seq ?_ | refine SXl.nil ?_ | refine SX.region ?_ | refine SQ.thenNormal ?_ | refine SX.condT rfl ?_ | refine SX.condF rfl ?_ | (refine SXl.no rfl rfl rfl ?_) | (refine l_load ?_; (first | refine SXl.v (OpW.loadRow (cells := nodeRow _ _ _ _ _ _ _ _ _) 0 rfl rfl rfl (nodeRow_tab _ _ _ _ _ _ _ _ _)) rfl ?_ ?_ ?_ | refine SXl.v (OpW.load 0 rfl rfl rfl) rfl ?_ ?_ ?_); rfl; rfl) | (refine l_call ?_; (refine SXl.v (OpW.call rfl (fun w hl => stableOk_any ru ra rc R _ hf2 (ht1.flatKeep hl.mod))) rfl ?_ ?_ ?_); rfl; rfl) | (refine l_fieldAddr ?_; (refine SXl.v (OpW.fieldAddr rfl) rfl ?_ ?_ ?_); rfl; rfl) | (refine l_move ?_; (refine SXl.v (OpW.move rfl) rfl ?_ ?_ ?_); rfl; rfl) | (refine l_assign ?_; (refine SXl.v (OpW.assign rfl) rfl ?_ ?_ ?_); rfl; rfl) | (refine l_len ?_; (refine SXl.v (OpW.len rfl) rfl ?_ ?_ ?_); rfl; rfl) | (refine l_lss ?_; (refine SXl.v (OpW.lssF rfl rfl (by omega)) rfl ?_ ?_ ?_); rfl; rfl) | (refine l_not ?_; (refine SXl.v (OpW.not rfl) rfl ?_ ?_ ?_); rfl; rfl) | (refine l_pick ?_; (refine SXl.v (OpW.pick rfl rfl rfl) rfl ?_ ?_ ?_); rfl; rfl) | (rw [tq]) | refine SX.ret ?_ | refine SX.exit ?_ | refine SQ.thenRet ?_ | refine SQ.thenExit ?_ | refine SQ.blockRet ?_ | refine SQ.blockExit ?_)
        refine SQ.body1 rfl rfl (fun w' hl => ⟨by rw [treeOk_no hxk (hv)], hl.mod⟩)
      by_cases k0 : kids.length = 0
      · repeat (first | refine SX.seq ?_ | refine SXl.nil ?_ | refine SX.region ?_ | refine SQ.thenNormal ?_ | refine SX.skip ?_ | refine SX.condF rfl ?_ | (refine SXl.no rfl rfl rfl ?_) | (refine l_load ?_; (first | refine SXl.v (OpW.loadRow (cells := nodeRow _ _ _ _ _ _ _ _ _) 0 rfl rfl rfl (nodeRow_tab _ _ _ _ _ _ _ _ _)) rfl ?_ ?_ ?_ | refine SXl.v (OpW.load 0 rfl rfl rfl) rfl ?_ ?_ ?_); rfl; rfl) | (refine l_call ?_; (refine SXl.v (OpW.call rfl (fun w hl => stableOk_any ru ra rc R _ hf2 (ht1.flatKeep hl.mod))) rfl ?_ ?_ ?_); rfl; rfl) | (refine l_fieldAddr ?_; (refine SXl.v (OpW.fieldAddr rfl) rfl ?_ ?_ ?_); rfl; rfl) | (refine l_move ?_; (refine SXl.v (OpW.move rfl) rfl ?_ ?_ ?_); rfl; rfl) | (refine l_assign ?_; (refine SXl.v (OpW.assign rfl) rfl ?_ ?_ ?_); rfl; rfl) | (refine l_len ?_; (refine SXl.v (OpW.len rfl) rfl ?_ ?_ ?_); rfl; rfl) | (refine l_add ?_; (refine SXl.v (OpW.succ rfl rfl (by omega)) rfl ?_ ?_ ?_); rfl; rfl) | (refine l_gtr ?_; (refine SXl.v (OpW.gtrF rfl rfl (by omega)) rfl ?_ ?_ ?_); rfl; rfl) | (refine l_lss ?_; (refine SXl.v (OpW.lssF rfl rfl (by omega)) rfl ?_ ?_ ?_); rfl; rfl) | (refine l_not ?_; (refine SXl.v (OpW.not rfl) rfl ?_ ?_ ?_); rfl; rfl) | (refine l_pick ?_; (refine SXl.v (OpW.pick rfl rfl rfl) rfl ?_ ?_ ?_); rfl; rfl) | (rw [tq]) | refine SX.exit ?_ | refine SQ.thenExit ?_ | refine SQ.blockNormal ?_ | refine SQ.blockExit ?_)
        refine SQ.roundi (k + 1) ⟨by omega, pto_succ hs hxk (nodeOk_y q1 q2 hka hup (by simp [tabOk, tq, k0]))⟩ (by omega) ?_ (fun _ hl => hl.drop1)
        (repeat (first | exact subF_nil _ | (refine subF_cons rfl ?_) | (refine subF_consv rfl (by rfl) ?_)))
      · have hv := nodeOk_t (l := l) (i := k) (x := ⟨0, kids, st, true, ru⟩) (by simp [tabOk, tq]; intro e; exact k0 (by rw [e]; rfl))
        repeat (first | refine SX.seq ?_ | refine SXl.nil ?_ | refine SX.region ?_ | refine SQ.thenNormal ?_ | refine SX.condT rfl ?_ | refine SX.condF rfl ?_ | (refine SXl.no rfl rfl rfl ?_) | (refine l_load ?_; (first | refine SXl.v (OpW.loadRow (cells := nodeRow _ _ _ _ _ _ _ _ _) 0 rfl rfl rfl (nodeRow_tab _ _ _ _ _ _ _ _ _)) rfl ?_ ?_ ?_ | refine SXl.v (OpW.load 0 rfl rfl rfl) rfl ?_ ?_ ?_); rfl; rfl) | (refine l_call ?_; (refine SXl.v (OpW.call rfl (fun w hl => stableOk_any ru ra rc R _ hf2 (ht1.flatKeep hl.mod))) rfl ?_ ?_ ?_); rfl; rfl) | (refine l_fieldAddr ?_; (refine SXl.v (OpW.fieldAddr rfl) rfl ?_ ?_ ?_); rfl; rfl) | (refine l_move ?_; (refine SXl.v (OpW.move rfl) rfl ?_ ?_ ?_); rfl; rfl) | (refine l_assign ?_; (refine SXl.v (OpW.assign rfl) rfl ?_ ?_ ?_); rfl; rfl) | (refine l_len ?_; (refine SXl.v (OpW.len rfl) rfl ?_ ?_ ?_); rfl; rfl) | (refine l_gtr ?_; (refine SXl.v (OpW.gtrT rfl rfl (by omega)) rfl ?_ ?_ ?_); rfl; rfl) | (refine l_lss ?_; (refine SXl.v (OpW.lssF rfl rfl (by omega)) rfl ?_ ?_ ?_); rfl; rfl) | (refine l_not ?_; (refine SXl.v (OpW.not rfl) rfl ?_ ?_ ?_); rfl; rfl) | (refine l_pick ?_; (refine SXl.v (OpW.pick rfl rfl rfl) rfl ?_ ?_ ?_); rfl; rfl) | (rw [tq]) | refine SX.ret ?_ | refine SX.exit ?_ | refine SQ.thenRet ?_ | refine SQ.thenExit ?_ | refine SQ.blockRet ?_ | refine SQ.blockExit ?_)
        refine SQ.body1 rfl rfl (fun w' hl => ⟨by rw [treeOk_no hxk (hv)], hl.mod⟩)
  have hu0 : up ≠ 0 := u0
  obtain ⟨ku, rfl, hku⟩ := depth_up hxk q2 u0
  obtain ⟨b5, o5, z, r5, e5, hR5, hb5, hzk, hr5, hl5, hc5⟩ := h.get hku
  obtain ⟨rfl, rfl⟩ : b1 = b5 ∧ o1 = o5 := by simpa using e5
  obtain ⟨kb, kd, rb, rd, rfl, hk5, _, _⟩ := hr5
  have hfz : z.kids.length ≤ 1048576 := (hfit _ (List.mem_of_getElem? hzk.out)).1
  have hup := upOk_at (l := l) (i := k) (x := ⟨((ku + 1 : Nat) : Int), kids, st, me, ru⟩) rfl hzk.out
  by_cases c1 : z.kids.count ((k + 1 : Nat) : Int) = 1
  rotate_left
  · rw [decide_eq_false c1] at hup
    have hv := nodeOk_u hup
    repeat (first | refine SX.seq ?_ | refine SXl.nil ?_ | refine SX.region ?_ | refine SQ.thenNormal ?_ | refine SX.block ?_ | refine SX.skip ?_ | refine SX.condT rfl ?_ | (refine l_load ?_; (first | refine SXl.v (OpW.loadRowOld rfl hc1 (nodeRow_len _ _ _ _ _ _ _ _ _) (Nat.succ_pos _) (fun h => h)) rfl ?_ ?_ ?_ | refine SXl.v (OpW.loadRow (cells := nodeRow _ ka kids.length kc st me ra ru.length rc) 0 rfl rfl rfl (nodeRow_style _ _ _ _ _ _ _ _ _)) rfl ?_ ?_ ?_ | refine SXl.v (OpW.load 0 rfl rfl rfl) rfl ?_ ?_ ?_ | refine SXl.v (OpW.loadAll 1 rfl rfl rfl) rfl ?_ ?_ ?_); rfl; rfl) | (refine l_call ?_; (first | refine SXl.v (OpW.call rfl (fun w hl => sstyleC_any _ _)) rfl ?_ ?_ ?_ | refine SXl.v (OpW.call rfl (fun w hl => sdepthOf_any l _ o _ c R _ (by omega) (h.keep hl.mod))) rfl ?_ ?_ ?_ | refine SXl.v (OpW.call rfl (fun w hl => snode_any _ _ _ _ ku _ _ _ _ _ _ _ _ _ w (by omega) hku (fun j v hv => hl.old (hc5 j v hv) (fun h => h)))) rfl ?_ ?_ ?_ | refine SXl.v (OpW.call rfl (fun w hl => shas_any z.kids _ kb kd R _ hfz (hk5.flatKeep hl.mod))) rfl ?_ ?_ ?_ | refine SXl.v (OpW.calls rfl (fun w _ => l01In_any _ _ _ _)) rfl ?_ ?_ ?_); rfl; rfl) | (refine l_field ?_; (refine SXl.v (OpW.field rfl (nodeRow_a1 _ _ _ _ _ _ _ _ _)) rfl ?_ ?_ ?_); rfl; rfl) | (refine l_fieldAddr ?_; (refine SXl.v (OpW.fieldAddr rfl) rfl ?_ ?_ ?_); rfl; rfl) | (refine l_move ?_; (refine SXl.v (OpW.move rfl) rfl ?_ ?_ ?_); rfl; rfl) | (refine l_assign ?_; (refine SXl.v (OpW.assign rfl) rfl ?_ ?_ ?_); rfl; rfl) | (refine l_len ?_; (refine SXl.v (OpW.len rfl) rfl ?_ ?_ ?_); rfl; rfl) | (refine l_add ?_; (refine SXl.v (OpW.succ rfl rfl (by omega)) rfl ?_ ?_ ?_); rfl; rfl) | (refine l_lss ?_; (refine SXl.v (OpW.lssT rfl rfl (by omega)) rfl ?_ ?_ ?_); rfl; rfl) | (refine l_neq ?_; (refine SXl.v (OpW.neqT rfl rfl (by omega)) rfl ?_ ?_ ?_); rfl; rfl) | (refine l_not ?_; (refine SXl.v (OpW.not rfl) rfl ?_ ?_ ?_); rfl; rfl) | (refine l_pick ?_; (refine SXl.v (OpW.pick rfl rfl rfl) rfl ?_ ?_ ?_); rfl; rfl) | (refine l_indexAddr ?_; (refine SXl.v (OpW.indexAddr (by omega) rfl rfl) rfl ?_ ?_ ?_); rfl; rfl) | (refine l_alloc ?_; refine SXl.alloc ?_ ?_ (fun g => ?_); rfl; rfl) | (refine l_store ?_; first | (refine SXl.storeAll 0 ?_ rfl rfl rfl rfl rfl rfl rfl ?_; rfl; simp only [List.set_cons_zero, List.set_cons_succ]) | (refine SXl.storeAll 1 ?_ rfl rfl rfl rfl rfl rfl rfl ?_; rfl; simp only [List.set_cons_zero, List.set_cons_succ]) | (refine SXl.storeAll 2 ?_ rfl rfl rfl rfl rfl rfl rfl ?_; rfl; simp only [List.set_cons_zero, List.set_cons_succ]) | (refine SXl.storeRow 0 ?_ rfl rfl rfl rfl rfl rfl rfl ?_; rfl; simp only [over, List.set_cons_zero, List.set_cons_succ]) | (refine SXl.storeRow 1 ?_ rfl rfl rfl rfl rfl rfl rfl ?_; rfl; simp only [over, List.set_cons_zero, List.set_cons_succ]) | (refine SXl.storeRow 2 ?_ rfl rfl rfl rfl rfl rfl rfl ?_; rfl; simp only [over, List.set_cons_zero, List.set_cons_succ])) | ((first | rw [q1] | rw [q2])) | refine SX.ret ?_ | refine SQ.thenRet ?_ | refine SQ.blockRet ?_)
    refine SQ.body1 rfl rfl (fun w' hl => ⟨by rw [treeOk_no hxk (hv)], hl.mod⟩)
  rw [decide_eq_true c1] at hup
  repeat (first | refine SX.seq ?_ | refine SXl.nil ?_ | refine SX.region ?_ | refine SQ.thenNormal ?_ | refine SX.block ?_ | refine SX.skip ?_ | refine SX.condT rfl ?_ | refine SX.condF rfl ?_ | (refine l_load ?_; (first | refine SXl.v (OpW.loadRowOld rfl hc1 (nodeRow_len _ _ _ _ _ _ _ _ _) (Nat.succ_pos _) (fun h => h)) rfl ?_ ?_ ?_ | refine SXl.v (OpW.loadRow (cells := nodeRow _ ka kids.length kc st me ra ru.length rc) 0 rfl rfl rfl (nodeRow_style _ _ _ _ _ _ _ _ _)) rfl ?_ ?_ ?_ | refine SXl.v (OpW.load 0 rfl rfl rfl) rfl ?_ ?_ ?_ | refine SXl.v (OpW.loadAll 1 rfl rfl rfl) rfl ?_ ?_ ?_); rfl; rfl) | (refine l_call ?_; (first | refine SXl.v (OpW.call rfl (fun w hl => sstyleC_any _ _)) rfl ?_ ?_ ?_ | refine SXl.v (OpW.call rfl (fun w hl => sdepthOf_any l _ o _ c R _ (by omega) (h.keep hl.mod))) rfl ?_ ?_ ?_ | refine SXl.v (OpW.call rfl (fun w hl => snode_any _ _ _ _ ku _ _ _ _ _ _ _ _ _ w (by omega) hku (fun j v hv => hl.old (hc5 j v hv) (fun h => h)))) rfl ?_ ?_ ?_ | refine SXl.v (OpW.call rfl (fun w hl => shas_any z.kids _ kb kd R _ hfz (hk5.flatKeep hl.mod))) rfl ?_ ?_ ?_ | refine SXl.v (OpW.calls rfl (fun w _ => l01In_any _ _ _ _)) rfl ?_ ?_ ?_); rfl; rfl) | (refine l_field ?_; (refine SXl.v (OpW.field rfl (nodeRow_a1 _ _ _ _ _ _ _ _ _)) rfl ?_ ?_ ?_); rfl; rfl) | (refine l_fieldAddr ?_; (refine SXl.v (OpW.fieldAddr rfl) rfl ?_ ?_ ?_); rfl; rfl) | (refine l_move ?_; (refine SXl.v (OpW.move rfl) rfl ?_ ?_ ?_); rfl; rfl) | (refine l_assign ?_; (refine SXl.v (OpW.assign rfl) rfl ?_ ?_ ?_); rfl; rfl) | (refine l_len ?_; (refine SXl.v (OpW.len rfl) rfl ?_ ?_ ?_); rfl; rfl) | (refine l_add ?_; (refine SXl.v (OpW.succ rfl rfl (by omega)) rfl ?_ ?_ ?_); rfl; rfl) | (refine l_lss ?_; (refine SXl.v (OpW.lssT rfl rfl (by omega)) rfl ?_ ?_ ?_); rfl; rfl) | (refine l_neq ?_; (first | refine SXl.v (OpW.neqT rfl rfl (by omega)) rfl ?_ ?_ ?_ | refine SXl.v (OpW.neqF rfl rfl (by omega)) rfl ?_ ?_ ?_); rfl; rfl) | (refine l_not ?_; (refine SXl.v (OpW.not rfl) rfl ?_ ?_ ?_); rfl; rfl) | (refine l_pick ?_; (refine SXl.v (OpW.pick rfl rfl rfl) rfl ?_ ?_ ?_); rfl; rfl) | (refine l_indexAddr ?_; (refine SXl.v (OpW.indexAddr (by omega) rfl rfl) rfl ?_ ?_ ?_); rfl; rfl) | (refine l_alloc ?_; refine SXl.alloc ?_ ?_ (fun g => ?_); rfl; rfl) | (refine l_store ?_; first | (refine SXl.storeAll 0 ?_ rfl rfl rfl rfl rfl rfl rfl ?_; rfl; simp only [List.set_cons_zero, List.set_cons_succ]) | (refine SXl.storeAll 1 ?_ rfl rfl rfl rfl rfl rfl rfl ?_; rfl; simp only [List.set_cons_zero, List.set_cons_succ]) | (refine SXl.storeAll 2 ?_ rfl rfl rfl rfl rfl rfl rfl ?_; rfl; simp only [List.set_cons_zero, List.set_cons_succ]) | (refine SXl.storeRow 0 ?_ rfl rfl rfl rfl rfl rfl rfl ?_; rfl; simp only [over, List.set_cons_zero, List.set_cons_succ]) | (refine SXl.storeRow 1 ?_ rfl rfl rfl rfl rfl rfl rfl ?_; rfl; simp only [over, List.set_cons_zero, List.set_cons_succ]) | (refine SXl.storeRow 2 ?_ rfl rfl rfl rfl rfl rfl rfl ?_; rfl; simp only [over, List.set_cons_zero, List.set_cons_succ])) | ((first | rw [q1] | rw [q2])))
  refine SX.loopi (fun j : Nat => j ≤ kids.length ∧ ∀ i y, i < j → kids[i]? = some y → kidOk l k y = true) (fun j => kids.length - j) (fun _ => [⟨g, nodeRow ((ku + 1 : Nat) : Int) ka kids.length kc st me ra ru.length rc, 86⟩, ⟨gt, [.slice (some ⟨b1, o1, none⟩) l.length c], 37⟩]) (fun _ => []) (fun _ => []) (fun j => [(1, .pointer (some ⟨gt, 0, none⟩)), (4, .pointer (some ⟨g, 0, none⟩)), (3, .int .i64 k), (5, .int .i64 j)]) 0 ⟨Nat.zero_le _, fun i x h => absurd h (Nat.not_lt_zero _)⟩ ?_ (fun _ hl => hl) ?_
  · (repeat (first | exact subF_nil _ | (refine subF_cons rfl ?_) | (refine subF_consv rfl (by rfl) ?_)))
  rintro j ⟨hj, hks⟩
  by_cases hjl : j < kids.length
  · obtain ⟨b3, o3, y, e3, hR3, hb3, hyk, hc3⟩ := IntSlice.get hk1 hjl
    subst e3
    replace hyk := hyk.out
    cases p1 : inB y 1 l.length
    · have hv := nodeOk_k (l := l) (i := k) (x := ⟨((ku + 1 : Nat) : Int), kids, st, me, ru⟩) hyk (by simp [kidOk, p1])
      repeat (first | refine SX.seq ?_ | refine SXl.nil ?_ | refine SX.region ?_ | refine SQ.thenNormal ?_ | refine SX.block ?_ | refine SX.skip ?_ | refine SX.condT rfl ?_ | (refine l_load ?_; (refine SXl.v (OpW.load 0 rfl rfl rfl) rfl ?_ ?_ ?_); rfl; rfl) | (refine l_fieldAddr ?_; (refine SXl.v (OpW.fieldAddr rfl) rfl ?_ ?_ ?_); rfl; rfl) | (refine l_move ?_; (refine SXl.v (OpW.move rfl) rfl ?_ ?_ ?_); rfl; rfl) | (refine l_assign ?_; (refine SXl.v (OpW.assign rfl) rfl ?_ ?_ ?_); rfl; rfl) | (refine l_len ?_; (refine SXl.v (OpW.len rfl) rfl ?_ ?_ ?_); rfl; rfl) | (refine l_lss ?_; (refine SXl.v (OpW.lssT rfl rfl (by omega)) rfl ?_ ?_ ?_); rfl; rfl) | refine SX.drawn (by kernel_rfl) (by kernel_rfl) ?_ | refine SXr.nil ?_ | (refine SXr.no rfl rfl rfl ?_) | (refine r_call ?_; (refine SXr.v (OpW.call rfl (fun w hl => sisNode_any _ _ _ _ _)) rfl ?_ ?_ ?_); rfl; rfl) | (refine r_load ?_; (first | refine SXr.v (OpW.load 0 rfl rfl rfl) rfl ?_ ?_ ?_ | refine SXr.v (OpW.loadOld rfl (by assumption) (fun h => h)) rfl ?_ ?_ ?_ | refine SXr.v (OpW.loadAll 1 rfl rfl rfl) rfl ?_ ?_ ?_); rfl; rfl) | (refine r_fieldAddr ?_; (refine SXr.v (OpW.fieldAddr rfl) rfl ?_ ?_ ?_); rfl; rfl) | (refine r_move ?_; (refine SXr.v (OpW.move rfl) rfl ?_ ?_ ?_); rfl; rfl) | (refine r_not ?_; (refine SXr.v (OpW.not rfl) rfl ?_ ?_ ?_); rfl; rfl) | (refine r_pick ?_; (refine SXr.v (OpW.pick rfl rfl rfl) rfl ?_ ?_ ?_); rfl; rfl) | (refine r_indexAddr ?_; (refine SXr.v (OpW.indexAddr1 (by omega) rfl rfl) rfl ?_ ?_ ?_); rfl; rfl) | (rw [p1]) | refine SX.ret ?_ | refine SQ.thenRet ?_ | refine SQ.blockRet ?_)
      refine SQ.body1 rfl rfl (fun w' hl => ⟨by rw [treeOk_no hxk (hv)], hl.mod⟩)
    obtain ⟨ky, rfl, hky⟩ := inB_node p1
    obtain ⟨b2, o2, z, r2, e2, hR2, hb2, hzk, hr2, hl2, hc2⟩ := h.get hky
    obtain ⟨rfl, rfl⟩ : b1 = b2 ∧ o1 = o2 := by simpa using e2
    obtain ⟨kb, kd, rb, rd, rfl, _, _, _⟩ := hr2
    have hkid : kidOk l k ((ky + 1 : Nat) : Int) = decide (z.up = ((k + 1 : Nat) : Int)) := kidOk_at p1 hzk.out
    by_cases p2 : z.up = ((k + 1 : Nat) : Int)
    · repeat (first | refine SX.seq ?_ | refine SXl.nil ?_ | refine SX.region ?_ | refine SQ.thenNormal ?_ | refine SX.block ?_ | refine SX.skip ?_ | refine SX.condT rfl ?_ | refine SX.condF rfl ?_ | (refine l_load ?_; (refine SXl.v (OpW.load 0 rfl rfl rfl) rfl ?_ ?_ ?_); rfl; rfl) | (refine l_fieldAddr ?_; (refine SXl.v (OpW.fieldAddr rfl) rfl ?_ ?_ ?_); rfl; rfl) | (refine l_move ?_; (refine SXl.v (OpW.move rfl) rfl ?_ ?_ ?_); rfl; rfl) | (refine l_assign ?_; (refine SXl.v (OpW.assign rfl) rfl ?_ ?_ ?_); rfl; rfl) | (refine l_len ?_; (refine SXl.v (OpW.len rfl) rfl ?_ ?_ ?_); rfl; rfl) | (refine l_add ?_; (refine SXl.v (OpW.succ rfl rfl (by omega)) rfl ?_ ?_ ?_); rfl; rfl) | (refine l_lss ?_; (refine SXl.v (OpW.lssT rfl rfl (by omega)) rfl ?_ ?_ ?_); rfl; rfl) | refine SX.drawn (by kernel_rfl) (by kernel_rfl) ?_ | refine SXr.nil ?_ | (refine r_call ?_; (first | refine SXr.v (OpW.call rfl (fun w hl => sisNode_any _ _ _ _ _)) rfl ?_ ?_ ?_ | refine SXr.v (OpW.call rfl (fun w hl => snode_any _ _ _ _ ky _ _ _ _ _ _ _ _ _ w (by omega) hky (fun j v hv => hl.old (hc2 j v hv) (fun h => h)))) rfl ?_ ?_ ?_); rfl; rfl) | (refine r_field ?_; (refine SXr.v (OpW.field rfl (nodeRow_a0 _ _ _ _ _ _ _ _ _)) rfl ?_ ?_ ?_); rfl; rfl) | (refine r_load ?_; (first | refine SXr.v (OpW.load 0 rfl rfl rfl) rfl ?_ ?_ ?_ | refine SXr.v (OpW.loadOld rfl (by assumption) (fun h => h)) rfl ?_ ?_ ?_ | refine SXr.v (OpW.loadAll 1 rfl rfl rfl) rfl ?_ ?_ ?_); rfl; rfl) | (refine r_fieldAddr ?_; (refine SXr.v (OpW.fieldAddr rfl) rfl ?_ ?_ ?_); rfl; rfl) | (refine r_move ?_; (refine SXr.v (OpW.move rfl) rfl ?_ ?_ ?_); rfl; rfl) | (refine r_add ?_; (refine SXr.v (OpW.succ rfl rfl (by omega)) rfl ?_ ?_ ?_); rfl; rfl) | (refine r_neq ?_; (refine SXr.v (OpW.neqF rfl rfl (by omega)) rfl ?_ ?_ ?_); rfl; rfl) | (refine r_not ?_; (refine SXr.v (OpW.not rfl) rfl ?_ ?_ ?_); rfl; rfl) | (refine r_pick ?_; (refine SXr.v (OpW.pick rfl rfl rfl) rfl ?_ ?_ ?_); rfl; rfl) | (refine r_indexAddr ?_; (refine SXr.v (OpW.indexAddr1 (by omega) rfl rfl) rfl ?_ ?_ ?_); rfl; rfl) | (rw [p1]) | refine SQ.blockNormal ?_)
      refine SQ.roundi (j + 1) ⟨by omega, pto_succ hks hyk (by rw [hkid]; exact decide_eq_true p2)⟩ (by omega) ?_ (fun _ hl => hl)
      (repeat (first | exact subF_nil _ | (refine subF_cons rfl ?_) | (refine subF_consv rfl (by rfl) ?_)))
    · have hv := nodeOk_k (l := l) (i := k) (x := ⟨((ku + 1 : Nat) : Int), kids, st, me, ru⟩) hyk (by rw [hkid]; exact decide_eq_false p2)
      repeat (first | refine SX.seq ?_ | refine SXl.nil ?_ | refine SX.region ?_ | refine SQ.thenNormal ?_ | refine SX.block ?_ | refine SX.skip ?_ | refine SX.condT rfl ?_ | (refine l_load ?_; (refine SXl.v (OpW.load 0 rfl rfl rfl) rfl ?_ ?_ ?_); rfl; rfl) | (refine l_fieldAddr ?_; (refine SXl.v (OpW.fieldAddr rfl) rfl ?_ ?_ ?_); rfl; rfl) | (refine l_move ?_; (refine SXl.v (OpW.move rfl) rfl ?_ ?_ ?_); rfl; rfl) | (refine l_assign ?_; (refine SXl.v (OpW.assign rfl) rfl ?_ ?_ ?_); rfl; rfl) | (refine l_len ?_; (refine SXl.v (OpW.len rfl) rfl ?_ ?_ ?_); rfl; rfl) | (refine l_lss ?_; (refine SXl.v (OpW.lssT rfl rfl (by omega)) rfl ?_ ?_ ?_); rfl; rfl) | refine SX.drawn (by kernel_rfl) (by kernel_rfl) ?_ | refine SXr.nil ?_ | (refine r_call ?_; (first | refine SXr.v (OpW.call rfl (fun w hl => sisNode_any _ _ _ _ _)) rfl ?_ ?_ ?_ | refine SXr.v (OpW.call rfl (fun w hl => snode_any _ _ _ _ ky _ _ _ _ _ _ _ _ _ w (by omega) hky (fun j v hv => hl.old (hc2 j v hv) (fun h => h)))) rfl ?_ ?_ ?_); rfl; rfl) | (refine r_field ?_; (refine SXr.v (OpW.field rfl (nodeRow_a0 _ _ _ _ _ _ _ _ _)) rfl ?_ ?_ ?_); rfl; rfl) | (refine r_load ?_; (first | refine SXr.v (OpW.load 0 rfl rfl rfl) rfl ?_ ?_ ?_ | refine SXr.v (OpW.loadOld rfl (by assumption) (fun h => h)) rfl ?_ ?_ ?_ | refine SXr.v (OpW.loadAll 1 rfl rfl rfl) rfl ?_ ?_ ?_); rfl; rfl) | (refine r_fieldAddr ?_; (refine SXr.v (OpW.fieldAddr rfl) rfl ?_ ?_ ?_); rfl; rfl) | (refine r_move ?_; (refine SXr.v (OpW.move rfl) rfl ?_ ?_ ?_); rfl; rfl) | (refine r_add ?_; (refine SXr.v (OpW.succ rfl rfl (by omega)) rfl ?_ ?_ ?_); rfl; rfl) | (refine r_neq ?_; (refine SXr.v (OpW.neqT rfl rfl (by omega)) rfl ?_ ?_ ?_); rfl; rfl) | (refine r_not ?_; (refine SXr.v (OpW.not rfl) rfl ?_ ?_ ?_); rfl; rfl) | (refine r_pick ?_; (refine SXr.v (OpW.pick rfl rfl rfl) rfl ?_ ?_ ?_); rfl; rfl) | (refine r_indexAddr ?_; (refine SXr.v (OpW.indexAddr1 (by omega) rfl rfl) rfl ?_ ?_ ?_); rfl; rfl) | (rw [p1]) | refine SX.ret ?_ | refine SQ.thenRet ?_ | refine SQ.blockRet ?_)
      refine SQ.body1 rfl rfl (fun w' hl => ⟨by rw [treeOk_no hxk (hv)], hl.mod⟩)
  have hka := all_ints (p := kidOk l k) hks (by omega)
  cases me
  · by_cases r0 : ru.length = 0
    · repeat (first | refine SX.seq ?_ | refine SXl.nil ?_ | refine SX.region ?_ | refine SQ.thenNormal ?_ | refine SX.skip ?_ | refine SX.condF rfl ?_ | (refine SXl.no rfl rfl rfl ?_) | (refine l_load ?_; (refine SXl.v (OpW.load 0 rfl rfl rfl) rfl ?_ ?_ ?_); rfl; rfl) | (refine l_fieldAddr ?_; (refine SXl.v (OpW.fieldAddr rfl) rfl ?_ ?_ ?_); rfl; rfl) | (refine l_move ?_; (refine SXl.v (OpW.move rfl) rfl ?_ ?_ ?_); rfl; rfl) | (refine l_assign ?_; (refine SXl.v (OpW.assign rfl) rfl ?_ ?_ ?_); rfl; rfl) | (refine l_len ?_; (refine SXl.v (OpW.len rfl) rfl ?_ ?_ ?_); rfl; rfl) | (refine l_add ?_; (refine SXl.v (OpW.succ rfl rfl (by omega)) rfl ?_ ?_ ?_); rfl; rfl) | (refine l_gtr ?_; (refine SXl.v (OpW.gtrF rfl rfl (by omega)) rfl ?_ ?_ ?_); rfl; rfl) | (refine l_lss ?_; (refine SXl.v (OpW.lssF rfl rfl (by omega)) rfl ?_ ?_ ?_); rfl; rfl) | (refine l_not ?_; (refine SXl.v (OpW.not rfl) rfl ?_ ?_ ?_); rfl; rfl) | (refine l_pick ?_; (refine SXl.v (OpW.pick rfl rfl rfl) rfl ?_ ?_ ?_); rfl; rfl) | refine SX.exit ?_ | refine SQ.thenExit ?_ | refine SQ.blockNormal ?_ | refine SQ.blockExit ?_)
      refine SQ.roundi (k + 1) ⟨by omega, pto_succ hs hxk (nodeOk_y q1 q2 hka hup (by simp [tabOk, r0]))⟩ (by omega) ?_ (fun _ hl => hl.drop1)
      (repeat (first | exact subF_nil _ | (refine subF_cons rfl ?_) | (refine subF_consv rfl (by rfl) ?_)))
    · have hv := nodeOk_t (l := l) (i := k) (x := ⟨((ku + 1 : Nat) : Int), kids, st, false, ru⟩) (by simp [tabOk]; intro e; exact r0 (by rw [e]; rfl))
      repeat (first | refine SX.seq ?_ | refine SXl.nil ?_ | refine SX.region ?_ | refine SQ.thenNormal ?_ | refine SX.condT rfl ?_ | refine SX.condF rfl ?_ | (refine SXl.no rfl rfl rfl ?_) | (refine l_load ?_; (refine SXl.v (OpW.load 0 rfl rfl rfl) rfl ?_ ?_ ?_); rfl; rfl) | (refine l_fieldAddr ?_; (refine SXl.v (OpW.fieldAddr rfl) rfl ?_ ?_ ?_); rfl; rfl) | (refine l_move ?_; (refine SXl.v (OpW.move rfl) rfl ?_ ?_ ?_); rfl; rfl) | (refine l_assign ?_; (refine SXl.v (OpW.assign rfl) rfl ?_ ?_ ?_); rfl; rfl) | (refine l_len ?_; (refine SXl.v (OpW.len rfl) rfl ?_ ?_ ?_); rfl; rfl) | (refine l_gtr ?_; (refine SXl.v (OpW.gtrT rfl rfl (by omega)) rfl ?_ ?_ ?_); rfl; rfl) | (refine l_lss ?_; (refine SXl.v (OpW.lssF rfl rfl (by omega)) rfl ?_ ?_ ?_); rfl; rfl) | (refine l_not ?_; (refine SXl.v (OpW.not rfl) rfl ?_ ?_ ?_); rfl; rfl) | (refine l_pick ?_; (refine SXl.v (OpW.pick rfl rfl rfl) rfl ?_ ?_ ?_); rfl; rfl) | refine SX.ret ?_ | refine SX.exit ?_ | refine SQ.thenRet ?_ | refine SQ.thenExit ?_ | refine SQ.blockRet ?_ | refine SQ.blockExit ?_)
      refine SQ.body1 rfl rfl (fun w' hl => ⟨by rw [treeOk_no hxk (hv)], hl.mod⟩)
  · cases tq : tableOk ru
    · have hv := nodeOk_t (l := l) (i := k) (x := ⟨((ku + 1 : Nat) : Int), kids, st, true, ru⟩) (by simp [tabOk, tq])
      repeat (first | refine SX.seq ?_ | refine SXl.nil ?_ | refine SX.region ?_ | refine SQ.thenNormal ?_ | refine SX.condT rfl ?_ | refine SX.condF rfl ?_ | (refine SXl.no rfl rfl rfl ?_) | (refine l_load ?_; (first | refine SXl.v (OpW.loadRow (cells := nodeRow _ _ _ _ _ _ _ _ _) 0 rfl rfl rfl (nodeRow_tab _ _ _ _ _ _ _ _ _)) rfl ?_ ?_ ?_ | refine SXl.v (OpW.load 0 rfl rfl rfl) rfl ?_ ?_ ?_); rfl; rfl) | (refine l_call ?_; (refine SXl.v (OpW.call rfl (fun w hl => stableOk_any ru ra rc R _ hf2 (ht1.flatKeep hl.mod))) rfl ?_ ?_ ?_); rfl; rfl) | (refine l_fieldAddr ?_; (refine SXl.v (OpW.fieldAddr rfl) rfl ?_ ?_ ?_); rfl; rfl) | (refine l_move ?_; (refine SXl.v (OpW.move rfl) rfl ?_ ?_ ?_); rfl; rfl) | (refine l_assign ?_; (refine SXl.v (OpW.assign rfl) rfl ?_ ?_ ?_); rfl; rfl) | (refine l_len ?_; (refine SXl.v (OpW.len rfl) rfl ?_ ?_ ?_); rfl; rfl) | (refine l_lss ?_; (refine SXl.v (OpW.lssF rfl rfl (by omega)) rfl ?_ ?_ ?_); rfl; rfl) | (refine l_not ?_; (refine SXl.v (OpW.not rfl) rfl ?_ ?_ ?_); rfl; rfl) | (refine l_pick ?_; (refine SXl.v (OpW.pick rfl rfl rfl) rfl ?_ ?_ ?_); rfl; rfl) | (rw [tq]) | refine SX.ret ?_ | refine SX.exit ?_ | refine SQ.thenRet ?_ | refine SQ.thenExit ?_ | refine SQ.blockRet ?_ | refine SQ.blockExit ?_)
      refine SQ.body1 rfl rfl (fun w' hl => ⟨by rw [treeOk_no hxk (hv)], hl.mod⟩)
    by_cases k0 : kids.length = 0
    · repeat (first | refine SX.seq ?_ | refine SXl.nil ?_ | refine SX.region ?_ | refine SQ.thenNormal ?_ | refine SX.skip ?_ | refine SX.condF rfl ?_ | (refine SXl.no rfl rfl rfl ?_) | (refine l_load ?_; (first | refine SXl.v (OpW.loadRow (cells := nodeRow _ _ _ _ _ _ _ _ _) 0 rfl rfl rfl (nodeRow_tab _ _ _ _ _ _ _ _ _)) rfl ?_ ?_ ?_ | refine SXl.v (OpW.load 0 rfl rfl rfl) rfl ?_ ?_ ?_); rfl; rfl) | (refine l_call ?_; (refine SXl.v (OpW.call rfl (fun w hl => stableOk_any ru ra rc R _ hf2 (ht1.flatKeep hl.mod))) rfl ?_ ?_ ?_); rfl; rfl) | (refine l_fieldAddr ?_; (refine SXl.v (OpW.fieldAddr rfl) rfl ?_ ?_ ?_); rfl; rfl) | (refine l_move ?_; (refine SXl.v (OpW.move rfl) rfl ?_ ?_ ?_); rfl; rfl) | (refine l_assign ?_; (refine SXl.v (OpW.assign rfl) rfl ?_ ?_ ?_); rfl; rfl) | (refine l_len ?_; (refine SXl.v (OpW.len rfl) rfl ?_ ?_ ?_); rfl; rfl) | (refine l_add ?_; (refine SXl.v (OpW.succ rfl rfl (by omega)) rfl ?_ ?_ ?_); rfl; rfl) | (refine l_gtr ?_; (refine SXl.v (OpW.gtrF rfl rfl (by omega)) rfl ?_ ?_ ?_); rfl; rfl) | (refine l_lss ?_; (refine SXl.v (OpW.lssF rfl rfl (by omega)) rfl ?_ ?_ ?_); rfl; rfl) | (refine l_not ?_; (refine SXl.v (OpW.not rfl) rfl ?_ ?_ ?_); rfl; rfl) | (refine l_pick ?_; (refine SXl.v (OpW.pick rfl rfl rfl) rfl ?_ ?_ ?_); rfl; rfl) | (rw [tq]) | refine SX.exit ?_ | refine SQ.thenExit ?_ | refine SQ.blockNormal ?_ | refine SQ.blockExit ?_)
      refine SQ.roundi (k + 1) ⟨by omega, pto_succ hs hxk (nodeOk_y q1 q2 hka hup (by simp [tabOk, tq, k0]))⟩ (by omega) ?_ (fun _ hl => hl.drop1)
      (repeat (first | exact subF_nil _ | (refine subF_cons rfl ?_) | (refine subF_consv rfl (by rfl) ?_)))
    · have hv := nodeOk_t (l := l) (i := k) (x := ⟨((ku + 1 : Nat) : Int), kids, st, true, ru⟩) (by simp [tabOk, tq]; intro e; exact k0 (by rw [e]; rfl))
      repeat (first | refine SX.seq ?_ | refine SXl.nil ?_ | refine SX.region ?_ | refine SQ.thenNormal ?_ | refine SX.condT rfl ?_ | refine SX.condF rfl ?_ | (refine SXl.no rfl rfl rfl ?_) | (refine l_load ?_; (first | refine SXl.v (OpW.loadRow (cells := nodeRow _ _ _ _ _ _ _ _ _) 0 rfl rfl rfl (nodeRow_tab _ _ _ _ _ _ _ _ _)) rfl ?_ ?_ ?_ | refine SXl.v (OpW.load 0 rfl rfl rfl) rfl ?_ ?_ ?_); rfl; rfl) | (refine l_call ?_; (refine SXl.v (OpW.call rfl (fun w hl => stableOk_any ru ra rc R _ hf2 (ht1.flatKeep hl.mod))) rfl ?_ ?_ ?_); rfl; rfl) | (refine l_fieldAddr ?_; (refine SXl.v (OpW.fieldAddr rfl) rfl ?_ ?_ ?_); rfl; rfl) | (refine l_move ?_; (refine SXl.v (OpW.move rfl) rfl ?_ ?_ ?_); rfl; rfl) | (refine l_assign ?_; (refine SXl.v (OpW.assign rfl) rfl ?_ ?_ ?_); rfl; rfl) | (refine l_len ?_; (refine SXl.v (OpW.len rfl) rfl ?_ ?_ ?_); rfl; rfl) | (refine l_gtr ?_; (refine SXl.v (OpW.gtrT rfl rfl (by omega)) rfl ?_ ?_ ?_); rfl; rfl) | (refine l_lss ?_; (refine SXl.v (OpW.lssF rfl rfl (by omega)) rfl ?_ ?_ ?_); rfl; rfl) | (refine l_not ?_; (refine SXl.v (OpW.not rfl) rfl ?_ ?_ ?_); rfl; rfl) | (refine l_pick ?_; (refine SXl.v (OpW.pick rfl rfl rfl) rfl ?_ ?_ ?_); rfl; rfl) | (rw [tq]) | refine SX.ret ?_ | refine SX.exit ?_ | refine SQ.thenRet ?_ | refine SQ.thenExit ?_ | refine SQ.blockRet ?_ | refine SQ.blockExit ?_)
      refine SQ.body1 rfl rfl (fun w' hl => ⟨by rw [treeOk_no hxk (hv)], hl.mod⟩)

end Go.Proofs.Ythffgbhphjkdeaa
namespace Go.Proofs.Ythffgbhphjkdeaa
open Go.RowKit

/-- Where a slice lies. -/
structure SlP where
  a : Option Addr
  c : Nat
  lo : Nat
def ownRes {α : Type} (cells : α → List Value) (e sz : Nat) (l : List α) (q : SlP) : Res where
  foot := fun k => (Value.slice q.a l.length q.c).ownBlock = some k
  says := fun w => w.ownsRow q.lo e sz (.slice q.a l.length q.c) l.length (l.map cells).flatten
  stable := fun _ _ _ h hm hs => ownsRow_keep h hm hs
theorem new_own {α : Type} {cells : α → List Value} {e sz : Nat} {l : List α} {w w' : World} {en : Ending} (h : NewSlice e sz w l.length (l.map cells).flatten en w') : NewR SlP (fun q => .slice q.a l.length q.c) (ownRes cells e sz l) w en w' := by
  obtain ⟨a, c, he, ho, hm⟩ := h
  exact ⟨⟨a, c, w.heap.size⟩, he, ⟨ho, fun k hk => ownBlock_lt ho hk⟩, hm⟩
theorem own_in {α : Type} {cells : α → List Value} {e sz : Nat} {l : List α} {q : SlP} {W : World} {R : Rg W} {L : List Blk} {O : List Own} {E : List Res} {w : World} (h : Loc W R L O E w) (hm : ownRes cells e sz l q ∈ E) (hc : ∀ x, (cells x).length = sz) (hsz : sz ≠ 0) : SliceAt (Flat cells) sz (fun k => q.lo ≤ k) w q.a l := own_slice (h.res _ hm).1 hc hsz
end Go.Proofs.Ythffgbhphjkdeaa
namespace Go.Proofs.Ythffgbhphjkdeaa
open Go.RowKit

/-- What a block that a pointer names is. -/
def gOf (v : Value) : Nat := match v with
  | .pointer (some a) => a.block
  | _ => 0
/-- Only a new block of the cells z may turn, to the cells r. -/
def TQ (B T0 : Nat) (z r : List Value) (w w' : World) : Prop := Mod (fun k => B ≤ k ∧ w.heap[k]? = some (.cells z.toArray T0 (0, 0)) ∧ w'.heap[k]? = some (.cells r.toArray T0 (0, 0))) w w'
structure Far (W : World) (L : List Blk) (O : List Own) (E : List Res) (B : Nat) : Prop where
  old : W.heap.size ≤ B
  blk : ∀ b ∈ L, b.g < B
  own : ∀ o ∈ O, ∀ k, o.v.ownBlock = some k → k < B
  res : ∀ F ∈ E, ∀ k, F.foot k → k < B
section
variable {P : Program} {n : Nat} {W : World} {R : Rg W} {L : List Blk} {O : List Own} {E : List Res} {w w' : World} {B T0 : Nat} {z r : List Value}
theorem Loc.far (h : Loc W R L O E w) : Far W L O E w.heap.size := ⟨h.mod.size, fun b hb => h.blk_lt hb, fun o ho k hk => (ownBlock_lt (h.own o ho).1 hk).2, fun F hF k hk => (h.res F hF).2.1 k hk⟩
theorem Loc.keepQ (hf : Far W L O E B) (h : Loc W R L O E w) (hm : TQ B T0 z r w w') : Loc W R L O E w' :=
  h.frame hm (fun k hk hs => by have := hf.old; have := hs.1; omega) (fun b hb hs => by have := hf.blk b hb; have := hs.1; omega) (fun o ho k hk hs => by have := hf.own o ho k hk; have := hs.1; omega) (fun F hF k hk hs => by have := hf.res F hF k hk; have := hs.1; omega)
theorem Loc.addNew (hf : Far W L O E B) (h : Loc W R L O E w) {g : Nat} (hg : B ≤ g) (hb : w.heap[g]? = some (.cells r.toArray T0 (0, 0))) : Loc W R (⟨g, r, T0⟩ :: L) O E w where
  mod := h.mod
  inv := h.inv
  blk := fun b hbm => by
    rcases List.mem_cons.1 hbm with rfl | hbm
    · exact ⟨.inr (Nat.le_trans hf.old hg), hb⟩
    · exact h.blk b hbm
  apart := List.pairwise_cons.2 ⟨fun b hbm e => by have := hf.blk b hbm; simp only at e; omega, h.apart⟩
  own := fun o ho => ⟨(h.own o ho).1, fun b hbm e => by
    rcases List.mem_cons.1 hbm with rfl | hbm
    · have := hf.own o ho _ e; simp only at this; omega
    · exact (h.own o ho).2 b hbm e⟩
  ownApart := h.ownApart
  res := fun F hF => ⟨(h.res F hF).1, (h.res F hF).2.1, fun b hbm f => by
    rcases List.mem_cons.1 hbm with rfl | hbm
    · have := hf.res F hF _ f; simp only at this; omega
    · exact (h.res F hF).2.2.1 b hbm f, (h.res F hF).2.2.2⟩
  resNew := h.resNew
  resApart := h.resApart
/-- A pointer at a new block of the cells z or r. -/
def AV (B T0 : Nat) (z r : List Value) (w : World) (v : Value) : Prop := ∃ g, v = .pointer (some ⟨g, 0, none⟩) ∧ B ≤ g ∧ (w.heap[g]? = some (.cells z.toArray T0 (0, 0)) ∨ w.heap[g]? = some (.cells r.toArray T0 (0, 0)))
theorem AV.keep {v : Value} (h : AV B T0 z r w v) (hm : TQ B T0 z r w w') : AV B T0 z r w' v := by
  obtain ⟨g, h1, h2, h3⟩ := h
  refine ⟨g, h1, h2, ?_⟩
  by_cases hs : B ≤ g ∧ w.heap[g]? = some (.cells z.toArray T0 (0, 0)) ∧ w'.heap[g]? = some (.cells r.toArray T0 (0, 0))
  · exact .inr hs.2.2
  · have hlt : g < w.heap.size := by rcases h3 with h3 | h3 <;> exact (Array.getElem?_eq_some_iff.1 h3).1
    rw [hm.block g hlt hs]
    exact h3
/-- The block that operation ka made holds the cells r. -/
def SV (ka T0 : Nat) (r : List Value) (x : Nat → Value) (w : World) (_ : Value) : Prop := w.heap[gOf (x ka)]? = some (.cells r.toArray T0 (0, 0))
theorem SV.keep {ka : Nat} {x : Nat → Value} {v : Value} (h : SV ka T0 r x w v) (hm : TQ B T0 z r w w') : SV ka T0 r x w' v := by
  unfold SV at *
  by_cases hs : B ≤ gOf (x ka) ∧ w.heap[gOf (x ka)]? = some (.cells z.toArray T0 (0, 0)) ∧ w'.heap[gOf (x ka)]? = some (.cells r.toArray T0 (0, 0))
  · exact hs.2.2
  · rw [hm.block _ (Array.getElem?_eq_some_iff.1 h).1 hs]
    exact h
structure SXq (P : Program) (n : Nat) (W : World) (R : Rg W) (ops : Array Oper) (L : List Blk) (O : List Own) (E : List Res) (B T0 : Nat) (z r : List Value) (k : Nat) (U : List (Nat × ((Nat → Value) → World → Value → Prop))) (f : (Nat → Value) → List (Nat × Value)) (l : List Oper) (Q : Exit → Act → World → Prop) : Prop where
  run : ∀ F : (Nat → Value) → Act, (∀ x, Fr n (f x) (F x)) → RS P ops (TQ B T0 z r) (fun w => Loc W R L O E w ∧ B ≤ w.heap.size) Q k l F U
end
section
variable {P : Program} {n : Nat} {W : World} {R : Rg W} {L : List Blk} {O : List Own} {E : List Res} {U : List (Nat × ((Nat → Value) → World → Value → Prop))} {f : (Nat → Value) → List (Nat × Value)} {f0 : List (Nat × Value)} {Q : Exit → Act → World → Prop} {ops : Array Oper} {rest : List Oper} {k B T0 : Nat} {z r : List Value}
theorem SXq.v {o : Oper} {v : Value} {d : Nat} (hr : ∀ x, OpW P n W R L O E (f x) o v) (hdst : o.dst = some d) (hw : ∀ x, wantO ops (f x) o = some true) (hd : Nat.blt d n = true) (h : SXq P n W R ops L O E B T0 z r (k + 1) U (fun x => (d, v) :: f x) rest Q) : SXq P n W R ops L O E B T0 z r k U f (o :: rest) Q := ⟨fun F hF =>
  RS.val [] (fun _ => v) rfl (fun _ _ _ => rfl) (fun x => wanted_of (hF x) (hw x)) (fun x w hS _ => wp_never ((hr x).run _ w (hF x) hS.1) fun _ _ ⟨h1, h2⟩ => ⟨h1, ⟨hS.1.keep h2, Nat.le_trans hS.2 h2.size⟩, h2.mono fun _ _ f => f.elim⟩) (by rw [hdst]; exact h.run _ fun x => (hF x).put hd v)⟩
theorem SXq.no {o : Oper} {d : Nat} (hw : ∀ x, wantO ops (f x) o = some false) (hdst : o.dst = some d) (hd : Nat.blt d n = true) (h : SXq P n W R ops L O E B T0 z r (k + 1) U (fun x => (d, undef) :: f x) rest Q) : SXq P n W R ops L O E B T0 z r k U f (o :: rest) Q := ⟨fun F hF =>
  RS.skip (fun x => wanted_of (hF x) (hw x)) (by rw [hdst]; exact h.run _ fun x => (hF x).put hd undef)⟩
variable {d m ka ks : Nat} {xo yo : Operand} {ty : TypeId} {pos : String} {af : Array Edge} {gd : Option (Nat × Bool)}
theorem SXq.alloc [t : TZero P T0 z] (hf : Far W L O E B) (hw : ∀ x, wantO ops (f x) ⟨some d, .alloc T0, ty, pos, af, gd⟩ = some true) (hd : Nat.blt d n = true)
    (h : SXq P n W R ops L O E B T0 z r (k + 1) ((k, fun _ => AV B T0 z r) :: U) (fun x => (d, .pointer (some ⟨gOf (x k), 0, none⟩)) :: f x) rest Q) : SXq P n W R ops L O E B T0 z r k U f (⟨some d, .alloc T0, ty, pos, af, gd⟩ :: rest) Q := ⟨fun F hF =>
  RS.new [] (AV B T0 z r) (fun v => .pointer (some ⟨gOf v, 0, none⟩)) (fun _ v ⟨g, hv, _⟩ => by subst hv; rfl) rfl (fun _ _ _ h hm => h.keep hm) (fun x => wanted_of (hF x) (hw x)) (fun x w hS _ => by
    obtain ⟨v, h1, h2⟩ := t.h
    obtain ⟨i, hi, hz⟩ := Option.map_eq_some_iff.1 h1
    have hrun : (execOp (F x).eval ⟨some d, .alloc T0, ty, pos, af, gd⟩).run P w = .ok (.value (.pointer (some ⟨w.heap.size, 0, none⟩))) (w.alloc (.cells z.toArray T0)) := by
      simp [execOp, Instr.alloc, zeroValue, typeInfo, hi, hz, newVar, newRow, h2]
    unfold Oper.wp
    rw [hrun, Oper.upon_value]
    have hm : Mod (fun _ => False) w (w.alloc (.cells z.toArray T0)) := (Mod.refl _ w).alloc _
    exact ⟨_, rfl, ⟨w.heap.size, rfl, hS.2, .inl (heap_alloc_new w _)⟩, ⟨hS.1.keep hm, Nat.le_trans hS.2 hm.size⟩, hm.mono fun _ _ f => f.elim⟩) (h.run _ fun x => (hF x).put hd _)⟩
theorem SXq.store (ka : Nat) [t : TRow P T0 m] (hf : Far W L O E B) (hus : ([ka].all fun i => (reach ops ops.size k).contains i) = true) (hU : (ka, fun _ => AV B T0 z r) ∈ U) (hw : ∀ x, wantO ops (f x) ⟨none, .store T0 xo yo, ty, pos, af, gd⟩ = some true) (hx : ∀ x, evO (f x) xo = some (.pointer (some ⟨gOf (x ka), 0, none⟩))) (hy : ∀ x, evO (f x) yo = some (.agg r.toArray)) (hr : r.length = m) (hz : z.length = m) (hv : r.all (·.oneCell') = true)
    (h : SXq P n W R ops L O E B T0 z r (k + 1) ((k, SV ka T0 r) :: U) f rest Q) : SXq P n W R ops L O E B T0 z r k U f (⟨none, .store T0 xo yo, ty, pos, af, gd⟩ :: rest) Q := ⟨fun F hF =>
  RS.newx [ka] (SV ka T0 r) id (fun _ _ _ _ => rfl) hus ⟨fun _ _ _ _ h hm => h.keep hm, fun x y w v hxy h => by unfold SV at *; rw [← hxy ka List.mem_cons_self]; exact h⟩ (fun x => wanted_of (hF x) (hw x)) (fun x w hS hK => by
    obtain ⟨_, h3⟩ := t.h
    obtain ⟨g, hg, hB, hc⟩ := hK _ hU List.mem_cons_self
    have eg : gOf (x ka) = g := by rw [hg]; rfl
    have hxx := hx x
    rw [eg] at hxx
    have key : ∀ cs : List Value, cs.length = m → w.heap[g]? = some (.cells cs.toArray T0 (0, 0)) → (execOp (F x).eval ⟨none, .store T0 xo yo, ty, pos, af, gd⟩).run P w = .ok .skip (w.setCells g 0 r) ∧ (w.setCells g 0 r).heap[g]? = some (.cells r.toArray T0 (0, 0)) := fun cs hcs hb => by
      have e := run_store_row (P := P) (ty := T0) h3 (w := w) (b := g) (o := 0) (S := r.toArray) (by simp [hasRow, hb, hcs]) (by simp [openRow, hb]) (by simpa using hr) (by simpa using hv)
      refine ⟨by simp [execOp, (hF x).eval hxx, (hF x).eval (hy x), e], ?_⟩
      rw [setCells_heap g r 0 w _ _ _ hb, spl_over]
      have := over_all r cs [] (by omega)
      simp only [List.nil_append, List.length_nil] at this
      rw [this]
    have hmm := mod_setCells g r 0 w
    have fin : (execOp (F x).eval ⟨none, .store T0 xo yo, ty, pos, af, gd⟩).run P w = .ok .skip (w.setCells g 0 r) ∧ (w.setCells g 0 r).heap[g]? = some (.cells r.toArray T0 (0, 0)) ∧ TQ B T0 z r w (w.setCells g 0 r) := by
      rcases hc with hc | hc
      · obtain ⟨k1, k2⟩ := key z hz hc
        exact ⟨k1, k2, hmm.mono fun k _ e => by subst e; exact ⟨hB, hc, k2⟩⟩
      · obtain ⟨k1, k2⟩ := key r hr hc
        exact ⟨k1, k2, hmm.os, hmm.tape, hmm.output, hmm.size, fun k hk hn => by
          by_cases e : k = g
          · subst e; rw [k2, hc]
          · exact hmm.block k hk e⟩
    obtain ⟨k1, k2, k3⟩ := fin
    unfold Oper.wp
    rw [k1, Oper.upon_skip]
    exact ⟨undef, rfl, by unfold SV; rw [eg]; exact k2, ⟨Loc.keepQ hf hS.1 k3, Nat.le_trans hS.2 k3.size⟩, k3⟩) (h.run _ hF)⟩
theorem SXq.nil (ka ks : Nat) (hf : Far W L O E B) (hA : (ka, fun _ => AV B T0 z r) ∈ U) (hS : (ks, SV ka T0 r) ∈ U) (h : ∀ x, SQ n W R (⟨gOf (x ka), r, T0⟩ :: L) O E (f x) .normal Q) : SXq P n W R ops L O E B T0 z r k U f [] Q := ⟨fun F hF => RS.done fun x w hSw hU => by
  obtain ⟨g, hg, hB, _⟩ := hU _ hA
  have hs := hU _ hS
  have eg : gOf (x ka) = g := by rw [hg]; rfl
  exact (h x).run _ w (hF x) (Loc.addNew hf hSw.1 (by rw [eg]; exact hB) hs)⟩
/-! A literal slice of one cell, made in the region's head. -/
def sOf (v : Value) : Nat := match v with
  | .slice (some a) _ _ => a.block
  | _ => 0
def BV (B e : Nat) (u : Value) (w : World) (v : Value) : Prop := ∃ g, v = .slice (some ⟨g, 0, none⟩) 1 1 ∧ B ≤ g ∧ w.heap[g]? = some (.cells #[u] e (0, 0))
theorem SXq.lit1 {T e by_ : Nat} {zv u : Value} [t : TSl P T e 1] [te : TEl P e 1 by_ zv] (hf : Far W L O E B) (hw : ∀ x, wantO ops (f x) ⟨some d, .buildSlice T 1 #[(0, xo)], ty, pos, af, gd⟩ = some true) (hd : Nat.blt d n = true) (hx : ∀ x, evO (f x) xo = some u) (hv : u.cells = #[u]) (hz : zv.cells = #[zv])
    (h : SXq P n W R ops L O E B T0 [] r (k + 1) ((k, fun _ => BV B e u) :: U) (fun x => (d, .slice (some ⟨sOf (x k), 0, none⟩) 1 1) :: f x) rest Q) : SXq P n W R ops L O E B T0 [] r k U f (⟨some d, .buildSlice T 1 #[(0, xo)], ty, pos, af, gd⟩ :: rest) Q := ⟨fun F hF =>
  RS.new [] (BV B e u) (fun v => .slice (some ⟨sOf v, 0, none⟩) 1 1) (fun _ v ⟨g, hv, _⟩ => by subst hv; rfl) rfl (fun w w' v ⟨g, h1, h2, h3⟩ hm => ⟨g, h1, h2, by
    rw [hm.block g (Array.getElem?_eq_some_iff.1 h3).1 (fun hs => by have := hs.2.1; rw [h3] at this; simp at this)]
    exact h3⟩) (fun x => wanted_of (hF x) (hw x)) (fun x w hS _ => by
    obtain ⟨i0, q1, q2, q3, q4, q5, q6⟩ := te.h
    have hfill : Instr.fill (fun i => some (i, 1)) #[zv] [(0, u)] = some #[u] := by
      unfold Instr.fill
      simp [hv, Instr.fill, List.zipIdx]
      rw [hv]
      rfl
    have hrun : (execOp (F x).eval ⟨some d, .buildSlice T 1 #[(0, xo)], ty, pos, af, gd⟩).run P w = .ok (.value (.slice (some ⟨w.heap.size, 0, none⟩) 1 1)) (w.alloc (.cells #[u] e)) := by
      have e3 : (Array.range 1).map (fun _ => zv) = #[zv] := by
        apply Array.ext_getElem?
        intro i
        cases i <;> simp [Array.getElem?_map, Array.getElem?_range]
      simp only [execOp, Instr.buildSlice, Sem.run_bind, run_underlying t.h.1, Result.andThen_ok, sizeOf, typeInfo, run_program, q1, Sem.run_pure, q3, Nat.mul_one]
      simp [newRow, zeroValue, typeInfo, q1, q2, hz, Nat.mod_one, (hF x).eval (hx x), e3, hfill]
    unfold Oper.wp
    rw [hrun, Oper.upon_value]
    have hm : Mod (fun _ => False) w (w.alloc (.cells #[u] e)) := (Mod.refl _ w).alloc _
    exact ⟨_, rfl, ⟨w.heap.size, rfl, hS.2, heap_alloc_new w _⟩, ⟨hS.1.keep hm, Nat.le_trans hS.2 hm.size⟩, hm.mono fun _ _ f => f.elim⟩) (h.run _ fun x => (hF x).put hd _)⟩
theorem SXq.tail (h : ∀ x, SXl P n W R ops L O E (f x) rest Q) : SXq P n W R ops L O E B T0 z r k U f [] (fun _ a w => wpList P ops Q rest a w) := ⟨fun F hF => RS.done fun x w hSw _ => (h x).run _ w (hF x) hSw.1⟩
end
end Go.Proofs.Ythffgbhphjkdeaa
namespace Go.Proofs.Ythffgbhphjkdeaa
open Go.RowKit

section
variable {P : Program} {n : Nat} {W : World} {R : Rg W} {L : List Blk} {O : List Own} {E : List Res} {w w' : World} {B : Nat}
/-- A new fact on memory that lies beyond B. -/
theorem Loc.toldB (hf : Far W L O E B) (h : Loc W R L O E w) {F1 : Res} (h1 : F1.says w) (h2 : ∀ k, F1.foot k → B ≤ k ∧ k < w.heap.size) : Loc W R L O (F1 :: E) w where
  mod := h.mod
  inv := h.inv
  blk := h.blk
  apart := h.apart
  own := h.own
  ownApart := h.ownApart
  res := fun F hF => by
    rcases List.mem_cons.1 hF with rfl | hF
    · refine ⟨h1, fun k hk => (h2 k hk).2, fun b hb f => ?_, fun o ho k hk f => ?_⟩
      · have := hf.blk b hb; have := (h2 _ f).1; omega
      · have := hf.own o ho k hk; have := (h2 _ f).1; omega
    · exact h.res F hF
  resNew := fun F hF k hk => by
    rcases List.mem_cons.1 hF with rfl | hF
    · exact Nat.le_trans hf.old (h2 k hk).1
    · exact h.resNew F hF k hk
  resApart := List.pairwise_cons.2 ⟨fun G hG k hk hk' => by have := hf.res G hG k hk'; have := (h2 k hk).1; omega, h.resApart⟩
/-- What a call handed back, told. -/
def WV {ξ : Type} (v : ξ → Value) (F1 : ξ → Res) (B : Nat) (w : World) (u : Value) : Prop := ∃ p, u = v p ∧ (F1 p).says w ∧ ∀ k, (F1 p).foot k → B ≤ k ∧ k < w.heap.size
theorem WV.keep {ξ : Type} {v : ξ → Value} {F1 : ξ → Res} {u : Value} (h : WV v F1 B w u) (hm : Mod (fun _ => False) w w') : WV v F1 B w' u := by
  obtain ⟨p, h1, h2, h3⟩ := h
  exact ⟨p, h1, (F1 p).stable _ _ _ h2 hm (fun _ _ f => f), fun k hk => ⟨(h3 k hk).1, Nat.lt_of_lt_of_le (h3 k hk).2 hm.size⟩⟩
structure SXw (P : Program) (n : Nat) (W : World) (R : Rg W) (ops : Array Oper) (L : List Blk) (O : List Own) (E : List Res) (B : Nat) (k : Nat) (U : List (Nat × ((Nat → Value) → World → Value → Prop))) (f : (Nat → Value) → List (Nat × Value)) (l : List Oper) (Q : Exit → Act → World → Prop) : Prop where
  run : ∀ F : (Nat → Value) → Act, (∀ x, Fr n (f x) (F x)) → RS P ops (Mod fun _ => False) (fun w => Loc W R L O E w ∧ B ≤ w.heap.size) Q k l F U
end
section
variable {P : Program} {n : Nat} {W : World} {R : Rg W} {L : List Blk} {O : List Own} {E : List Res} {U : List (Nat × ((Nat → Value) → World → Value → Prop))} {f : (Nat → Value) → List (Nat × Value)} {f0 : List (Nat × Value)} {Q : Exit → Act → World → Prop} {ops : Array Oper} {rest : List Oper} {k B : Nat}
theorem SX.drawnWT {id : Nat} {l : List Oper} (m : Nat) (hm : P.follows .mixedOrders = true) (hc : regOkTo m l.toArray = true) (ht : tailOk l.toArray m = true) (h : ∀ B, Far W L O E B → SXw P n W R l.toArray L O E B 0 [] (fun _ => f0) (l.take m) (fun _ a w => wpList P l.toArray Q (l.drop m) a w)) : SX P n W R L O E f0 (.region id l.toArray true) Q := ⟨fun a w hf hl =>
  wp_region_rs_tail m (fun w' => Loc W R L O E w' ∧ w.heap.size ≤ w'.heap.size) (Mod fun _ => False) hm hc ht ⟨hl.keep ((Mod.refl _ w).drew), Nat.le_refl _⟩ ((h w.heap.size hl.far).run _ fun _ => hf)⟩
theorem SXw.v {o : Oper} {v : Value} {d : Nat} (hr : ∀ x, OpW P n W R L O E (f x) o v) (hdst : o.dst = some d) (hw : ∀ x, wantO ops (f x) o = some true) (hd : Nat.blt d n = true) (h : SXw P n W R ops L O E B (k + 1) U (fun x => (d, v) :: f x) rest Q) : SXw P n W R ops L O E B k U f (o :: rest) Q := ⟨fun F hF =>
  RS.val [] (fun _ => v) rfl (fun _ _ _ => rfl) (fun x => wanted_of (hF x) (hw x)) (fun x w hS _ => wp_never ((hr x).run _ w (hF x) hS.1) fun _ _ ⟨h1, h2⟩ => ⟨h1, ⟨hS.1.keep h2, Nat.le_trans hS.2 h2.size⟩, h2⟩) (by rw [hdst]; exact h.run _ fun x => (hF x).put hd v)⟩
theorem SXw.no {o : Oper} {d : Nat} (hw : ∀ x, wantO ops (f x) o = some false) (hdst : o.dst = some d) (hd : Nat.blt d n = true) (h : SXw P n W R ops L O E B (k + 1) U (fun x => (d, undef) :: f x) rest Q) : SXw P n W R ops L O E B k U f (o :: rest) Q := ⟨fun F hF =>
  RS.skip (fun x => wanted_of (hF x) (hw x)) (by rw [hdst]; exact h.run _ fun x => (hF x).put hd undef)⟩
variable {d : Nat} {fn : FuncId} {ars : List Operand} {aT : Array TypeId} {ty : TypeId} {pos : String} {af : Array Edge} {gd : Option (Nat × Bool)}
/-- A call that hands back new memory. -/
theorem SXw.new {ξ : Type} {args : List Value} [TFun P fn] (v : ξ → Value) (F1 : ξ → Res) (hw : ∀ x, wantO ops (f x) ⟨some d, .call ⟨.value (.func fn), ars.toArray, aT⟩, ty, pos, af, gd⟩ = some true) (hd : Nat.blt d n = true) (ha : ∀ x, evL (f x) ars = some args)
    (hc : ∀ w, Loc W R L O E w → Calls P fn args.toArray w (NewR ξ v F1 w))
    (h : SXw P n W R ops L O E B (k + 1) ((k, fun _ => WV v F1 B) :: U) (fun x => (d, x k) :: f x) rest Q) : SXw P n W R ops L O E B k U f (⟨some d, .call ⟨.value (.func fn), ars.toArray, aT⟩, ty, pos, af, gd⟩ :: rest) Q := ⟨fun F hF =>
  RS.new [] (WV v F1 B) id (fun _ _ _ => rfl) rfl (fun _ _ _ h hm => h.keep hm) (fun x => wanted_of (hF x) (hw x)) (fun x w hS _ => by
    unfold Oper.wp
    rw [run_callop (hF x) (ha x) w _ _, Oper.upon_enter]
    refine (hc w hS.1).mono ?_
    rintro e w' ⟨p, rfl, h1, h2⟩
    exact ⟨v p, rfl, ⟨p, rfl, h1.1, fun k hk => ⟨Nat.le_trans hS.2 (h1.2 k hk).1, (h1.2 k hk).2⟩⟩, ⟨hS.1.keep h2, Nat.le_trans hS.2 h2.size⟩, h2⟩) (h.run _ fun x => (hF x).put hd _)⟩
theorem SXw.nil (h : ∀ x, SQ n W R L O E (f x) .normal Q) : SXw P n W R ops L O E B k U f [] Q := ⟨fun F hF => RS.done fun x w hS _ => (h x).run (F x) w (hF x) hS.1⟩
theorem SXw.tail {ξ : Type} {v : ξ → Value} {F1 : ξ → Res} (ka : Nat) (hf : Far W L O E B) (hA : (ka, fun _ => WV v F1 B) ∈ U) (h : ∀ x p, x ka = v p → SXl P n W R ops L O (F1 p :: E) (f x) rest Q) : SXw P n W R ops L O E B k U f [] (fun _ a w => wpList P ops Q rest a w) := ⟨fun F hF => RS.done fun x w hS hU => by
  obtain ⟨p, h1, h2, h3⟩ := hU _ hA
  exact (h x p h1).run (F x) w (hF x) (Loc.toldB hf hS.1 h2 h3)⟩
end
end Go.Proofs.Ythffgbhphjkdeaa
namespace Go.Proofs.Ythffgbhphjkdeaa
open Go.RowKit
set_option linter.unusedVariables false
set_option linter.unusedSimpArgs false

theorem icell_len (x : Int) : (icell x).length = 1 := rfl
theorem icell_one (x : Int) : ∀ u ∈ icell x, u.oneCell' = true := fun u hu => by simp [icell] at hu; subst hu; rfl
/-- A node and what is below its first j children. -/
def undTo (l : List Node) (n : Int) (kids : List Int) (j : Nat) : List Int := n :: ((kids.take j).map (allU l)).flatten
theorem undTo_succ {l : List Node} {n : Int} {kids : List Int} {j : Nat} {y : Int} (h : kids[j]? = some y) : undTo l n kids (j + 1) = undTo l n kids j ++ allU l y := by
  unfold undTo
  rw [List.take_add_one, h]
  simp
theorem undTo_len {l : List Node} (hv : treeOk l = true) {k : Nat} {x : Node} (hx : l[k]? = some x) {j : Nat} (hj : j ≤ x.kids.length) : (undTo l ((k + 1 : Nat) : Int) x.kids j).length ≤ 30000 := by
  have h1 := allU_len hv hx
  rw [allU_eq hv hx] at h1
  have h2 : (x.kids.map (allU l)).flatten = ((x.kids.take j).map (allU l)).flatten ++ ((x.kids.drop j).map (allU l)).flatten := by
    rw [← List.flatten_append, ← List.map_append, List.take_append_drop]
  rw [h2] at h1
  unfold undTo
  simp only [List.length_cons, List.length_append] at h1 ⊢
  omega
set_option maxRecDepth 100000 in
set_option maxHeartbeats 8000000 in
theorem allUnder_any (l : List Node) (o : Bool) (a : Option Addr) (c : Nat) (R : Nat → Prop) (hv : treeOk l = true) : ∀ (f k : Nat) (x : Node) (w : World), l[k]? = some x → dep l ((k + 1 : Nat) : Int) = 5 - (f : Int) → NodeSlice o R w a l →
    Calls Try.prog 94 #[.agg #[.slice a l.length c], .int .i64 ((k + 1 : Nat) : Int)] w (NewSlice 3 1 w (allU l ((k + 1 : Nat) : Int)).length ((allU l ((k + 1 : Nat) : Int)).map icell).flatten) := by
  intro f
  induction f with
  | zero =>
    intro k x w hx hd
    have := (ok_node hv hx).2.1
    omega
  | succ f ih =>
    intro k x w hx hd h
    have hlt := (List.getElem?_eq_some_iff.1 hx).1
    have hln := ok_len hv
    have hkl := ok_kids_len hv hx
    have hU := allU_eq hv hx
    have hUl := allU_len hv hx
    refine calls_sx Try.func94 rfl rfl (fun a h1 h2 h3 => ((Fr.nil h1 h2).arg (h3 1 _ rfl)).arg (h3 0 _ rfl)) ?_
    obtain ⟨b1, o1, x1, r1, rfl, hR1, hb1, hxk, hr1, hl1, hc1⟩ := h.get hlt
    obtain rfl : x1 = x := Option.some.inj (hxk.out.symm.trans hx)
    obtain ⟨up, kids, st, me, ru⟩ := x1
    obtain ⟨ka, kc, ra, rc, rfl, hk1, ht1, _⟩ := hr1
    simp only at hc1 hk1 hkl hU
    repeat (first | refine SX.seq ?_ | refine SXl.nil ?_ | refine SX.region ?_ | refine SQ.thenNormal ?_ | refine SX.block ?_ | (refine l_call ?_; (refine SXl.v (OpW.call rfl (fun w hl => node_any _ _ _ _ k _ _ _ _ _ _ _ _ _ w (by omega) hlt (fun j v hv => hl.old (hc1 j v hv) (fun h => h)))) rfl ?_ ?_ ?_); rfl; rfl) | (refine l_field ?_; (refine SXl.v (OpW.field rfl (nodeRow_a1 _ _ _ _ _ _ _ _ _)) rfl ?_ ?_ ?_); rfl; rfl) | (refine l_load ?_; (refine SXl.v (OpW.loadAll 1 rfl rfl rfl) rfl ?_ ?_ ?_); rfl; rfl) | (refine l_move ?_; (refine SXl.v (OpW.move rfl) rfl ?_ ?_ ?_); rfl; rfl) | (refine l_assign ?_; (refine SXl.v (OpW.assign rfl) rfl ?_ ?_ ?_); rfl; rfl) | (refine l_len ?_; (refine SXl.v (OpW.len rfl) rfl ?_ ?_ ?_); rfl; rfl) | (refine l_box ?_; refine SXl.box ?_ ?_ rfl rfl (fun g => ?_); rfl; rfl) | (refine l_buildSlice ?_; first | (refine SXl.lit1 ?_ ?_ rfl rfl rfl (fun g => ?_); rfl; rfl) | (refine SXl.lit0 ?_ ?_ (fun _ h => h) rfl (fun g => ?_); rfl; rfl)))
    rename_i g2
    refine SX.loop3 (fun (j : Nat) (_ : Option Addr) (_ : Nat) => j ≤ kids.length) (fun j _ _ => kids.length - j) (fun _ _ _ => [⟨g2, [.slice (some ⟨b1, o1, none⟩) l.length c], 37⟩]) (fun j a' c' => [⟨.slice a' (undTo l ((k + 1 : Nat) : Int) kids j).length c', 3, 1, (undTo l ((k + 1 : Nat) : Int) kids j).length, ((undTo l ((k + 1 : Nat) : Int) kids j).map icell).flatten⟩]) (fun _ _ _ => []) (fun j a' c' => [(2, .pointer (some ⟨g2, 0, none⟩)), (5, .slice a' (undTo l ((k + 1 : Nat) : Int) kids j).length c'), (13, .slice ka kids.length kc), (14, .int .i64 kids.length), (15, .int .i64 j)]) 0 (some ⟨g, 0, none⟩) 1 (Nat.zero_le _) ?_ (fun _ hl => hl.toOwn (m := 1) (sz := 1) (fun h => h) rfl (by decide)) ?_
    · (repeat (first | exact subF_nil _ | (refine subF_cons rfl ?_) | (refine subF_consv rfl (by rfl) ?_)))
    intro j a' c' hj
    have hUj := undTo_len hv hx (by simpa using hj)
    simp only at hUj
    by_cases hjl : j < kids.length
    · obtain ⟨b3, o3, y, e3, hR3, hb3, hyk, hc3⟩ := IntSlice.get hk1 hjl
      subst e3
      replace hyk := hyk.out
      obtain ⟨ky, z, rfl, hz, hzu, hzd⟩ := ok_kid hv hx (List.mem_of_getElem? hyk)
      have hS := undTo_succ (l := l) (n := ((k + 1 : Nat) : Int)) hyk
      have hzl := allU_len hv hz
      repeat (first | refine SX.seq ?_ | refine SXl.nil ?_ | refine SX.region ?_ | refine SQ.thenNormal ?_ | refine SX.block ?_ | refine SX.skip ?_ | refine SX.condT rfl ?_ | (refine l_load ?_; (first | refine SXl.v (OpW.loadOld rfl (by assumption) (fun h => h)) rfl ?_ ?_ ?_ | refine SXl.v (OpW.loadAll 0 rfl rfl rfl) rfl ?_ ?_ ?_); rfl; rfl) | (refine l_move ?_; (refine SXl.v (OpW.move rfl) rfl ?_ ?_ ?_); rfl; rfl) | (refine l_assign ?_; (refine SXl.v (OpW.assign rfl) rfl ?_ ?_ ?_); rfl; rfl) | (refine l_lss ?_; (refine SXl.v (OpW.lssT rfl rfl (by omega)) rfl ?_ ?_ ?_); rfl; rfl) | (refine l_indexAddr ?_; (refine SXl.v (OpW.indexAddr1 (by omega) rfl rfl) rfl ?_ ?_ ?_); rfl; rfl))
      refine l_call ?_
      refine SXl.calln1 (v := fun q => .slice q.a (allU l ((ky + 1 : Nat) : Int)).length q.c) (F1 := ownRes icell 3 1 (allU l ((ky + 1 : Nat) : Int))) rfl rfl rfl (fun w hl => (ih ky z w hz (by rw [hzd, hd]; omega) (h.keep hl.mod)).mono fun _ _ h => new_own h) (fun q => ?_)
      refine l_append ?_
      refine SXl.appendS (cs := icell) 0 (allU l ((ky + 1 : Nat) : Int)) rfl rfl rfl rfl rfl rfl icell_len icell_one (fun w hl => ⟨_, own_in hl (.head _) (fun _ => rfl) (by decide)⟩) (by omega) (by omega) (fun a2 c2 => ?_)
      simp only [List.set_cons_zero, List.set_cons_succ]
      repeat (first | refine SXl.nil ?_ | refine SX.region ?_ | refine SQ.thenNormal ?_ | (refine l_move ?_; (refine SXl.v (OpW.move rfl) rfl ?_ ?_ ?_); rfl; rfl) | (refine l_assign ?_; (refine SXl.v (OpW.assign rfl) rfl ?_ ?_ ?_); rfl; rfl) | (refine l_add ?_; (refine SXl.v (OpW.succ rfl rfl (by omega)) rfl ?_ ?_ ?_); rfl; rfl) | refine SQ.blockNormal ?_)
      refine SQ.round3 (j + 1) a2 c2 (by omega) (by omega) ?_ (fun w hl => by rw [hS, List.length_append, List.map_append, List.flatten_append]; exact hl.dropE)
      (repeat (first | exact subF_nil _ | (refine subF_cons rfl ?_) | (refine subF_consv rfl (by rw [hS, List.length_append]) ?_)))
    · have hj' : j = kids.length := by omega
      subst hj'
      have hall : undTo l ((k + 1 : Nat) : Int) kids kids.length = allU l ((k + 1 : Nat) : Int) := by rw [hU]; unfold undTo; rw [List.take_length]
      rw [hall] at *
      repeat (first | refine SX.seq ?_ | refine SXl.nil ?_ | refine SX.region ?_ | refine SQ.thenNormal ?_ | refine SX.condF rfl ?_ | (refine l_move ?_; (refine SXl.v (OpW.move rfl) rfl ?_ ?_ ?_); rfl; rfl) | (refine l_assign ?_; (refine SXl.v (OpW.assign rfl) rfl ?_ ?_ ?_); rfl; rfl) | (refine l_lss ?_; (refine SXl.v (OpW.lssF rfl rfl (by omega)) rfl ?_ ?_ ?_); rfl; rfl) | refine SX.ret ?_ | refine SX.exit ?_ | refine SQ.thenExit ?_ | refine SQ.blockExit ?_)
      refine SQ.body1 rfl rfl (fun w' hl => ⟨_, _, rfl, (hl.own _ List.mem_cons_self).1, hl.mod⟩)
set_option maxRecDepth 100000 in
set_option maxHeartbeats 8000000 in
theorem sallUnder_any (l : List Node) (o : Bool) (a : Option Addr) (c : Nat) (R : Nat → Prop) (hv : treeOk l = true) (hfit : ∀ x ∈ l, x.fits 1048576) : ∀ (f k : Nat) (x : Node) (w : World), l[k]? = some x → dep l ((k + 1 : Nat) : Int) = 5 - (f : Int) → NodeSlice o R w a l →
    Calls Try.prog 42 #[.agg #[.slice a l.length c], .int .i64 ((k + 1 : Nat) : Int)] w (NewSlice 3 1 w (allU l ((k + 1 : Nat) : Int)).length ((allU l ((k + 1 : Nat) : Int)).map icell).flatten) := by
  intro f
  induction f with
  | zero =>
    intro k x w hx hd
    have := (ok_node hv hx).2.1
    omega
  | succ f ih =>
    intro k x w hx hd h
    have hlt := (List.getElem?_eq_some_iff.1 hx).1
    have hln := ok_len hv
    have hkl := ok_kids_len hv hx
    have hU := allU_eq hv hx
    have hUl := allU_len hv hx
    have hin : inB ((k + 1 : Nat) : Int) 1 l.length = true := inB_true (by omega) (by omega)
    refine calls_sx Try.func42 rfl rfl (fun a h1 h2 h3 => ((Fr.nil h1 h2).arg (h3 1 _ rfl)).arg (h3 0 _ rfl)) ?_
    obtain ⟨b1, o1, x1, r1, rfl, hR1, hb1, hxk, hr1, hl1, hc1⟩ := h.get hlt
    obtain rfl : x1 = x := Option.some.inj (hxk.out.symm.trans hx)
    have hT := fun w (hm : Mod (fun _ => False) _ w) => streeOk_any l o (some ⟨b1, o1, none⟩) c R w (by omega) hfit (h.keep hm)
    rw [hv] at hT
    obtain ⟨up, kids, st, me, ru⟩ := x1
    obtain ⟨ka, kc, ra, rc, rfl, hk1, ht1, _⟩ := hr1
    simp only at hc1 hk1 hkl hU
    repeat (first | refine SX.seq ?_ | refine SXl.nil ?_ | refine SX.region ?_ | refine SQ.thenNormal ?_ | refine SX.block ?_ | refine SX.skip ?_ | refine SX.condF rfl ?_ | (refine l_call ?_; (first | refine SXl.v (OpW.call rfl (fun w hl => hT _ hl.mod)) rfl ?_ ?_ ?_ | refine SXl.v (OpW.call rfl (fun w hl => sisNode_any _ _ _ _ _)) rfl ?_ ?_ ?_ | refine SXl.v (OpW.call rfl (fun w hl => snode_any _ _ _ _ k _ _ _ _ _ _ _ _ _ w (by omega) hlt (fun j v hv => hl.old (hc1 j v hv) (fun h => h)))) rfl ?_ ?_ ?_); rfl; rfl) | (refine l_field ?_; (refine SXl.v (OpW.field rfl (nodeRow_a1 _ _ _ _ _ _ _ _ _)) rfl ?_ ?_ ?_); rfl; rfl) | (refine l_load ?_; (first | refine SXl.v (OpW.loadAll 0 rfl rfl rfl) rfl ?_ ?_ ?_ | refine SXl.v (OpW.loadAll 1 rfl rfl rfl) rfl ?_ ?_ ?_); rfl; rfl) | (refine l_move ?_; (refine SXl.v (OpW.move rfl) rfl ?_ ?_ ?_); rfl; rfl) | (refine l_assign ?_; (refine SXl.v (OpW.assign rfl) rfl ?_ ?_ ?_); rfl; rfl) | (refine l_not ?_; (refine SXl.v (OpW.not rfl) rfl ?_ ?_ ?_); rfl; rfl) | (refine l_pick ?_; (refine SXl.v (OpW.pick rfl rfl rfl) rfl ?_ ?_ ?_); rfl; rfl) | (refine l_box ?_; refine SXl.box ?_ ?_ rfl rfl (fun g => ?_); rfl; rfl) | (refine l_buildSlice ?_; first | (refine SXl.lit1 ?_ ?_ rfl rfl rfl (fun g => ?_); rfl; rfl) | (refine SXl.lit0 ?_ ?_ (fun _ h => h) rfl (fun g => ?_); rfl; rfl)) | (refine l_append ?_; first | (refine SXl.append 0 0 rfl rfl rfl rfl rfl rfl rfl rfl (by omega) (by omega) (fun a c => ?_); simp only [List.set_cons_zero, List.set_cons_succ]) | (refine SXl.append 1 0 rfl rfl rfl rfl rfl rfl rfl rfl (by omega) (by omega) (fun a c => ?_); simp only [List.set_cons_zero, List.set_cons_succ])) | (rw [hin]))
    rename_i ct _ g2 _
    refine SX.loop3 (fun (j : Nat) (_ : Option Addr) (_ : Nat) => j ≤ kids.length) (fun j _ _ => kids.length - j) (fun _ _ _ => [⟨g2, [.slice (some ⟨b1, o1, none⟩) l.length ct], 37⟩]) (fun j a' c' => [⟨.slice a' (undTo l ((k + 1 : Nat) : Int) kids j).length c', 3, 1, (undTo l ((k + 1 : Nat) : Int) kids j).length, ((undTo l ((k + 1 : Nat) : Int) kids j).map icell).flatten⟩]) (fun _ _ _ => []) (fun j a' c' => [(2, .pointer (some ⟨g2, 0, none⟩)), (5, .slice a' (undTo l ((k + 1 : Nat) : Int) kids j).length c'), (6, .slice ka kids.length kc), (7, .int .i64 j)]) 0 _ _ (Nat.zero_le _) ?_ (fun _ hl => hl.drop1) ?_
    · (repeat (first | exact subF_nil _ | (refine subF_cons rfl ?_) | (refine subF_consv rfl (by rfl) ?_)))
    intro j a' c' hj
    have hUj := undTo_len hv hx (by simpa using hj)
    simp only at hUj
    by_cases hjl : j < kids.length
    · obtain ⟨b3, o3, y, e3, hR3, hb3, hyk, hc3⟩ := IntSlice.get hk1 hjl
      subst e3
      replace hyk := hyk.out
      obtain ⟨ky, z, rfl, hz, hzu, hzd⟩ := ok_kid hv hx (List.mem_of_getElem? hyk)
      have hS := undTo_succ (l := l) (n := ((k + 1 : Nat) : Int)) hyk
      have hzl := allU_len hv hz
      repeat (first | refine SX.seq ?_ | refine SXl.nil ?_ | refine SX.region ?_ | refine SQ.thenNormal ?_ | refine SX.block ?_ | refine SX.skip ?_ | refine SX.condT rfl ?_ | (refine l_move ?_; (refine SXl.v (OpW.move rfl) rfl ?_ ?_ ?_); rfl; rfl) | (refine l_len ?_; (refine SXl.v (OpW.len rfl) rfl ?_ ?_ ?_); rfl; rfl) | (refine l_lss ?_; (refine SXl.v (OpW.lssT rfl rfl (by omega)) rfl ?_ ?_ ?_); rfl; rfl))
      refine SX.drawnWT 7 (by kernel_rfl) (by kernel_rfl) (by kernel_rfl) (fun B hf => ?_)
      repeat (first | (refine SXw.new (ξ := SlP) (fun q => .slice q.a (allU l ((ky + 1 : Nat) : Int)).length q.c) (ownRes icell 3 1 (allU l ((ky + 1 : Nat) : Int))) (fun _ => rfl) rfl (fun _ => rfl) (fun w hl => (ih ky z w hz (by rw [hzd, hd]; omega) (h.keep hl.mod)).mono fun _ _ h => new_own h) ?_) | (refine SXw.v (fun _ => (OpW.loadOld rfl (by assumption) (fun h => h))) rfl (fun _ => rfl) rfl ?_) | (refine SXw.v (fun _ => (OpW.loadAll 0 rfl rfl rfl)) rfl (fun _ => rfl) rfl ?_) | (refine SXw.v (fun _ => (OpW.move rfl)) rfl (fun _ => rfl) rfl ?_) | (refine SXw.v (fun _ => (OpW.indexAddr1 (by omega) rfl rfl)) rfl (fun _ => rfl) rfl ?_))
      refine SXw.tail 6 hf (.head _) (fun xq q hxq => ?_)
      simp only [hxq]
      refine l_append ?_
      refine SXl.appendS (cs := icell) 0 (allU l ((ky + 1 : Nat) : Int)) rfl rfl rfl rfl rfl rfl icell_len icell_one (fun w hl => ⟨_, own_in hl (.head _) (fun _ => rfl) (by decide)⟩) (by omega) (by omega) (fun a2 c2 => ?_)
      simp only [List.set_cons_zero, List.set_cons_succ]
      repeat (first | refine SXl.nil ?_ | refine SX.region ?_ | refine SQ.thenNormal ?_ | (refine l_move ?_; (refine SXl.v (OpW.move rfl) rfl ?_ ?_ ?_); rfl; rfl) | (refine l_assign ?_; (refine SXl.v (OpW.assign rfl) rfl ?_ ?_ ?_); rfl; rfl) | (refine l_add ?_; (refine SXl.v (OpW.succ rfl rfl (by omega)) rfl ?_ ?_ ?_); rfl; rfl) | refine SQ.blockNormal ?_)
      refine SQ.round3 (j + 1) a2 c2 (by omega) (by omega) ?_ (fun w hl => by rw [hS, List.length_append, List.map_append, List.flatten_append]; exact hl.dropE)
      (repeat (first | exact subF_nil _ | (refine subF_cons rfl ?_) | (refine subF_consv rfl (by rw [hS, List.length_append]) ?_)))
    · have hj' : j = kids.length := by omega
      subst hj'
      have hall : undTo l ((k + 1 : Nat) : Int) kids kids.length = allU l ((k + 1 : Nat) : Int) := by rw [hU]; unfold undTo; rw [List.take_length]
      rw [hall] at *
      repeat (first | refine SX.seq ?_ | refine SXl.nil ?_ | refine SX.region ?_ | refine SQ.thenNormal ?_ | refine SX.condF rfl ?_ | (refine l_move ?_; (refine SXl.v (OpW.move rfl) rfl ?_ ?_ ?_); rfl; rfl) | (refine l_assign ?_; (refine SXl.v (OpW.assign rfl) rfl ?_ ?_ ?_); rfl; rfl) | (refine l_len ?_; (refine SXl.v (OpW.len rfl) rfl ?_ ?_ ?_); rfl; rfl) | (refine l_lss ?_; (refine SXl.v (OpW.lssF rfl rfl (by omega)) rfl ?_ ?_ ?_); rfl; rfl) | refine SX.ret ?_ | refine SX.exit ?_ | refine SQ.thenExit ?_ | refine SQ.blockExit ?_)
      refine SQ.body1 rfl rfl (fun w' hl => ⟨_, _, rfl, (hl.own _ List.mem_cons_self).1, hl.mod⟩)
end Go.Proofs.Ythffgbhphjkdeaa
namespace Go.Proofs.Ythffgbhphjkdeaa
open Go.RowKit
set_option linter.unusedVariables false
set_option linter.unusedSimpArgs false

theorem own_from {w : World} {b base e sz n : Nat} {v : Value} {xs : List Value} (h : w.ownsRow b e sz v n xs) (hb : ∀ k, v.ownBlock = some k → base ≤ k) : w.ownsRow base e sz v n xs := by
  refine ⟨h.1, ?_⟩
  rcases h.2 with h2 | ⟨g, cap, cur, hv, _, hrest⟩
  · exact .inl h2
  · exact .inr ⟨g, cap, cur, hv, hb g (by rw [hv]; rfl), hrest⟩
def allW (l : List Node) (n : Int) : List Int := if treeOk l && inB n 1 l.length then allU l n else []
set_option maxRecDepth 100000 in
set_option maxHeartbeats 8000000 in
theorem allUnderW_any (l : List Node) (n : Int) (o : Bool) (a : Option Addr) (c : Nat) (R : Nat → Prop) (w : World) (hlen : l.length ≤ 1048576) (hfit : ∀ x ∈ l, x.fits 1048576) (h : NodeSlice o R w a l) :
    Calls Try.prog 40 #[.agg #[.slice a l.length c], .int .i64 n] w (NewSlice 3 1 w (allW l n).length ((allW l n).map icell).flatten) := by
  refine calls_sx Try.func40 rfl rfl (fun a h1 h2 h3 => ((Fr.nil h1 h2).arg (h3 1 _ rfl)).arg (h3 0 _ rfl)) ?_
  have hT := fun w' (hm : Mod (fun _ => False) w w') => treeOk_any l o a c R w' hlen hfit (h.keep hm)
  cases hv : treeOk l
  · have e : allW l n = [] := by simp [allW, hv]
    rw [e]
    rw [hv] at hT
    repeat (first | refine SX.seq ?_ | refine SXl.nil ?_ | refine SX.region ?_ | refine SQ.thenNormal ?_ | refine SX.condT rfl ?_ | (refine SXl.no rfl rfl rfl ?_) | (refine l_call ?_; (refine SXl.v (OpW.call rfl (fun w hl => hT _ hl.mod)) rfl ?_ ?_ ?_); rfl; rfl) | (refine l_load ?_; (refine SXl.v (OpW.loadAll 0 rfl rfl rfl) rfl ?_ ?_ ?_); rfl; rfl) | (refine l_move ?_; (refine SXl.v (OpW.move rfl) rfl ?_ ?_ ?_); rfl; rfl) | (refine l_assign ?_; (refine SXl.v (OpW.assign rfl) rfl ?_ ?_ ?_); rfl; rfl) | (refine l_not ?_; (refine SXl.v (OpW.not rfl) rfl ?_ ?_ ?_); rfl; rfl) | (refine l_pick ?_; (refine SXl.v (OpW.pick rfl rfl rfl) rfl ?_ ?_ ?_); rfl; rfl) | (refine l_box ?_; refine SXl.box ?_ ?_ rfl rfl (fun g => ?_); rfl; rfl) | refine SX.ret ?_ | refine SQ.thenRet ?_)
    refine SQ.body1 rfl rfl (fun w' hl => ⟨none, 0, rfl, World.ownsRow_nil _ _ _ _, hl.mod⟩)
  rw [hv] at hT
  cases hn : inB n 1 l.length
  · have e : allW l n = [] := by simp [allW, hn]
    rw [e]
    repeat (first | refine SX.seq ?_ | refine SXl.nil ?_ | refine SX.region ?_ | refine SQ.thenNormal ?_ | refine SX.condT rfl ?_ | (refine l_call ?_; (first | refine SXl.v (OpW.call rfl (fun w hl => hT _ hl.mod)) rfl ?_ ?_ ?_ | refine SXl.v (OpW.call rfl (fun w hl => isNode_any _ _ _ _ _)) rfl ?_ ?_ ?_); rfl; rfl) | (refine l_load ?_; (refine SXl.v (OpW.loadAll 0 rfl rfl rfl) rfl ?_ ?_ ?_); rfl; rfl) | (refine l_move ?_; (refine SXl.v (OpW.move rfl) rfl ?_ ?_ ?_); rfl; rfl) | (refine l_assign ?_; (refine SXl.v (OpW.assign rfl) rfl ?_ ?_ ?_); rfl; rfl) | (refine l_not ?_; (refine SXl.v (OpW.not rfl) rfl ?_ ?_ ?_); rfl; rfl) | (refine l_pick ?_; (refine SXl.v (OpW.pick rfl rfl rfl) rfl ?_ ?_ ?_); rfl; rfl) | (refine l_box ?_; refine SXl.box ?_ ?_ rfl rfl (fun g => ?_); rfl; rfl) | (rw [hn]) | refine SX.ret ?_ | refine SQ.thenRet ?_)
    refine SQ.body1 rfl rfl (fun w' hl => ⟨none, 0, rfl, World.ownsRow_nil _ _ _ _, hl.mod⟩)
  have e : allW l n = allU l n := by simp [allW, hv, hn]
  rw [e]
  obtain ⟨k, rfl, hk⟩ := inB_node hn
  have hx := List.getElem?_eq_getElem hk
  generalize l[k] = x at hx
  have hd := (ok_node hv hx).2.1
  repeat (first | refine SX.seq ?_ | refine SXl.nil ?_ | refine SX.region ?_ | refine SQ.thenNormal ?_ | refine SX.skip ?_ | refine SX.condF rfl ?_ | (refine l_call ?_; (first | refine SXl.v (OpW.call rfl (fun w hl => hT _ hl.mod)) rfl ?_ ?_ ?_ | refine SXl.v (OpW.call rfl (fun w hl => isNode_any _ _ _ _ _)) rfl ?_ ?_ ?_); rfl; rfl) | (refine l_load ?_; (refine SXl.v (OpW.loadAll 0 rfl rfl rfl) rfl ?_ ?_ ?_); rfl; rfl) | (refine l_move ?_; (refine SXl.v (OpW.move rfl) rfl ?_ ?_ ?_); rfl; rfl) | (refine l_assign ?_; (refine SXl.v (OpW.assign rfl) rfl ?_ ?_ ?_); rfl; rfl) | (refine l_not ?_; (refine SXl.v (OpW.not rfl) rfl ?_ ?_ ?_); rfl; rfl) | (refine l_pick ?_; (refine SXl.v (OpW.pick rfl rfl rfl) rfl ?_ ?_ ?_); rfl; rfl) | (refine l_box ?_; refine SXl.box ?_ ?_ rfl rfl (fun g => ?_); rfl; rfl) | (rw [hn]))
  refine l_call ?_
  refine SXl.calln1 (v := fun q => .slice q.a (allU l ((k + 1 : Nat) : Int)).length q.c) (F1 := ownRes icell 3 1 (allU l ((k + 1 : Nat) : Int))) rfl rfl rfl (fun w hl => (allUnder_any l o a c R hv (5 - dep l ((k + 1 : Nat) : Int)).toNat k x w hx (by omega) (h.keep hl.mod)).mono fun _ _ h => new_own h) (fun q => ?_)
  repeat (first | refine SXl.nil ?_ | refine SQ.thenNormal ?_ | (refine l_assign ?_; (refine SXl.v (OpW.assign rfl) rfl ?_ ?_ ?_); rfl; rfl) | refine SX.ret ?_)
  refine SQ.body1 rfl rfl (fun w' hl => ⟨_, _, rfl, ?_, hl.mod⟩)
  have := hl.res _ (.head _)
  have h2 := hl.resNew _ (.head _)
  exact own_from this.1 h2
set_option maxRecDepth 100000 in
set_option maxHeartbeats 8000000 in
theorem sallUnderW_any (l : List Node) (n : Int) (o : Bool) (a : Option Addr) (c : Nat) (R : Nat → Prop) (w : World) (hlen : l.length ≤ 1048576) (hfit : ∀ x ∈ l, x.fits 1048576) (h : NodeSlice o R w a l) :
    Calls Try.prog 42 #[.agg #[.slice a l.length c], .int .i64 n] w (NewSlice 3 1 w (allW l n).length ((allW l n).map icell).flatten) := by
  have hT := fun w' (hm : Mod (fun _ => False) w w') => streeOk_any l o a c R w' hlen hfit (h.keep hm)
  cases hv : treeOk l
  · refine calls_sx Try.func42 rfl rfl (fun a h1 h2 h3 => ((Fr.nil h1 h2).arg (h3 1 _ rfl)).arg (h3 0 _ rfl)) ?_
    have e : allW l n = [] := by simp [allW, hv]
    rw [e]
    rw [hv] at hT
    repeat (first | refine SX.seq ?_ | refine SXl.nil ?_ | refine SX.region ?_ | refine SQ.thenNormal ?_ | refine SX.condT rfl ?_ | (refine SXl.no rfl rfl rfl ?_) | (refine l_call ?_; (refine SXl.v (OpW.call rfl (fun w hl => hT _ hl.mod)) rfl ?_ ?_ ?_); rfl; rfl) | (refine l_load ?_; (refine SXl.v (OpW.loadAll 0 rfl rfl rfl) rfl ?_ ?_ ?_); rfl; rfl) | (refine l_move ?_; (refine SXl.v (OpW.move rfl) rfl ?_ ?_ ?_); rfl; rfl) | (refine l_assign ?_; (refine SXl.v (OpW.assign rfl) rfl ?_ ?_ ?_); rfl; rfl) | (refine l_not ?_; (refine SXl.v (OpW.not rfl) rfl ?_ ?_ ?_); rfl; rfl) | (refine l_pick ?_; (refine SXl.v (OpW.pick rfl rfl rfl) rfl ?_ ?_ ?_); rfl; rfl) | (refine l_box ?_; refine SXl.box ?_ ?_ rfl rfl (fun g => ?_); rfl; rfl) | (refine l_buildSlice ?_; first | (refine SXl.lit1 ?_ ?_ rfl rfl rfl (fun g => ?_); rfl; rfl) | (refine SXl.lit0 ?_ ?_ (fun _ h => h) rfl (fun g => ?_); rfl; rfl)) | refine SX.ret ?_ | refine SQ.thenRet ?_)
    refine SQ.body1 rfl rfl (fun w' hl => ⟨_, _, rfl, (hl.own _ List.mem_cons_self).1, hl.mod⟩)
  rw [hv] at hT
  cases hn : inB n 1 l.length
  · refine calls_sx Try.func42 rfl rfl (fun a h1 h2 h3 => ((Fr.nil h1 h2).arg (h3 1 _ rfl)).arg (h3 0 _ rfl)) ?_
    have e : allW l n = [] := by simp [allW, hn]
    rw [e]
    repeat (first | refine SX.seq ?_ | refine SXl.nil ?_ | refine SX.region ?_ | refine SQ.thenNormal ?_ | refine SX.condT rfl ?_ | (refine l_call ?_; (first | refine SXl.v (OpW.call rfl (fun w hl => hT _ hl.mod)) rfl ?_ ?_ ?_ | refine SXl.v (OpW.call rfl (fun w hl => sisNode_any _ _ _ _ _)) rfl ?_ ?_ ?_); rfl; rfl) | (refine l_load ?_; (refine SXl.v (OpW.loadAll 0 rfl rfl rfl) rfl ?_ ?_ ?_); rfl; rfl) | (refine l_move ?_; (refine SXl.v (OpW.move rfl) rfl ?_ ?_ ?_); rfl; rfl) | (refine l_assign ?_; (refine SXl.v (OpW.assign rfl) rfl ?_ ?_ ?_); rfl; rfl) | (refine l_not ?_; (refine SXl.v (OpW.not rfl) rfl ?_ ?_ ?_); rfl; rfl) | (refine l_pick ?_; (refine SXl.v (OpW.pick rfl rfl rfl) rfl ?_ ?_ ?_); rfl; rfl) | (refine l_box ?_; refine SXl.box ?_ ?_ rfl rfl (fun g => ?_); rfl; rfl) | (refine l_buildSlice ?_; first | (refine SXl.lit1 ?_ ?_ rfl rfl rfl (fun g => ?_); rfl; rfl) | (refine SXl.lit0 ?_ ?_ (fun _ h => h) rfl (fun g => ?_); rfl; rfl)) | (rw [hn]) | refine SX.ret ?_ | refine SQ.thenRet ?_)
    refine SQ.body1 rfl rfl (fun w' hl => ⟨_, _, rfl, (hl.own _ List.mem_cons_self).1, hl.mod⟩)
  have e : allW l n = allU l n := by simp [allW, hv, hn]
  rw [e]
  obtain ⟨k, rfl, hk⟩ := inB_node hn
  have hx := List.getElem?_eq_getElem hk
  generalize l[k] = x at hx
  have hd := (ok_node hv hx).2.1
  exact sallUnder_any l o a c R hv hfit (5 - dep l ((k + 1 : Nat) : Int)).toNat k x w hx (by omega) h
end Go.Proofs.Ythffgbhphjkdeaa
namespace Go.Proofs.Ythffgbhphjkdeaa
open Go.RowKit

set_option maxRecDepth 100000 in
theorem l01Byte_any (B g : Nat) (w : World) (hc : Cur B 141 w g) :
    Calls Try.prog 139 #[.pointer (some ⟨g, 0, none⟩)] w (Drew B 141 g w fun x => 0 ≤ x ∧ x ≤ 255) := by
  obtain ⟨a, len, cap, i, h, hb, hg, hi, hl, hy⟩ := hc
  have hgs : g < w.heap.size := (Array.getElem?_eq_some_iff.1 hg).1
  have c0 : w.cell? ⟨g, 0, none⟩ = some (.slice a len cap) := by simp [World.cell?, hg]
  have c1 : w.cell? ⟨g, 1, none⟩ = some (.int .i64 i) := by simp [World.cell?, hg]
  have c2 : w.cell? ⟨g, 2, none⟩ = some (.int .i64 h) := by simp [World.cell?, hg]
  have z1 : w.frozen? ⟨g, 1, none⟩ = false := by simp [World.frozen?, hg]
  have z2 : w.frozen? ⟨g, 2, none⟩ = false := by simp [World.frozen?, hg]
  have hg' := Lib.hid hg
  have hy' := Lib.hid hy
  clear hg
  by_cases hlt : i < len
  · rcases hy with h0 | ⟨b, off, rfl, hbB, hcell⟩
    · omega
    obtain ⟨n, hn0, hn1, hn⟩ := hcell i hlt
    have hbg : b ≠ g := by omega
    have hgb : g ≠ b := by omega
    clear hcell
    go_enter Try.func139, Try.ntmps139
    go_wp2
    go_quiet (fail)
    go_wp2
    go_quiet (fail)
    go_wp2
    go_quiet (fail)
    go_wp2
    go_ret
    refine drew_mk (B := B) (T := 141) (g := g) (w := w) (and255 _) ⟨_, len, cap, i + 1, wrap64 (wrap64 (h * 6364136223846793005) + 1442695040888963407), hb, by simp [World.setCell, World.drewN, Array.getElem?_modify, hg'.out], by omega, hl, hy'.out⟩ ?_
    repeat (first | exact Mod.refl _ _ | refine Mod.drewN ?_ _ | refine Mod.setAt ?_ _ _ _)
  · go_enter Try.func139, Try.ntmps139
    go_wp2
    go_quiet (fail)
    go_wp2
    go_quiet (fail)
    go_wp2
    go_ret
    refine drew_mk (B := B) (T := 141) (g := g) (w := w) (and255 _) ⟨_, len, cap, i, wrap64 (wrap64 (h * 6364136223846793005) + 1442695040888963407), hb, by simp [World.setCell, World.drewN, Array.getElem?_modify, hg'.out], by omega, hl, hy'.out⟩ ?_
    repeat (first | exact Mod.refl _ _ | refine Mod.drewN ?_ _ | refine Mod.setAt ?_ _ _ _)

set_option maxRecDepth 100000 in
theorem l01Below_any (B g : Nat) (w : World) (hc : Cur B 141 w g) (n : Int) (hn : n ≤ 1000000000) :
    Calls Try.prog 111 #[.pointer (some ⟨g, 0, none⟩), .int .i64 n] w (Drew B 141 g w fun x => 0 ≤ x ∧ (x < n ∨ n ≤ 0 ∧ x = 0)) := by
  by_cases h0 : n ≤ 0
  · go_enter Try.func111, Try.ntmps111
    go_wp2
    go_ret
    exact ⟨0, ⟨by omega, .inr ⟨h0, rfl⟩⟩, rfl, hc, Mod.refl _ _⟩
  · have hp : 0 < n := by omega
    by_cases h1 : n ≤ 256
    · go_enter Try.func111, Try.ntmps111
      go_wp2_with fail
      refine (l01Byte_any B g w hc).mono ?_
      rintro e w1 ⟨x, hx, rfl, hc1, hm1⟩
      have hx0 := hx.1
      have hx1 := hx.2
      clear hx
      go_wp2
      go_ret
      refine ⟨_, ?_, rfl, hc1, hm1⟩
      have := Int.emod_nonneg x (show n ≠ 0 by omega)
      have := Int.emod_lt_of_pos x hp
      omega
    · have h2 : 256 < n := by omega
      go_enter Try.func111, Try.ntmps111
      go_wp2_with fail
      refine (l01Byte_any B g w hc).mono ?_
      rintro e w1 ⟨x1, ⟨hx1, hy1⟩, rfl, hc1, hm1⟩
      go_wp2_with fail
      refine (l01Byte_any B g w1 hc1).mono ?_
      rintro e w2 ⟨x2, ⟨hx2, hy2⟩, rfl, hc2, hm2⟩
      go_wp2_with fail
      refine (l01Byte_any B g w2 hc2).mono ?_
      rintro e w3 ⟨x3, ⟨hx3, hy3⟩, rfl, hc3, hm3⟩
      go_wp2_with fail
      refine (l01Byte_any B g w3 hc3).mono ?_
      rintro e w4 ⟨x4, ⟨hx4, hy4⟩, rfl, hc4, hm4⟩
      go_wp2
      go_ret
      refine ⟨_, ?_, rfl, hc4, ((hm1.trans hm2).trans hm3).trans hm4⟩
      have := Int.emod_nonneg (x1 * 16777216 + x2 * 65536 + x3 * 256 + x4) (show n ≠ 0 by omega)
      have := Int.emod_lt_of_pos (x1 * 16777216 + x2 * 65536 + x3 * 256 + x4) hp
      omega

theorem l01Once_any (B g : Nat) (w : World) (hc : Cur B 141 w g) (n : Int) (hn : n ≤ 1000000000) :
    Calls Try.prog 69 #[.pointer (some ⟨g, 0, none⟩), .int .i64 n] w fun e w' => ∃ b, e = .returned (.bool b) ∧ Cur B 141 w' g ∧ Mod (fun k => k = g) w w' := by
  go_enter Try.func69, Try.ntmps69
  go_wp2_with fail
  refine (l01Below_any B g w hc n hn).mono ?_
  rintro e w1 ⟨x, hx, rfl, hc1, hm1⟩
  clear hx
  go_wp2
  go_ret
  exact ⟨_, rfl, hc1, hm1⟩

set_option maxRecDepth 100000 in
theorem l01New_any (B : Nat) (w : World) (a : Option Addr) (len cap : Nat) (hB : B ≤ w.heap.size) (hl : len ≤ 1048576) (hy : Bytes B w a len) :
    Calls Try.prog 66 #[.slice a len cap] w (NewCur B 141 w) := by
  have Hy := Lib.hid hy
  clear hy
  go_enter Try.func66, Try.ntmps66
  go_wp2
  go_loop [3, 4] (fun h i => ∃ (k : Nat) (n : Int), k ≤ len ∧ h = .int .i64 n ∧ i = .int .i64 k) (fun _ i => len - (intOf i).toNat)
  case atStart => exact ⟨0, _, by omega, rfl, rfl⟩
  case round =>
    obtain ⟨k, n, hk, rfl, rfl⟩ := hrel
    by_cases hlt : k < len ∧ k < 4000
    · obtain ⟨h1, h2⟩ := hlt
      rcases Hy.out with h0 | ⟨b, off, rfl, hbB, hcell⟩
      · omega
      obtain ⟨m, hm0, hm1, hm⟩ := hcell k h1
      clear hcell
      go_wp2
      go_round
      case rel => exact ⟨k + 1, _, by omega, rfl, by go_num⟩
      case measure => simp [intOf]; omega
    · have hn : ¬ (k < len) ∨ (k < len ∧ ¬ k < 4000) := by omega
      clear hlt
      rcases hn with hn | ⟨hp, hn⟩
      all_goals
        go_wp2
        go_ret
        refine ⟨w.heap.size, Nat.le_refl _, rfl, ⟨a, len, cap, 0, n, hB, heap_alloc_new w _, by omega, hl, Hy.out.same fun k hk => ?_⟩, (Mod.refl _ w).alloc _⟩
        exact Below.heap_alloc _ _ _ (by omega)

/-- One of a list's numbers. -/
theorem l01PickInt_any (B g : Nat) (w : World) (hc : Cur B 141 w g) (b cap : Nat) (l : List Int) (hl : Ints w b 0 l) (hp : 0 < l.length) (hm : l.length ≤ 1000) (hbg : b ≠ g) :
    Calls Try.prog 71 #[.pointer (some ⟨g, 0, none⟩), .slice (some ⟨b, 0, none⟩) l.length cap] w (Drew B 141 g w fun x => x ∈ l) := by
  have Hl := Lib.hid hl
  clear hl
  go_enter Try.func71, Try.ntmps71
  go_wp2_with fail
  refine (l01Below_any B g w hc l.length (by omega)).mono ?_
  rintro e w1 ⟨x, ⟨hx0, hx1⟩, rfl, hc1, hm1⟩
  obtain ⟨k, rfl⟩ := Int.eq_ofNat_of_zero_le hx0
  have hk : k < l.length := by omega
  have hcell := (Hl.out.mod hm1 (show ¬ b = g from hbg)) k hk
  rw [Nat.zero_add] at hcell
  clear hx1
  go_wp2
  go_ret
  exact ⟨_, by simp, rfl, hc1, hm1⟩

end Go.Proofs.Ythffgbhphjkdeaa
namespace Go.Proofs.Ythffgbhphjkdeaa
open Go.RowKit
set_option linter.unusedVariables false
set_option linter.unusedSimpArgs false

section
variable {P : Program} {n : Nat} {W : World} {R : Rg W} {L : List Blk} {O : List Own} {E : List Res} {f : List (Nat × Value)} {Q : Exit → Go.Act → World → Prop} {ops : Array Oper} {rest : List Oper}
theorem wp_mono_then {c y : Code} {K : Go.Act → World → Prop} {a : Go.Act} {w : World} (h : c.wp P (Exit.then K Q) a w) (hK : ∀ a w, K a w → y.wp P Q a w) : c.wp P (Exit.then (y.wp P Q) Q) a w :=
  wp_mono h (fun e a w q => by
    cases e with
    | normal => exact hK a w q
    | exit id => exact q
    | goto l => exact q
    | ret => exact q
    | panic ch => exact q
    | outgrown => exact q)
/-- A part of the text whose ways are told by one kind of state, and what follows. -/
theorem SX.join {ι : Type} {c y : Code} (inv : ι → Prop) (Lf : ι → List Blk) (Of : ι → List Own) (Ef : ι → List Res) (ff : ι → List (Nat × Value))
    (h1 : SX P n W R L O E f c (Exit.then (fun a w => ∃ i, inv i ∧ Fr n (ff i) a ∧ Loc W R (Lf i) (Of i) (Ef i) w) Q))
    (h2 : ∀ i, inv i → SX P n W R (Lf i) (Of i) (Ef i) (ff i) y Q) : SX P n W R L O E f c (Exit.then (y.wp P Q) Q) := ⟨fun a w hf hl =>
  wp_mono_then (h1.run a w hf hl) fun a w ⟨i, hi, hf, hl⟩ => (h2 i hi).run a w hf hl⟩
theorem SQ.join {ι : Type} {inv : ι → Prop} {Lf : ι → List Blk} {Of : ι → List Own} {Ef : ι → List Res} {ff : ι → List (Nat × Value)} (i : ι) (h : inv i) (hs : subF f (ff i)) (hl : ∀ w, Loc W R L O E w → Loc W R (Lf i) (Of i) (Ef i) w) :
    SQ n W R L O E f .normal (Exit.then (fun a w => ∃ i, inv i ∧ Fr n (ff i) a ∧ Loc W R (Lf i) (Of i) (Ef i) w) Q) := ⟨fun _ w hf hl' => ⟨i, h, hf.sub hs, hl w hl'⟩⟩
/-- A cursor may turn. -/
def curRg (T : TypeId) (B g : Nat) (W : World) (hg : g < W.heap.size) (hB : B ≤ g) : Rg W where
  p := fun k => k = g
  q := fun _ => False
  J := fun w => Cur B T w g
  low := fun k hk => by subst hk; exact hg
  sub := fun _ h => h.elim
  keep := fun S w w' h hm hs => h.mod hm (fun hS => hs g hg hS) (fun k hk hS => hs k (by omega) hS)
/-- What a drawing call gives. -/
def DrewV {ξ : Type} (T : TypeId) (B g : Nat) (w : World) (v : ξ → Value) (K : ξ → Prop) (e : Ending) (w' : World) : Prop := ∃ x, e = .returned (v x) ∧ K x ∧ Mod (fun k => k = g) w w' ∧ Cur B T w' g
theorem Drew.v {T : TypeId} {B g : Nat} {w : World} {p : Int → Prop} {e : Ending} {w' : World} (h : Drew B T g w p e w') : DrewV T B g w (fun x : Int => .int .i64 x) p e w' := by
  obtain ⟨x, hp, he, hc, hm⟩ := h
  exact ⟨x, he, hp, hm, hc⟩
variable {d : Option Nat} {dn g B T : Nat} {fn : FuncId} {ars : List Operand} {args : List Value} {aT : Array TypeId} {ty : TypeId} {pos : String} {af : Array Edge} {gd : Option (Nat × Bool)} {hg : g < W.heap.size} {hB : B ≤ g}
theorem SXl.draw {ξ : Type} {v : ξ → Value} [TFun P fn] (hw : wantO ops f ⟨some dn, .call ⟨.value (.func fn), ars.toArray, aT⟩, ty, pos, af, gd⟩ = some true) (hd : Nat.blt dn n = true) (ha : evL f ars = some args) (K : ξ → Prop)
    (hc : ∀ w, Loc W (curRg T B g W hg hB) L O [] w → Calls P fn args.toArray w (DrewV T B g w v K))
    (h : ∀ x, K x → SXl P n W (curRg T B g W hg hB) ops L O [] ((dn, v x) :: f) rest Q) : SXl P n W (curRg T B g W hg hB) ops L O [] f (⟨some dn, .call ⟨.value (.func fn), ars.toArray, aT⟩, ty, pos, af, gd⟩ :: rest) Q :=
  SXl.callJ (ξ := ξ) (v := v) (fun _ h => h) hw hd ha K hc h
theorem calls_draw {fid : FuncId} {fun_ : Func} {c : Code} {as_ : List Value} {w : World} {R' : Ending → World → Prop} (hc : Cur B T w g) (hf : P.funcs[fid]? = some fun_) (hb : fun_.body = some c) (hn : fun_.ntmps = n)
    (hfr : ∀ a : Go.Act, a.defers = [] → n ≤ a.tmps.size → (∀ (t : Nat) (v : Value), as_[t]? = some v → a.tmps[t]? = some v) → Fr n f a)
    (h : SX P n w (curRg T B g w hc.size hc.base) [] [] [] f c (bodyPost P fun_ R')) : Calls P fid as_.toArray w R' :=
  calls_sxJ (curRg T B g w hc.size hc.base) hc hf hb hn hfr h
/-- A cursor of the call's own, over old bytes. -/
def curRes (T : TypeId) (W : World) (g : Nat) : Res where
  foot := fun k => k = g
  says := fun w => W.heap.size ≤ g ∧ ∃ (a : Option Addr) (len cap i : Nat) (h : Int), w.heap[g]? = some (.cells #[.slice a len cap, .int .i64 (i : Int), .int .i64 h] T (0, 0)) ∧ i ≤ len ∧ len ≤ 1048576 ∧ Bytes W.heap.size W a len
  stable := fun S w w' ⟨h0, a, len, cap, i, h, h1, h2⟩ hm hs => ⟨h0, a, len, cap, i, h, hm.blk h1 (hs g rfl), h2⟩
theorem cur_of {w : World} (hm : Mod (fun _ => False) W w) (h : (curRes T W g).says w) : Cur W.heap.size T w g := by
  obtain ⟨h0, a, len, cap, i, hh, h1, h2, h3, h4⟩ := h
  exact ⟨a, len, cap, i, hh, h0, h1, h2, h3, h4.same fun k hk => hm.block k hk (fun f => f)⟩
theorem of_cur {w : World} (hk : ∀ k, k < W.heap.size → w.heap[k]? = W.heap[k]?) (h : Cur W.heap.size T w g) : (curRes T W g).says w := by
  obtain ⟨a, len, cap, i, hh, h0, h1, h2, h3, h4⟩ := h
  exact ⟨h0, a, len, cap, i, hh, h1, h2, h3, h4.same fun k hk2 => (hk k hk2).symm⟩
/-- A new cursor. -/
theorem SXl.newCur [TFun P fn] (hw : wantO ops f ⟨some dn, .call ⟨.value (.func fn), ars.toArray, aT⟩, ty, pos, af, gd⟩ = some true) (hd : Nat.blt dn n = true) (ha : evL f ars = some args)
    (hc : ∀ w, Loc W (Rg.none W) L O E w → Calls P fn args.toArray w (NewCur W.heap.size T w))
    (h : ∀ g, SXl P n W (Rg.none W) ops L O (curRes T W g :: E) ((dn, .pointer (some ⟨g, 0, none⟩)) :: f) rest Q) : SXl P n W (Rg.none W) ops L O E f (⟨some dn, .call ⟨.value (.func fn), ars.toArray, aT⟩, ty, pos, af, gd⟩ :: rest) Q :=
  SXl.calln1 (ξ := Nat) (v := fun g => .pointer (some ⟨g, 0, none⟩)) (F1 := curRes T W) hw hd ha (fun w hl => (hc w hl).mono fun e w' ⟨g, h1, h2, h3, h4⟩ => ⟨g, h2, ⟨of_cur (fun k hk => by
    have e1 := hl.mod.block k hk (fun f => f)
    have e2 := h4.block k (Nat.lt_of_lt_of_le hk hl.mod.size) (fun f => f)
    rw [e2, e1]) h3, fun k hk => by subst hk; exact ⟨h1, h3.size⟩⟩, h4⟩) h
/-- A draw from it. -/
theorem SXl.drawC {ξ : Type} {v : ξ → Value} [TFun P fn] (i : Nat) (hw : wantO ops f ⟨some dn, .call ⟨.value (.func fn), ars.toArray, aT⟩, ty, pos, af, gd⟩ = some true) (hd : Nat.blt dn n = true) (ha : evL f ars = some args) (hi : E[i]? = some (curRes T W g)) (K : ξ → Prop)
    (hc : ∀ w, Loc W (Rg.none W) L O E w → Cur W.heap.size T w g → Calls P fn args.toArray w (DrewV T W.heap.size g w v K))
    (h : ∀ x, K x → SXl P n W (Rg.none W) ops L O E ((dn, v x) :: f) rest Q) : SXl P n W (Rg.none W) ops L O E f (⟨some dn, .call ⟨.value (.func fn), ars.toArray, aT⟩, ty, pos, af, gd⟩ :: rest) Q := by
  have hE : E.set i (curRes T W g) = E := by
    refine List.ext_getElem? fun j => ?_
    rw [List.getElem?_set]
    split
    · rename_i e
      subst e
      rw [hi]
      split
      · rfl
      · rename_i hlt
        have := (List.getElem?_eq_some_iff.1 hi).1
        exact (hlt this).elim
    · rfl
  refine SXl.callM (ξ := ξ) (v := v) (F' := fun _ => curRes T W g) i hw hd ha hi (fun _ _ h => h) K (fun w hl => ?_) (fun x hx => by rw [hE]; exact h x hx)
  have hmem : curRes T W g ∈ E := List.mem_iff_getElem?.2 ⟨i, hi⟩
  have hs := (hl.res _ hmem).1
  have hnew := hl.resNew _ hmem g rfl
  refine (hc w hl (cur_of hl.mod hs)).mono ?_
  rintro e w' ⟨x, he, hk, hm, hcur⟩
  refine ⟨x, he, hk, of_cur (fun k hk2 => ?_) hcur, hm⟩
  rw [hm.block k (Nat.lt_of_lt_of_le hk2 hl.mod.size) (fun e => by omega), hl.mod.block k hk2 (fun f => f)]
end
end Go.Proofs.Ythffgbhphjkdeaa
namespace Go.Proofs.Ythffgbhphjkdeaa
open Go.RowKit
set_option linter.unusedVariables false
set_option linter.unusedSimpArgs false

/-- Slices of the call's own, each in a block of its own. -/
structure Owns (base : Nat) (w : World) (os : List Own) : Prop where
  row : ∀ o ∈ os, w.ownsRow base o.e o.sz o.v o.n o.xs
  apart : os.Pairwise (fun a b => ∀ k, a.v.ownBlock = some k → b.v.ownBlock ≠ some k)
theorem Owns.nil (base : Nat) (w : World) : Owns base w [] := ⟨fun _ h => (List.not_mem_nil h).elim, .nil⟩
theorem Owns.mod {base : Nat} {w w' : World} {os : List Own} {S : Nat → Prop} (h : Owns base w os) (hm : Mod S w w') (hs : ∀ o ∈ os, ∀ k, o.v.ownBlock = some k → ¬ S k) : Owns base w' os :=
  ⟨fun o ho => ownsRow_keep (h.row o ho) hm (hs o ho), h.apart⟩
theorem Owns.keep {base : Nat} {w w' : World} {os : List Own} (h : Owns base w os) (hm : Mod (fun _ => False) w w') : Owns base w' os := h.mod hm fun _ _ _ _ f => f
theorem Owns.low {base base' : Nat} {w : World} {os : List Own} (h : Owns base w os) (hb : base' ≤ base) : Owns base' w os := ⟨fun o ho => World.ownsRow.mono (h.row o ho) hb, h.apart⟩
theorem Owns.left {base : Nat} {w : World} {os ps : List Own} (h : Owns base w (os ++ ps)) : Owns base w os := ⟨fun o ho => h.row o (List.mem_append_left _ ho), (List.pairwise_append.1 h.apart).1⟩
theorem Owns.sub {base : Nat} {w : World} {os ps : List Own} (h : Owns base w ps) (hs : os.Sublist ps) : Owns base w os := ⟨fun o ho => h.row o (hs.subset ho), h.apart.sublist hs⟩
def NewO (ξ : Type) (v : ξ → Value) (os : ξ → List Own) (K : ξ → Prop) (w : World) (e : Ending) (w' : World) : Prop :=
  ∃ x, e = .returned (v x) ∧ K x ∧ Owns w.heap.size w' (os x) ∧ Mod (fun _ => False) w w'
def DrewO (ξ : Type) (T : TypeId) (B g : Nat) (v : ξ → Value) (os : ξ → List Own) (K : ξ → Prop) (w : World) (e : Ending) (w' : World) : Prop :=
  ∃ x, e = .returned (v x) ∧ K x ∧ Owns w.heap.size w' (os x) ∧ Mod (fun k => k = g) w w' ∧ Cur B T w' g

section
variable {P : Program} {n : Nat} {W : World} {R : Rg W} {L : List Blk} {O : List Own} {E : List Res} {w w' : World} {B : Nat} {os : List Own}
theorem Loc.owns (h : Loc W R L O E w) : Owns W.heap.size w O := ⟨fun o ho => (h.own o ho).1, h.ownApart⟩
theorem Loc.addOwns (hf : Far W L O E B) (h : Loc W R L O E w) (ho : Owns B w os) : Loc W R L (os ++ O) E w where
  mod := h.mod
  inv := h.inv
  blk := h.blk
  apart := h.apart
  own := fun o hm => by
    rcases List.mem_append.1 hm with hm | hm
    · refine ⟨World.ownsRow.mono (ho.row o hm) hf.old, fun b hb e => ?_⟩
      have := hf.blk b hb
      have := (ownBlock_lt (ho.row o hm) e).1
      omega
    · exact h.own o hm
  ownApart := List.pairwise_append.2 ⟨ho.apart, h.ownApart, fun a ha b hb k hk e => by
    have := hf.own b hb k e
    have := (ownBlock_lt (ho.row a ha) hk).1
    omega⟩
  res := fun F hF => ⟨(h.res F hF).1, (h.res F hF).2.1, (h.res F hF).2.2.1, fun o hm k hk f => by
    rcases List.mem_append.1 hm with hm | hm
    · have := hf.res F hF k f
      have := (ownBlock_lt (ho.row o hm) hk).1
      omega
    · exact (h.res F hF).2.2.2 o hm k hk f⟩
  resNew := h.resNew
  resApart := h.resApart
theorem Loc.gotOwns (h : Loc W R L O E w) (hm : Mod (fun _ => False) w w') (ho : Owns w.heap.size w' os) : Loc W R L (os ++ O) E w' :=
  (h.keep hm).addOwns h.far ho
/-- Slices are put in another order, or dropped. -/
theorem Loc.ownSub (h : Loc W R L O E w) (hs : os.Sublist O) : Loc W R L os E w where
  mod := h.mod
  inv := h.inv
  blk := h.blk
  apart := h.apart
  own := fun o hm => h.own o (hs.subset hm)
  ownApart := h.ownApart.sublist hs
  res := fun F hF => ⟨(h.res F hF).1, (h.res F hF).2.1, (h.res F hF).2.2.1, fun o hm k hk f => (h.res F hF).2.2.2 o (hs.subset hm) k hk f⟩
  resNew := h.resNew
  resApart := h.resApart
theorem Loc.ownPerm (h : Loc W R L O E w) (hs : os.Perm O) : Loc W R L os E w where
  mod := h.mod
  inv := h.inv
  blk := h.blk
  apart := h.apart
  own := fun o hm => h.own o (hs.subset hm)
  ownApart := (hs.symm.pairwise_iff (fun {a b} hab k hk e => hab k e hk)).1 h.ownApart
  res := fun F hF => ⟨(h.res F hF).1, (h.res F hF).2.1, (h.res F hF).2.2.1, fun o hm k hk f => (h.res F hF).2.2.2 o (hs.subset hm) k hk f⟩
  resNew := h.resNew
  resApart := h.resApart
theorem Loc.ownCell {i g m c e sz j : Nat} {xs : List Value} (h : Loc W R L O E w) (hi : O[i]? = some ⟨.slice (some ⟨g, 0, none⟩) m c, e, sz, m, xs⟩) {v : Value} (hv : xs[j]? = some v) : w.cell? ⟨g, j, none⟩ = some v := by
  have ho := (h.own _ (List.mem_iff_getElem?.2 ⟨i, hi⟩)).1
  simp only at ho
  rw [ho.cellAt j (by rw [← ho.1]; exact (List.getElem?_eq_some_iff.1 hv).1), hv]
end
theorem own_setCells {base e sz g n c : Nat} : ∀ (r : List Value) (o : Nat) (w : World) (xs : List Value), w.ownsRow base e sz (.slice (some ⟨g, 0, none⟩) n c) n xs → (w.setCells g o r).ownsRow base e sz (.slice (some ⟨g, 0, none⟩) n c) n (over xs o r)
  | [], _, _, _, h => h
  | v :: r, o, w, xs, h => own_setCells r (o + 1) _ _ (h.stored o v).1
section
variable {P : Program} {n : Nat} {W : World} {R : Rg W} {L : List Blk} {O : List Own} {E : List Res} {f : List (Nat × Value)} {Q : Exit → Act → World → Prop} {ops : Array Oper} {rest : List Oper} {d : Option Tmp} {dn : Nat} {T : TypeId} {x y : Operand} {ty : TypeId} {pos : String} {af : Array Edge} {gd : Option (Nat × Bool)} {g o : Nat}
/-- One cell that is told. -/
theorem OpW.loadLoc {v : Value} [TOne P T] (hx : evO f x = some (.pointer (some ⟨g, o, none⟩))) (hv : ∀ w, Loc W R L O E w → w.cell? ⟨g, o, none⟩ = some v) : OpW P n W R L O E f ⟨d, .load T x, ty, pos, af, gd⟩ v :=
  OpW.of (fun a w hf hl => by simp [execOp, hf.eval hx, run_load1 (hv w hl)])
theorem SXl.storeOwn {v : Value} {O' : List Own} {m c e sz : Nat} {xs : List Value} (i : Nat) [TOne P T] (hw : wantO ops f ⟨none, .store T x y, ty, pos, af, gd⟩ = some true) (hx : evO f x = some (.pointer (some ⟨g, o, none⟩))) (hy : evO f y = some v)
    (hi : O[i]? = some ⟨.slice (some ⟨g, 0, none⟩) m c, e, sz, m, xs⟩) (ho : o < xs.length) (hv : v.oneCell' = true) (hO : O.set i ⟨.slice (some ⟨g, 0, none⟩) m c, e, sz, m, xs.set o v⟩ = O') (h : SXl P n W R ops L O' E f rest Q) : SXl P n W R ops L O E f (⟨none, .store T x y, ty, pos, af, gd⟩ :: rest) Q :=
  SXl.steps hw rfl (fun a w hf hl => by
    have hown := (hl.own _ (List.mem_iff_getElem?.2 ⟨i, hi⟩)).1
    simp only at hown
    refine ⟨w.setCell ⟨g, o, none⟩ v, ?_, hO ▸ hl.ownTurned hi ?_ (hown.stored o v).1 (.inl rfl)⟩
    · simp [execOp, hf.eval hx, hf.eval hy, run_store1 (hl.ownCell hi (List.getElem?_eq_getElem ho)) (hown.frozenAt o) hv]
    · exact ((Mod.refl _ w).setAt _ _ _).mono fun k _ e => by subst e; rfl) h
theorem SXl.storeRowOwn {r : List Value} {O' : List Own} {m c e sz k : Nat} {xs : List Value} (i : Nat) [t : TRow P T k] (hw : wantO ops f ⟨none, .store T x y, ty, pos, af, gd⟩ = some true) (hx : evO f x = some (.pointer (some ⟨g, o, none⟩))) (hy : evO f y = some (.agg r.toArray))
    (hi : O[i]? = some ⟨.slice (some ⟨g, 0, none⟩) m c, e, sz, m, xs⟩) (ho : o + k ≤ xs.length) (hm : r.length = k) (hv : r.all (·.oneCell') = true) (hO : O.set i ⟨.slice (some ⟨g, 0, none⟩) m c, e, sz, m, over xs o r⟩ = O') (h : SXl P n W R ops L O' E f rest Q) : SXl P n W R ops L O E f (⟨none, .store T x y, ty, pos, af, gd⟩ :: rest) Q :=
  SXl.steps hw rfl (fun a w hf hl => by
    obtain ⟨_, h3⟩ := t.h
    have hown := (hl.own _ (List.mem_iff_getElem?.2 ⟨i, hi⟩)).1
    simp only at hown
    have hrow : hasRow w g o k = true ∧ openRow w g = true := by
      rcases hown.2 with ⟨h', _⟩ | ⟨g', cap', cur, h', _, hg, hnc, _, hcs, _⟩
      · simp at h'
      · simp only [Value.slice.injEq, Option.some.injEq, Addr.mk.injEq, and_true, true_and] at h'
        obtain ⟨rfl, rfl⟩ := h'
        have h1 := hown.1
        have h2 := Nat.mul_le_mul_right sz hnc
        exact ⟨by simp only [hasRow, hg]; simp; omega, by simp [openRow, hg]⟩
    have e := run_store_row (P := P) (ty := T) h3 (w := w) (b := g) (o := o) (S := r.toArray) hrow.1 hrow.2 (by simpa using hm) (by simpa using hv)
    refine ⟨w.setCells g o r, by simp [execOp, hf.eval hx, hf.eval hy, e], hO ▸ hl.ownTurned hi ?_ (own_setCells r o w _ hown) (.inl rfl)⟩
    exact (mod_setCells g r o w).mono fun k _ e => by subst e; rfl) h
/-- A call that hands back slices of the call's own. -/
theorem SXl.callO {ξ : Type} {v : ξ → Value} {os : ξ → List Own} {K : ξ → Prop} {fn : FuncId} {ars : List Operand} {args : List Value} {aT : Array TypeId} [TFun P fn] (hw : wantO ops f ⟨some dn, .call ⟨.value (.func fn), ars.toArray, aT⟩, ty, pos, af, gd⟩ = some true) (hd : Nat.blt dn n = true) (ha : evL f ars = some args)
    (hc : ∀ w, Loc W R L O E w → Calls P fn args.toArray w (NewO ξ v os K w))
    (h : ∀ x, K x → SXl P n W R ops L (os x ++ O) E ((dn, v x) :: f) rest Q) : SXl P n W R ops L O E f (⟨some dn, .call ⟨.value (.func fn), ars.toArray, aT⟩, ty, pos, af, gd⟩ :: rest) Q := ⟨fun a w hf hl => by
  unfold wpList
  rw [if_pos (wanted_of hf hw)]
  refine .inl ?_
  unfold Oper.wp
  rw [run_callop hf ha w _ _, Oper.upon_enter]
  refine (hc w hl).mono ?_
  rintro e w' ⟨x, rfl, hk, ho, hm⟩
  exact (h x hk).run _ _ (hf.put hd _) (hl.gotOwns hm ho)⟩
/-- The same, with a draw from a cursor. -/
theorem SXl.drawO {ξ : Type} {v : ξ → Value} {os : ξ → List Own} {K : ξ → Prop} {fn : FuncId} {ars : List Operand} {args : List Value} {aT : Array TypeId} [TFun P fn] (i : Nat) (hw : wantO ops f ⟨some dn, .call ⟨.value (.func fn), ars.toArray, aT⟩, ty, pos, af, gd⟩ = some true) (hd : Nat.blt dn n = true) (ha : evL f ars = some args)
    {TC gc : Nat} (hi : E[i]? = some (curRes TC W gc))
    (hc : ∀ w, Loc W (Rg.none W) L O E w → Cur W.heap.size TC w gc → Calls P fn args.toArray w (DrewO ξ TC W.heap.size gc v os K w))
    (h : ∀ x, K x → SXl P n W (Rg.none W) ops L (os x ++ O) E ((dn, v x) :: f) rest Q) : SXl P n W (Rg.none W) ops L O E f (⟨some dn, .call ⟨.value (.func fn), ars.toArray, aT⟩, ty, pos, af, gd⟩ :: rest) Q := ⟨fun a w hf hl => by
  unfold wpList
  rw [if_pos (wanted_of hf hw)]
  refine .inl ?_
  unfold Oper.wp
  rw [run_callop hf ha w _ _, Oper.upon_enter]
  have hmem : curRes TC W gc ∈ E := List.mem_iff_getElem?.2 ⟨i, hi⟩
  have hs := (hl.res _ hmem).1
  have hnew := hl.resNew _ hmem gc rfl
  have hE : E.set i (curRes TC W gc) = E := by
    refine List.ext_getElem? fun j => ?_
    rw [List.getElem?_set]
    split
    · rename_i e
      subst e
      rw [hi]
      split
      · rfl
      · rename_i hlt
        exact (hlt (List.getElem?_eq_some_iff.1 hi).1).elim
    · rfl
  refine (hc w hl (cur_of hl.mod hs)).mono ?_
  rintro e w' ⟨x, rfl, hk, ho, hm, hcur⟩
  have h1 : Loc W (Rg.none W) L O E w' := by
    have := hl.retold (F' := curRes TC W gc) hi hm (of_cur (fun k hk2 => by
      rw [hm.block k (Nat.lt_of_lt_of_le hk2 hl.mod.size) (fun e => by omega), hl.mod.block k hk2 (fun f => f)]) hcur) (fun _ h => h)
    rwa [hE] at this
  exact (h x hk).run _ _ (hf.put hd _) (h1.addOwns hl.far ho)⟩
/-- The same, where the cursor is old memory that the call may turn. -/
theorem SXl.drawOJ {ξ : Type} {v : ξ → Value} {os : ξ → List Own} {K : ξ → Prop} {fn : FuncId} {ars : List Operand} {args : List Value} {aT : Array TypeId} [TFun P fn] {TC B gc : Nat} {hg : gc < W.heap.size} {hB : B ≤ gc} (hw : wantO ops f ⟨some dn, .call ⟨.value (.func fn), ars.toArray, aT⟩, ty, pos, af, gd⟩ = some true) (hd : Nat.blt dn n = true) (ha : evL f ars = some args)
    (hc : ∀ w, Loc W (curRg TC B gc W hg hB) L O E w → Calls P fn args.toArray w (DrewO ξ TC B gc v os K w))
    (h : ∀ x, K x → SXl P n W (curRg TC B gc W hg hB) ops L (os x ++ O) E ((dn, v x) :: f) rest Q) : SXl P n W (curRg TC B gc W hg hB) ops L O E f (⟨some dn, .call ⟨.value (.func fn), ars.toArray, aT⟩, ty, pos, af, gd⟩ :: rest) Q := ⟨fun a w hf hl => by
  unfold wpList
  rw [if_pos (wanted_of hf hw)]
  refine .inl ?_
  unfold Oper.wp
  rw [run_callop hf ha w _ _, Oper.upon_enter]
  refine (hc w hl).mono ?_
  rintro e w' ⟨x, rfl, hk, ho, hm, hj⟩
  refine (h x hk).run _ _ (hf.put hd _) (Loc.addOwns hl.far ?_ ho)
  exact {
    mod := hl.mod.then hm fun _ _ h => h
    inv := hj
    blk := fun b hb => ⟨(hl.blk b hb).1, hm.blk (hl.blk b hb).2 fun e => by
      rcases (hl.blk b hb).1 with h2 | h2
      · exact h2.elim
      · omega⟩
    apart := hl.apart
    own := fun q hq' => ⟨ownsRow_keep (hl.own q hq').1 hm fun k hk e => by have := (ownBlock_lt (hl.own q hq').1 hk).1; omega, (hl.own q hq').2⟩
    ownApart := hl.ownApart
    res := fun F hF => ⟨F.stable _ _ _ (hl.res F hF).1 hm (fun k hk e => by have := hl.resNew F hF k hk; omega), fun k hk => Nat.lt_of_lt_of_le ((hl.res F hF).2.1 k hk) hm.size, (hl.res F hF).2.2⟩
    resNew := hl.resNew
    resApart := hl.resApart }⟩
end
end Go.Proofs.Ythffgbhphjkdeaa
namespace Go.Proofs.Ythffgbhphjkdeaa
open Go.RowKit
set_option linter.unusedVariables false
set_option linter.unusedSimpArgs false

/-- Where a node's slices lie. -/
structure NodeP where
  ka : Option Addr
  kc : Nat
  ra : Option Addr
  rc : Nat
abbrev PNode := Node × NodeP
def rowP (x : PNode) : List Value := nodeRow x.1.up x.2.ka x.1.kids.length x.2.kc x.1.style x.1.measured x.2.ra x.1.rules.length x.2.rc
theorem rowP_len (x : PNode) : (rowP x).length = 64 := rfl
theorem rowP_one (x : PNode) : ∀ u ∈ rowP x, u.oneCell' = true := by
  have := nodeRow_ones x.1.up x.2.ka x.1.kids.length x.2.kc x.1.style x.1.measured x.2.ra x.1.rules.length x.2.rc
  simpa [rowP] using this
def kidsO (x : PNode) : Own := ⟨.slice x.2.ka x.1.kids.length x.2.kc, 3, 1, x.1.kids.length, (x.1.kids.map icell).flatten⟩
def rulesO (x : PNode) : Own := ⟨.slice x.2.ra x.1.rules.length x.2.rc, 152, 3, x.1.rules.length, (x.1.rules.map Rule.cells).flatten⟩
def partsO : List PNode → List Own
  | [] => []
  | x :: l => kidsO x :: rulesO x :: partsO l
def nodesO (l : List PNode) (a : Option Addr) (c : Nat) : Own := ⟨.slice a l.length c, 86, 64, l.length, (l.map rowP).flatten⟩
def treeO (l : List PNode) (a : Option Addr) (c : Nat) : List Own := nodesO l a c :: partsO l
abbrev bare (l : List PNode) : List Node := l.map Prod.fst
theorem partsO_cons (x : PNode) (l : List PNode) : partsO (x :: l) = kidsO x :: rulesO x :: partsO l := rfl
theorem partsO_append (l m : List PNode) : partsO (l ++ m) = partsO l ++ partsO m := by
  induction l with
  | nil => rfl
  | cons x l ih => rw [List.cons_append, partsO_cons, partsO_cons, ih, List.cons_append, List.cons_append]
theorem partsO_mem {l : List PNode} {x : PNode} (h : x ∈ l) : kidsO x ∈ partsO l ∧ rulesO x ∈ partsO l := by
  induction l with
  | nil => exact (List.not_mem_nil h).elim
  | cons y l ih =>
    rw [partsO_cons]
    rcases List.mem_cons.1 h with rfl | h
    · exact ⟨.head _, .tail _ (.head _)⟩
    · have := ih h
      exact ⟨.tail _ (.tail _ this.1), .tail _ (.tail _ this.2)⟩
theorem partsO_kid {l : List PNode} {k : Nat} {x : PNode} (h : l[k]? = some x) : (partsO l)[2 * k]? = some (kidsO x) := by
  induction l generalizing k with
  | nil => simp at h
  | cons y l ih =>
    rw [partsO_cons]
    cases k with
    | zero =>
      rw [List.getElem?_cons_zero] at h
      rw [Nat.mul_zero, List.getElem?_cons_zero, Option.some.inj h]
    | succ k =>
      rw [List.getElem?_cons_succ] at h
      rw [show 2 * (k + 1) = 2 * k + 1 + 1 by omega, List.getElem?_cons_succ, List.getElem?_cons_succ]
      exact ih h
theorem partsO_setKid {l : List PNode} {k : Nat} {x y : PNode} (h : l[k]? = some x) (hr : rulesO y = rulesO x) : partsO (l.set k y) = (partsO l).set (2 * k) (kidsO y) := by
  induction l generalizing k with
  | nil => simp at h
  | cons z l ih =>
    cases k with
    | zero =>
      rw [List.getElem?_cons_zero] at h
      rw [List.set_cons_zero, partsO_cons, partsO_cons, Nat.mul_zero, List.set_cons_zero, hr, Option.some.inj h]
    | succ k =>
      rw [List.getElem?_cons_succ] at h
      rw [show 2 * (k + 1) = 2 * k + 1 + 1 by omega, List.set_cons_succ, partsO_cons, partsO_cons, List.set_cons_succ, List.set_cons_succ, ih h]
theorem partsO_setRule {l : List PNode} {k : Nat} {x y : PNode} (h : l[k]? = some x) (hr : kidsO y = kidsO x) : partsO (l.set k y) = (partsO l).set (2 * k + 1) (rulesO y) := by
  induction l generalizing k with
  | nil => simp at h
  | cons z l ih =>
    cases k with
    | zero =>
      rw [List.getElem?_cons_zero] at h
      rw [List.set_cons_zero, partsO_cons, partsO_cons, Nat.mul_zero, List.set_cons_succ, List.set_cons_zero, hr, Option.some.inj h]
    | succ k =>
      rw [List.getElem?_cons_succ] at h
      rw [show 2 * (k + 1) + 1 = 2 * k + 1 + 1 + 1 by omega, List.set_cons_succ, partsO_cons, partsO_cons, List.set_cons_succ, List.set_cons_succ, ih h]
theorem partsO_same {l : List PNode} {k : Nat} {x y : PNode} (h : l[k]? = some x) (hr : kidsO y = kidsO x) (hs : rulesO y = rulesO x) : partsO (l.set k y) = partsO l := by
  induction l generalizing k with
  | nil => simp at h
  | cons z l ih =>
    cases k with
    | zero =>
      rw [List.getElem?_cons_zero] at h
      rw [List.set_cons_zero, partsO_cons, partsO_cons, hr, hs, Option.some.inj h]
    | succ k =>
      rw [List.getElem?_cons_succ] at h
      rw [List.set_cons_succ, partsO_cons, partsO_cons, ih h]

/-- A list of rows of one length: one cell of one row set. -/
theorem flat_set {α : Type} {cells : α → List Value} {sz : Nat} (hc : ∀ x, (cells x).length = sz) : ∀ {l : List α} {k j : Nat} {x y : α} {v : Value}, l[k]? = some x → j < sz → cells y = (cells x).set j v → ((l.set k y).map cells).flatten = ((l.map cells).flatten).set (k * sz + j) v
  | z :: l, 0, j, x, y, v, h, hj, hy => by
    obtain rfl : z = x := Option.some.inj h
    simp only [List.set_cons_zero, List.map_cons, List.flatten_cons, hy, Nat.zero_mul, Nat.zero_add]
    rw [List.set_append_left _ _ (by rw [hc]; exact hj)]
  | z :: l, k + 1, j, x, y, v, h, hj, hy => by
    simp only [List.set_cons_succ, List.map_cons, List.flatten_cons]
    rw [flat_set hc (l := l) h hj hy, show (k + 1) * sz + j = (cells z).length + (k * sz + j) by rw [hc, Nat.succ_mul]; omega]
    rw [List.set_append_right _ _ (by omega), Nat.add_sub_cancel_left]
theorem over_left : ∀ (r a b : List Value) (o : Nat), o + r.length ≤ a.length → over (a ++ b) o r = over a o r ++ b
  | [], a, b, o, h => rfl
  | v :: r, a, b, o, h => by
    simp only [List.length_cons] at h
    unfold over
    rw [List.set_append_left _ _ (by omega), over_left r _ b (o + 1) (by rw [List.length_set]; omega)]
theorem over_right : ∀ (r a b : List Value) (o : Nat), over (a ++ b) (a.length + o) r = a ++ over b o r
  | [], a, b, o => rfl
  | v :: r, a, b, o => by
    unfold over
    rw [List.set_append_right _ _ (by omega), Nat.add_sub_cancel_left, Nat.add_assoc, over_right r a _ (o + 1)]
/-- The same: several cells of one row. -/
theorem flat_over {α : Type} {cells : α → List Value} {sz : Nat} (hc : ∀ x, (cells x).length = sz) : ∀ {l : List α} {k j : Nat} {x y : α} {r : List Value}, l[k]? = some x → j + r.length ≤ sz → cells y = over (cells x) j r → ((l.set k y).map cells).flatten = over ((l.map cells).flatten) (k * sz + j) r
  | z :: l, 0, j, x, y, r, h, hj, hy => by
    obtain rfl : z = x := Option.some.inj h
    simp only [List.set_cons_zero, List.map_cons, List.flatten_cons, hy, Nat.zero_mul, Nat.zero_add]
    rw [over_left _ _ _ _ (by rw [hc]; exact hj)]
  | z :: l, k + 1, j, x, y, r, h, hj, hy => by
    simp only [List.set_cons_succ, List.map_cons, List.flatten_cons]
    rw [flat_over hc (l := l) h hj hy, show (k + 1) * sz + j = (cells z).length + (k * sz + j) by rw [hc, Nat.succ_mul]; omega]
    rw [over_right]
theorem flat_get {α : Type} {cells : α → List Value} {sz : Nat} (hc : ∀ x, (cells x).length = sz) : ∀ {l : List α} {k j : Nat} {x : α} {v : Value}, l[k]? = some x → (cells x)[j]? = some v → ((l.map cells).flatten)[k * sz + j]? = some v
  | z :: l, 0, j, x, v, h, hv => by
    obtain rfl : z = x := Option.some.inj h
    simp only [List.map_cons, List.flatten_cons, Nat.zero_mul, Nat.zero_add]
    rw [List.getElem?_append_left (List.getElem?_eq_some_iff.1 hv).1, hv]
  | z :: l, k + 1, j, x, v, h, hv => by
    simp only [List.map_cons, List.flatten_cons]
    rw [show (k + 1) * sz + j = (cells z).length + (k * sz + j) by rw [hc, Nat.succ_mul]; omega, List.getElem?_append_right (by omega), Nat.add_sub_cancel_left]
    exact flat_get hc (l := l) h hv

/-- A tree of the call's own reads as a tree. -/
theorem tree_in {base : Nat} {w : World} {l : List PNode} {a : Option Addr} {c : Nat} (h : Owns base w (treeO l a c)) : NodeSlice false (fun k => base ≤ k) w a (bare l) := by
  have h1 := h.row (nodesO l a c) List.mem_cons_self
  simp only [nodesO] at h1
  refine ⟨l.map rowP, rowsAt_of_own h1 (by intro r hr; obtain ⟨x, _, rfl⟩ := List.mem_map.1 hr; rfl) (by decide), by simp, fun i r x hr hx => ?_⟩
  rw [List.getElem?_map] at hr hx
  cases hp : l[i]? with
  | none => rw [hp] at hr; cases hr
  | some p =>
    rw [hp] at hr hx
    obtain rfl := Option.some.inj hr
    obtain rfl := Option.some.inj hx
    obtain ⟨m1, m2⟩ := partsO_mem (List.mem_of_getElem? hp)
    have k1 := h.row _ (List.mem_cons_of_mem _ m1)
    have k2 := h.row _ (List.mem_cons_of_mem _ m2)
    simp only [kidsO, rulesO] at k1 k2
    exact ⟨_, _, _, _, rfl, own_slice k1 (fun _ => rfl) (by decide), own_slice k2 (fun _ => rfl) (by decide), fun e => by cases e⟩
theorem nodes_cell {base : Nat} {w : World} {l : List PNode} {g c : Nat} (h : Owns base w (treeO l (some ⟨g, 0, none⟩) c)) {k j : Nat} {x : PNode} {v : Value} (hx : l[k]? = some x) (hv : (rowP x)[j]? = some v) : w.cell? ⟨g, 0 + k * 64 + j, none⟩ = some v := by
  have h1 := h.row (nodesO l (some ⟨g, 0, none⟩) c) List.mem_cons_self
  simp only [nodesO] at h1
  have e := flat_get rowP_len hx hv
  rw [Nat.zero_add, h1.cellAt _ (by rw [← h1.1]; exact (List.getElem?_eq_some_iff.1 e).1), e]
theorem tree_addr {base : Nat} {w : World} {l : List PNode} {a : Option Addr} {c : Nat} (h : Owns base w (treeO l a c)) (h0 : 0 < l.length) : ∃ g, a = some ⟨g, 0, none⟩ := by
  have h1 := h.row (nodesO l a c) List.mem_cons_self
  simp only [nodesO] at h1
  rcases h1.2 with ⟨_, hn⟩ | ⟨g, cap, cur, hv, _⟩
  · omega
  · injection hv with ha _ _
    exact ⟨g, ha⟩
theorem nodes_set {l : List PNode} {a : Option Addr} {c k j : Nat} {x y : PNode} {v : Value} (hx : l[k]? = some x) (hj : j < 64) (hy : rowP y = (rowP x).set j v) : nodesO (l.set k y) a c = ⟨.slice a l.length c, 86, 64, l.length, ((l.map rowP).flatten).set (k * 64 + j) v⟩ := by
  unfold nodesO
  rw [flat_set rowP_len hx hj hy, List.length_set]
theorem nodes_over {l : List PNode} {a : Option Addr} {c k j : Nat} {x y : PNode} {r : List Value} (hx : l[k]? = some x) (hj : j + r.length ≤ 64) (hy : rowP y = over (rowP x) j r) : nodesO (l.set k y) a c = ⟨.slice a l.length c, 86, 64, l.length, over ((l.map rowP).flatten) (k * 64 + j) r⟩ := by
  unfold nodesO
  rw [flat_over rowP_len hx hj hy, List.length_set]
theorem bare_get {l : List PNode} {k : Nat} {x : PNode} (h : l[k]? = some x) : (bare l)[k]? = some x.1 := by rw [List.getElem?_map, h]; rfl
theorem bare_set (l : List PNode) (k : Nat) (y : PNode) : bare (l.set k y) = (bare l).set k y.1 := by simp [bare, List.map_set]
theorem bare_len (l : List PNode) : (bare l).length = l.length := List.length_map _
end Go.Proofs.Ythffgbhphjkdeaa
namespace Go.Proofs.Ythffgbhphjkdeaa
open Go.RowKit
set_option linter.unusedVariables false
set_option linter.unusedSimpArgs false

theorem fold_over : ∀ (r : List Value) (k : Nat) (c : List Value), (r.zipIdx k).foldl (fun (cs : Array Value) (p : Value × Nat) => cs.setIfInBounds (0 + p.2) p.1) c.toArray = (over c k r).toArray
  | [], _, _ => rfl
  | v :: r, k, c => by
    rw [List.zipIdx_cons, List.foldl_cons]
    have := fold_over r (k + 1) (c.set k v)
    simp only [Nat.zero_add] at this ⊢
    rw [over, ← this]
    simp
theorem fill_one {r c : List Value} {v : Value} {sz : Nat} (hv : v.cells = r.toArray) (hr : r.length = sz) (hc : c.length = sz) : Instr.fill (fun i => some (i * sz, sz)) c.toArray [(0, v)] = some r.toArray := by
  have h0 : over c 0 r = r := by
    have := over_all r c [] (by omega)
    simpa using this
  unfold Instr.fill
  simp only [hv, Nat.zero_mul, List.size_toArray, hr, hc]
  rw [if_neg (by simp)]
  unfold Instr.fill
  have := fold_over r 0 c
  rw [h0] at this
  rw [← Array.foldl_toList, Array.toList_zipIdx]
  simp only [Nat.zero_add] at this
  simpa using this
section
variable {P : Program} {n : Nat} {W : World} {R : Rg W} {L : List Blk} {O : List Own} {E : List Res} {f : List (Nat × Value)} {Q : Exit → Act → World → Prop} {ops : Array Oper} {rest : List Oper} {dn : Nat} {T e : TypeId} {x : Operand} {ty : TypeId} {pos : String} {af : Array Edge} {gd : Option (Nat × Bool)}
theorem SXl.litRow1 {sz by_ : Nat} {z v : Value} {r : List Value} [t : TSl P T e sz] [te : TEl P e sz by_ z] (hw : wantO ops f ⟨some dn, .buildSlice T 1 #[(0, x)], ty, pos, af, gd⟩ = some true) (hd : Nat.blt dn n = true)
    (hx : evO f x = some v) (hv : v.cells = r.toArray) (hr : r.length = sz) (h0 : 0 < sz) (hs : sz ≤ 16777216)
    (h : ∀ g, SXl P n W R ops (⟨g, r, e⟩ :: L) O E ((dn, .slice (some ⟨g, 0, none⟩) 1 1) :: f) rest Q) : SXl P n W R ops L O E f (⟨some dn, .buildSlice T 1 #[(0, x)], ty, pos, af, gd⟩ :: rest) Q :=
  SXl.litRow (parts := [(0, x)]) (vals := [(0, v)]) (cells := r) (z := z) hw hd (by simp [evP, hx]) (by omega) (by omega) (by
    have := fill_one (c := ((Array.range (1 * sz)).map (fun i => z.cells[i % z.cells.size]!)).toList) hv hr (by simp)
    rw [Array.toArray_toList] at this
    exact this) h
theorem SXl.lit0R {sz by_ : Nat} {z : Value} [t : TSl P T e sz] [te : TEl P e sz by_ z] (hw : wantO ops f ⟨some dn, .buildSlice T 0 #[], ty, pos, af, gd⟩ = some true) (hd : Nat.blt dn n = true) (hR : ∀ k, ¬ R.q k)
    (h : ∀ g, SXl P n W R ops L (⟨.slice (some ⟨g, 0, none⟩) 0 0, e, sz, 0, []⟩ :: O) E ((dn, .slice (some ⟨g, 0, none⟩) 0 0) :: f) rest Q) : SXl P n W R ops L O E f (⟨some dn, .buildSlice T 0 #[], ty, pos, af, gd⟩ :: rest) Q :=
  SXl.stepn (V := fun g => .slice (some ⟨g, 0, none⟩) 0 0) (L' := fun _ => L) (O' := fun g => ⟨.slice (some ⟨g, 0, none⟩) 0 0, e, sz, 0, []⟩ :: O) hw rfl hd (fun a w hf hl => by
    obtain ⟨i0, q1, q2, q3, q4, q5, q6⟩ := te.h
    refine ⟨w.heap.size, w.alloc (.cells #[] e), ?_, ((hl.alloc [] e).toOwn (m := 0) (hR _) (by simp) (by unfold maxLen; omega))⟩
    simp only [execOp, Instr.buildSlice, Sem.run_bind, run_underlying t.h.1, Result.andThen_ok, sizeOf, typeInfo, run_program, q1, Sem.run_pure, q3]
    have e4 : Array.map (fun _ : Nat => (default : Value)) (Array.range 0) = #[] := by simp
    simp [newRow, q1, q2, q3, e4, Instr.fill]
    done) h
end
end Go.Proofs.Ythffgbhphjkdeaa
namespace Go.Proofs.Ythffgbhphjkdeaa
open Go.RowKit
set_option linter.unusedVariables false
set_option linter.unusedSimpArgs false

/-- Where a tree of the call's own lies. -/
structure TreeQ where
  ps : List PNode
  a : Option Addr
  c : Nat
def TreeQ.v (q : TreeQ) : Value := .agg [.slice q.a q.ps.length q.c].toArray
def TreeQ.os (q : TreeQ) : List Own := treeO q.ps q.a q.c
/-- A new tree. -/
def NewTree (l : List Node) (w : World) (e : Ending) (w' : World) : Prop := NewO TreeQ TreeQ.v TreeQ.os (fun q => bare q.ps = l) w e w'
theorem icell_one1 (x : Int) : ∀ u ∈ icell x, u.oneCell' = true := fun u hu => by simp [icell] at hu; subst hu; rfl
theorem rule_one1 (x : Rule) : ∀ u ∈ Rule.cells x, u.oneCell' = true := fun u hu => by simp [Rule.cells] at hu; rcases hu with rfl | rfl | rfl <;> rfl
theorem rowP_ones (x : PNode) : (rowP x).all (·.oneCell') = true := List.all_eq_true.2 (rowP_one x)
theorem Loc.drop2 {W : World} {R : Rg W} {a b : Blk} {L : List Blk} {O : List Own} {E : List Res} {w : World} (h : Loc W R (a :: b :: L) O E w) : Loc W R L O E w := h.drop1.drop1
/-- One node more. -/
theorem Loc.treePush {W : World} {R : Rg W} {L : List Blk} {E : List Res} {w : World} {ps : List PNode} {x : PNode} {a : Option Addr} {c : Nat}
    (h : Loc W R L (rulesO x :: kidsO x :: ⟨.slice a (ps.length + 1) c, 86, 64, ps.length + 1, (ps.map rowP).flatten ++ rowP x⟩ :: partsO ps) E w) : Loc W R L (treeO (ps ++ [x]) a c) E w := by
  refine h.ownPerm ?_
  unfold treeO nodesO
  rw [partsO_append, List.map_append, List.flatten_append, List.length_append]
  simp only [List.map_cons, List.map_nil, List.flatten_cons, List.flatten_nil, List.append_nil, List.length_cons, List.length_nil, Nat.zero_add]
  rw [partsO_cons]
  generalize (⟨_, _, _, _, _⟩ : Own) = n
  generalize partsO ps = p
  refine List.Perm.symm ?_
  refine (List.Perm.swap _ _ _).trans ?_
  refine ((List.Perm.swap _ _ _).cons _).trans ?_
  refine (List.Perm.swap _ _ _).trans ?_
  refine List.Perm.cons _ ?_
  show List.Perm ([kidsO x, rulesO x] ++ p) (p ++ [kidsO x, rulesO x])
  exact List.perm_append_comm
set_option maxRecDepth 100000 in
set_option maxHeartbeats 8000000 in
theorem scopyTree_any (l : List Node) (o : Bool) (a : Option Addr) (c : Nat) (R : Nat → Prop) (w : World) (hlen : l.length ≤ 1048576) (hfit : ∀ x ∈ l, x.fits 1048576) (h : NodeSlice o R w a l) :
    Calls Try.prog 77 #[.agg #[.slice a l.length c]] w (NewTree l w) := by
  refine calls_sx Try.func77 rfl rfl (fun a h1 h2 h3 => ((Fr.nil h1 h2).arg (h3 0 _ rfl))) ?_
  repeat (first | refine SX.seq ?_ | refine SXl.nil ?_ | refine SX.region ?_ | refine SQ.thenNormal ?_ | refine SX.block ?_ | (refine l_assign ?_; (refine SXl.v (OpW.assign rfl) rfl ?_ ?_ ?_); rfl; rfl) | (refine l_build ?_; (refine SXl.v (OpW.build rfl rfl) rfl ?_ ?_ ?_); rfl; rfl) | (refine l_alloc ?_; refine SXl.alloc ?_ ?_ (fun g => ?_); rfl; rfl) | (refine l_box ?_; refine SXl.box ?_ ?_ rfl rfl (fun g => ?_); rfl; rfl) | (refine l_store ?_; first | (refine SXl.store 0 ?_ rfl rfl rfl rfl rfl rfl ?_; rfl; simp only [List.set_cons_zero, List.set_cons_succ]) | (refine SXl.store 1 ?_ rfl rfl rfl rfl rfl rfl ?_; rfl; simp only [List.set_cons_zero, List.set_cons_succ]) | (refine SXl.store 2 ?_ rfl rfl rfl rfl rfl rfl ?_; rfl; simp only [List.set_cons_zero, List.set_cons_succ]) | (refine SXl.storeAll 0 ?_ rfl rfl rfl rfl rfl rfl rfl ?_; rfl; simp only [List.set_cons_zero, List.set_cons_succ]) | (refine SXl.storeAll 1 ?_ rfl rfl rfl rfl rfl rfl rfl ?_; rfl; simp only [List.set_cons_zero, List.set_cons_succ]) | (refine SXl.storeAll 2 ?_ rfl rfl rfl rfl rfl rfl rfl ?_; rfl; simp only [List.set_cons_zero, List.set_cons_succ]) | (refine SXl.storeRow 0 ?_ rfl rfl rfl rfl rfl rfl rfl ?_; rfl; simp only [over, List.set_cons_zero, List.set_cons_succ]) | (refine SXl.storeRow 1 ?_ rfl rfl rfl rfl rfl rfl rfl ?_; rfl; simp only [over, List.set_cons_zero, List.set_cons_succ]) | (refine SXl.storeRow 2 ?_ rfl rfl rfl rfl rfl rfl rfl ?_; rfl; simp only [over, List.set_cons_zero, List.set_cons_succ])))
  rename_i g1 g2
  refine SX.ownNil 86 64 ?_
  refine SX.loop3 (fun (k : Nat) (q : TreeQ) (_ : Unit) => k ≤ l.length ∧ bare q.ps = l.take k) (fun k _ _ => l.length - k) (fun _ q _ => [⟨g, [.slice q.a q.ps.length q.c], 37⟩, ⟨g2, [.slice none 0 0], 37⟩, ⟨g1, [.slice a l.length c], 37⟩]) (fun _ q _ => q.os) (fun _ _ _ => []) (fun k _ _ => [(1, .pointer (some ⟨g1, 0, none⟩)), (2, .pointer (some ⟨g2, 0, none⟩)), (3, .pointer (some ⟨g, 0, none⟩)), (4, .int .i64 k)]) 0 ⟨[], none, 0⟩ () ⟨Nat.zero_le _, rfl⟩ ?_ (fun w hl => hl) ?_
  · (repeat (first | exact subF_nil _ | (refine subF_cons rfl ?_) | (refine subF_consv rfl (by rfl) ?_)))
  rintro k q _ ⟨hk, hq⟩
  have hql : q.ps.length = k := by rw [← bare_len, hq, List.length_take]; omega
  by_cases hlt : k < l.length
  rotate_left
  · have hk' : k = l.length := by omega
    repeat (first | refine SX.seq ?_ | refine SXl.nil ?_ | refine SX.region ?_ | refine SQ.thenNormal ?_ | refine SX.condF rfl ?_ | (refine l_load ?_; (first | refine SXl.v (OpW.load 2 rfl rfl rfl) rfl ?_ ?_ ?_ | refine SXl.v (OpW.loadAll 0 rfl rfl rfl) rfl ?_ ?_ ?_); rfl; rfl) | (refine l_fieldAddr ?_; (refine SXl.v (OpW.fieldAddr rfl) rfl ?_ ?_ ?_); rfl; rfl) | (refine l_move ?_; (refine SXl.v (OpW.move rfl) rfl ?_ ?_ ?_); rfl; rfl) | (refine l_len ?_; (refine SXl.v (OpW.len rfl) rfl ?_ ?_ ?_); rfl; rfl) | (refine l_lss ?_; (refine SXl.v (OpW.lssF rfl rfl (by omega)) rfl ?_ ?_ ?_); rfl; rfl) | (refine l_store ?_; first | (refine SXl.store 0 ?_ rfl rfl rfl rfl rfl rfl ?_; rfl; simp only [List.set_cons_zero, List.set_cons_succ]) | (refine SXl.store 1 ?_ rfl rfl rfl rfl rfl rfl ?_; rfl; simp only [List.set_cons_zero, List.set_cons_succ]) | (refine SXl.store 2 ?_ rfl rfl rfl rfl rfl rfl ?_; rfl; simp only [List.set_cons_zero, List.set_cons_succ]) | (refine SXl.storeAll 0 ?_ rfl rfl rfl rfl rfl rfl rfl ?_; rfl; simp only [List.set_cons_zero, List.set_cons_succ]) | (refine SXl.storeAll 1 ?_ rfl rfl rfl rfl rfl rfl rfl ?_; rfl; simp only [List.set_cons_zero, List.set_cons_succ]) | (refine SXl.storeAll 2 ?_ rfl rfl rfl rfl rfl rfl rfl ?_; rfl; simp only [List.set_cons_zero, List.set_cons_succ]) | (refine SXl.storeRow 0 ?_ rfl rfl rfl rfl rfl rfl rfl ?_; rfl; simp only [over, List.set_cons_zero, List.set_cons_succ]) | (refine SXl.storeRow 1 ?_ rfl rfl rfl rfl rfl rfl rfl ?_; rfl; simp only [over, List.set_cons_zero, List.set_cons_succ]) | (refine SXl.storeRow 2 ?_ rfl rfl rfl rfl rfl rfl rfl ?_; rfl; simp only [over, List.set_cons_zero, List.set_cons_succ])) | refine SX.ret ?_ | refine SX.exit ?_ | refine SQ.thenExit ?_ | refine SQ.blockExit ?_)
    refine SQ.bodyCell 1 rfl rfl rfl rfl (fun w' hl => ⟨q, rfl, (show bare q.ps = l by rw [hq, hk', List.take_length]), hl.owns, hl.mod⟩)
  obtain ⟨b1, o1, x, r1, rfl, hR1, hb1, hxk, hr1, hl1, hc1⟩ := h.get hlt
  obtain ⟨ka, kc, ra, rc, rfl, hk1, ht1, _⟩ := hr1
  have hf := hfit x (List.mem_of_getElem? hxk.out)
  obtain ⟨hf1, hf2⟩ := hf
  repeat (first | refine SX.seq ?_ | refine SXl.nil ?_ | refine SX.region ?_ | refine SQ.thenNormal ?_ | refine SX.block ?_ | refine SX.skip ?_ | refine SX.condT rfl ?_ | (refine l_load ?_; (first | refine SXl.v (OpW.loadRowOld rfl hc1 (nodeRow_len _ _ _ _ _ _ _ _ _) (Nat.succ_pos _) (fun h => h)) rfl ?_ ?_ ?_ | refine SXl.v (OpW.load 0 rfl rfl rfl) rfl ?_ ?_ ?_ | refine SXl.v (OpW.load 2 rfl rfl rfl) rfl ?_ ?_ ?_); rfl; rfl) | (refine l_fieldAddr ?_; (refine SXl.v (OpW.fieldAddr rfl) rfl ?_ ?_ ?_); rfl; rfl) | (refine l_move ?_; (refine SXl.v (OpW.move rfl) rfl ?_ ?_ ?_); rfl; rfl) | (refine l_len ?_; (refine SXl.v (OpW.len rfl) rfl ?_ ?_ ?_); rfl; rfl) | (refine l_lss ?_; (refine SXl.v (OpW.lssT rfl rfl (by omega)) rfl ?_ ?_ ?_); rfl; rfl) | (refine l_indexAddr ?_; (refine SXl.v (OpW.indexAddr (by omega) rfl rfl) rfl ?_ ?_ ?_); rfl; rfl) | (refine l_alloc ?_; refine SXl.alloc ?_ ?_ (fun g => ?_); rfl; rfl) | (refine l_store ?_; first | (refine SXl.store 0 ?_ rfl rfl rfl rfl rfl rfl ?_; rfl; simp only [List.set_cons_zero, List.set_cons_succ]) | (refine SXl.store 1 ?_ rfl rfl rfl rfl rfl rfl ?_; rfl; simp only [List.set_cons_zero, List.set_cons_succ]) | (refine SXl.store 2 ?_ rfl rfl rfl rfl rfl rfl ?_; rfl; simp only [List.set_cons_zero, List.set_cons_succ]) | (refine SXl.storeAll 0 ?_ rfl rfl rfl rfl rfl rfl rfl ?_; rfl; simp only [List.set_cons_zero, List.set_cons_succ]) | (refine SXl.storeAll 1 ?_ rfl rfl rfl rfl rfl rfl rfl ?_; rfl; simp only [List.set_cons_zero, List.set_cons_succ]) | (refine SXl.storeAll 2 ?_ rfl rfl rfl rfl rfl rfl rfl ?_; rfl; simp only [List.set_cons_zero, List.set_cons_succ]) | (refine SXl.storeRow 0 ?_ rfl rfl rfl rfl rfl rfl rfl ?_; rfl; simp only [over, List.set_cons_zero, List.set_cons_succ]) | (refine SXl.storeRow 1 ?_ rfl rfl rfl rfl rfl rfl rfl ?_; rfl; simp only [over, List.set_cons_zero, List.set_cons_succ]) | (refine SXl.storeRow 2 ?_ rfl rfl rfl rfl rfl rfl rfl ?_; rfl; simp only [over, List.set_cons_zero, List.set_cons_succ])) | (refine l_buildSlice ?_; first | (refine SXl.lit1 ?_ ?_ rfl rfl rfl (fun g => ?_); rfl; rfl) | (refine SXl.lit0 ?_ ?_ (fun _ h => h) rfl (fun g => ?_); rfl; rfl)))
  refine l_append ?_
  refine SXl.appendS (cs := icell) 0 x.kids rfl rfl rfl rfl rfl rfl (fun _ => rfl) icell_one1 (fun w hl => ⟨_, SliceAt.flatKeep hk1 hl.mod⟩) (by omega) (by omega) (fun a1 c1 => ?_)
  simp only [List.set_cons_zero, Nat.zero_add, List.nil_append]
  repeat (first | refine SX.seq ?_ | refine SXl.nil ?_ | refine SX.region ?_ | refine SQ.thenNormal ?_ | (refine l_fieldAddr ?_; (refine SXl.v (OpW.fieldAddr rfl) rfl ?_ ?_ ?_); rfl; rfl) | (refine l_store ?_; first | (refine SXl.store 0 ?_ rfl rfl rfl rfl rfl rfl ?_; rfl; simp only [List.set_cons_zero, List.set_cons_succ]) | (refine SXl.store 1 ?_ rfl rfl rfl rfl rfl rfl ?_; rfl; simp only [List.set_cons_zero, List.set_cons_succ]) | (refine SXl.store 2 ?_ rfl rfl rfl rfl rfl rfl ?_; rfl; simp only [List.set_cons_zero, List.set_cons_succ]) | (refine SXl.storeAll 0 ?_ rfl rfl rfl rfl rfl rfl rfl ?_; rfl; simp only [List.set_cons_zero, List.set_cons_succ]) | (refine SXl.storeAll 1 ?_ rfl rfl rfl rfl rfl rfl rfl ?_; rfl; simp only [List.set_cons_zero, List.set_cons_succ]) | (refine SXl.storeAll 2 ?_ rfl rfl rfl rfl rfl rfl rfl ?_; rfl; simp only [List.set_cons_zero, List.set_cons_succ]) | (refine SXl.storeRow 0 ?_ rfl rfl rfl rfl rfl rfl rfl ?_; rfl; simp only [over, List.set_cons_zero, List.set_cons_succ]) | (refine SXl.storeRow 1 ?_ rfl rfl rfl rfl rfl rfl rfl ?_; rfl; simp only [over, List.set_cons_zero, List.set_cons_succ]) | (refine SXl.storeRow 2 ?_ rfl rfl rfl rfl rfl rfl rfl ?_; rfl; simp only [over, List.set_cons_zero, List.set_cons_succ])))
  refine l_buildSlice ?_
  refine SXl.lit0R rfl rfl (fun _ h => h) (fun g4 => ?_)
  repeat (first | (refine l_load ?_; (refine SXl.v (OpW.load 0 rfl rfl rfl) rfl ?_ ?_ ?_); rfl; rfl) | (refine l_fieldAddr ?_; (refine SXl.v (OpW.fieldAddr rfl) rfl ?_ ?_ ?_); rfl; rfl))
  refine l_append ?_
  refine SXl.appendS (cs := Rule.cells) 0 x.rules rfl rfl rfl rfl rfl rfl (fun _ => rfl) rule_one1 (fun w hl => ⟨_, SliceAt.flatKeep ht1 hl.mod⟩) (by omega) (by omega) (fun a2 c2 => ?_)
  simp only [List.set_cons_zero, Nat.zero_add, List.nil_append]
  repeat (first | refine SXl.nil ?_ | refine SX.region ?_ | refine SQ.thenNormal ?_ | (refine l_load ?_; (first | refine SXl.v (OpW.load 1 rfl rfl rfl) rfl ?_ ?_ ?_ | refine SXl.v (OpW.loadAll 0 rfl rfl rfl) rfl ?_ ?_ ?_); rfl; rfl) | (refine l_fieldAddr ?_; (refine SXl.v (OpW.fieldAddr rfl) rfl ?_ ?_ ?_); rfl; rfl) | (refine l_build ?_; (refine SXl.v (OpW.build rfl rfl) rfl ?_ ?_ ?_); rfl; rfl) | (refine l_store ?_; first | (refine SXl.store 0 ?_ rfl rfl rfl rfl rfl rfl ?_; rfl; simp only [List.set_cons_zero, List.set_cons_succ]) | (refine SXl.store 1 ?_ rfl rfl rfl rfl rfl rfl ?_; rfl; simp only [List.set_cons_zero, List.set_cons_succ]) | (refine SXl.store 2 ?_ rfl rfl rfl rfl rfl rfl ?_; rfl; simp only [List.set_cons_zero, List.set_cons_succ]) | (refine SXl.storeAll 0 ?_ rfl rfl rfl rfl rfl rfl rfl ?_; rfl; simp only [List.set_cons_zero, List.set_cons_succ]) | (refine SXl.storeAll 1 ?_ rfl rfl rfl rfl rfl rfl rfl ?_; rfl; simp only [List.set_cons_zero, List.set_cons_succ]) | (refine SXl.storeAll 2 ?_ rfl rfl rfl rfl rfl rfl rfl ?_; rfl; simp only [List.set_cons_zero, List.set_cons_succ]) | (refine SXl.storeRow 0 ?_ rfl rfl rfl rfl rfl rfl rfl ?_; rfl; simp only [over, List.set_cons_zero, List.set_cons_succ]) | (refine SXl.storeRow 1 ?_ rfl rfl rfl rfl rfl rfl rfl ?_; rfl; simp only [over, List.set_cons_zero, List.set_cons_succ]) | (refine SXl.storeRow 2 ?_ rfl rfl rfl rfl rfl rfl rfl ?_; rfl; simp only [over, List.set_cons_zero, List.set_cons_succ])))
  refine l_buildSlice ?_
  refine SXl.litRow1 (sz := 64) (r := rowP (x, ⟨a1, c1, a2, c2⟩)) rfl rfl rfl rfl rfl (by decide) (by decide) (fun g5 => ?_)
  skip
  refine l_append ?_
  refine SXl.append 2 0 rfl rfl rfl rfl rfl rfl rfl (rowP_ones _) (by omega) (by omega) (fun a3 c3 => ?_)
  repeat (first | refine SXl.nil ?_ | refine SX.region ?_ | refine SQ.thenNormal ?_ | (refine l_fieldAddr ?_; (refine SXl.v (OpW.fieldAddr rfl) rfl ?_ ?_ ?_); rfl; rfl) | (refine l_move ?_; (refine SXl.v (OpW.move rfl) rfl ?_ ?_ ?_); rfl; rfl) | (refine l_assign ?_; (refine SXl.v (OpW.assign rfl) rfl ?_ ?_ ?_); rfl; rfl) | (refine l_add ?_; (refine SXl.v (OpW.succ rfl rfl (by omega)) rfl ?_ ?_ ?_); rfl; rfl) | (refine l_store ?_; first | (refine SXl.store 0 ?_ rfl rfl rfl rfl rfl rfl ?_; rfl; simp only [List.set_cons_zero, List.set_cons_succ]) | (refine SXl.store 1 ?_ rfl rfl rfl rfl rfl rfl ?_; rfl; simp only [List.set_cons_zero, List.set_cons_succ]) | (refine SXl.store 2 ?_ rfl rfl rfl rfl rfl rfl ?_; rfl; simp only [List.set_cons_zero, List.set_cons_succ]) | (refine SXl.storeAll 0 ?_ rfl rfl rfl rfl rfl rfl rfl ?_; rfl; simp only [List.set_cons_zero, List.set_cons_succ]) | (refine SXl.storeAll 1 ?_ rfl rfl rfl rfl rfl rfl rfl ?_; rfl; simp only [List.set_cons_zero, List.set_cons_succ]) | (refine SXl.storeAll 2 ?_ rfl rfl rfl rfl rfl rfl rfl ?_; rfl; simp only [List.set_cons_zero, List.set_cons_succ]) | (refine SXl.storeRow 0 ?_ rfl rfl rfl rfl rfl rfl rfl ?_; rfl; simp only [over, List.set_cons_zero, List.set_cons_succ]) | (refine SXl.storeRow 1 ?_ rfl rfl rfl rfl rfl rfl rfl ?_; rfl; simp only [over, List.set_cons_zero, List.set_cons_succ]) | (refine SXl.storeRow 2 ?_ rfl rfl rfl rfl rfl rfl rfl ?_; rfl; simp only [over, List.set_cons_zero, List.set_cons_succ])) | refine SQ.blockNormal ?_)
  refine SQ.round3 (k + 1) ⟨q.ps ++ [(x, ⟨a1, c1, a2, c2⟩)], a3, c3⟩ () ⟨by omega, ?_⟩ (by omega) ?_ (fun w hl => by
    show Loc _ _ (⟨_, [.slice a3 (q.ps ++ [_]).length c3], _⟩ :: _) _ _ _
    rw [List.length_append]
    exact hl.drop2.treePush)
  · show bare (q.ps ++ [(x, _)]) = _
    rw [List.take_add_one, hxk.out, bare, List.map_append, ← hq]; rfl
  · (repeat (first | exact subF_nil _ | (refine subF_cons rfl ?_) | (refine subF_consv rfl (by rw [List.length_append]; rfl) ?_)))
end Go.Proofs.Ythffgbhphjkdeaa
namespace Go.Proofs.Ythffgbhphjkdeaa
open Go.RowKit
set_option linter.unusedVariables false
set_option linter.unusedSimpArgs false

theorem inB_eq {n a b : Int} : inB n a b = true ↔ a ≤ n ∧ n ≤ b := by simp [inB]
theorem node_get {l : List Node} {n : Int} (h : inB n 1 l.length = true) : ∃ (k : Nat) (x : Node), n = ((k + 1 : Nat) : Int) ∧ k < l.length ∧ l[k]? = some x ∧ nodeAt l n = x := by
  obtain ⟨k, rfl, hk⟩ := inB_node h
  have hx := List.getElem?_eq_getElem hk
  exact ⟨k, _, rfl, hk, hx, nodeAt_of hx⟩

/-! ### Depths told by a function -/
/-- d tells the depths of the tree's nodes. -/
structure Deep (l : List Node) (d : Int → Nat) : Prop where
  root : ∀ n, inB n 1 l.length = true → (nodeAt l n).up = 0 → d n = 1
  next : ∀ n, inB n 1 l.length = true → (nodeAt l n).up ≠ 0 → inB (nodeAt l n).up 1 l.length = true ∧ d n = d (nodeAt l n).up + 1 ∧ 1 ≤ d (nodeAt l n).up
theorem Deep.pos {l : List Node} {d : Int → Nat} (h : Deep l d) {n : Int} (hn : inB n 1 l.length = true) : 1 ≤ d n := by
  by_cases h0 : (nodeAt l n).up = 0
  · rw [h.root n hn h0]; exact Nat.le_refl _
  · have := (h.next n hn h0).2.1; omega
/-- The nodes above a node, itself among them. -/
def chain (l : List Node) : Nat → Int → List Int
  | 0, _ => []
  | f + 1, n => n :: chain l f (nodeAt l n).up
theorem chain_mem {l : List Node} {d : Int → Nat} (h : Deep l d) : ∀ (f : Nat) (n : Int), inB n 1 l.length = true → d n = f → ∀ y ∈ chain l f n, inB y 1 l.length = true ∧ d y ≤ f
  | 0, n, hn, hd, y, hy => by cases hy
  | f + 1, n, hn, hd, y, hy => by
    unfold chain at hy
    rcases List.mem_cons.1 hy with rfl | hy
    · exact ⟨hn, by omega⟩
    · by_cases h0 : (nodeAt l n).up = 0
      · have := h.root n hn h0
        obtain rfl : f = 0 := by omega
        cases hy
      · obtain ⟨h1, h2, h3⟩ := h.next n hn h0
        have := chain_mem h f _ h1 (by omega) y hy
        exact ⟨this.1, by omega⟩
theorem chain_len {l : List Node} : ∀ (f : Nat) (n : Int), (chain l f n).length = f
  | 0, _ => rfl
  | f + 1, n => by unfold chain; rw [List.length_cons, chain_len f]
theorem chain_count {l : List Node} {d : Int → Nat} (h : Deep l d) : ∀ (f : Nat) (n : Int), inB n 1 l.length = true → d n = f → ∀ a, (chain l f n).count a ≤ 1
  | 0, n, hn, hd, a => by simp [chain]
  | f + 1, n, hn, hd, a => by
    unfold chain
    rw [List.count_cons]
    by_cases h0 : (nodeAt l n).up = 0
    · have := h.root n hn h0
      obtain rfl : f = 0 := by omega
      simp only [chain, List.count_nil]
      split <;> omega
    · obtain ⟨h1, h2, h3⟩ := h.next n hn h0
      have ih := chain_count h f _ h1 (by omega) a
      by_cases e : n = a
      · subst e
        have : n ∉ chain l f (nodeAt l n).up := fun hm => by
          have := (chain_mem h f _ h1 (by omega) n hm).2
          omega
        rw [List.count_eq_zero.2 this]
        simp
      · have e' : (n == a) = false := by simpa using e
        rw [e']
        simpa using ih
theorem Deep.le {l : List Node} {d : Int → Nat} (h : Deep l d) {n : Int} (hn : inB n 1 l.length = true) : d n ≤ l.length := by
  have := nodup_len l.length (chain l (d n) n) (chain_count h _ n hn rfl) fun x hx => inB_eq.1 (chain_mem h _ n hn rfl x hx).1
  rwa [chain_len] at this
theorem depthF_deep {l : List Node} {d : Int → Nat} (h : Deep l d) : ∀ (f : Nat) (n : Int) (k : Nat), inB n 1 l.length = true → d n < f → depthF l f n k = ((k + d n : Nat) : Int)
  | 0, n, k, hn, hd => by omega
  | f + 1, n, k, hn, hd => by
    have hn' := inB_eq.1 hn
    unfold depthF
    rw [if_neg (by omega), if_pos hn]
    show depthF l f (nodeAt l n).up (k + 1) = _
    by_cases h0 : (nodeAt l n).up = 0
    · have h1 := h.root n hn h0
      obtain ⟨g, rfl⟩ : ∃ g, f = g + 1 := ⟨f - 1, by omega⟩
      rw [h0, h1]
      unfold depthF
      rw [if_pos rfl]
    · obtain ⟨h1, h2, h3⟩ := h.next n hn h0
      rw [depthF_deep h f _ (k + 1) h1 (by omega), h2]
      congr 1
      omega
theorem Deep.dep {l : List Node} {d : Int → Nat} (h : Deep l d) {n : Int} (hn : inB n 1 l.length = true) : dep l n = (d n : Int) := by
  have := h.le hn
  unfold Go.Proofs.Ythffgbhphjkdeaa.dep
  rw [depthF_deep h _ n 0 hn (by omega), Nat.zero_add]
/-- A valid tree has such depths. -/
theorem ok_deep {l : List Node} (hv : treeOk l = true) : Deep l (fun n => (dep l n).toNat) where
  root := fun n hn h0 => by
    obtain ⟨k, x, rfl, hk, hx, e⟩ := node_get hn
    rw [e] at h0
    rw [dep_root hx h0 (by omega)]; rfl
  next := fun n hn h0 => by
    obtain ⟨k, x, rfl, hk, hx, e⟩ := node_get hn
    rw [e] at h0 ⊢
    have hd := (ok_node hv hx).2.1
    obtain ⟨ku, hu, hku⟩ := depth_up hx (inB_eq.2 hd) h0
    have hub : inB x.up 1 l.length = true := by rw [hu]; exact inB_true (by omega) (by omega)
    have hu2 := List.getElem?_eq_getElem hku
    have hd2 := (ok_node hv hu2).2.1
    rw [← hu] at hd2
    have := dep_up hx h0 (by omega)
    exact ⟨hub, by omega, by omega⟩
theorem ok_dep {l : List Node} (hv : treeOk l = true) {n : Int} (hn : inB n 1 l.length = true) : 1 ≤ dep l n ∧ dep l n ≤ 4 ∧ dep l n ≤ l.length := by
  obtain ⟨k, x, rfl, hk, hx, e⟩ := node_get hn
  have hd := (ok_node hv hx).2.1
  have := (ok_deep hv).le hn
  exact ⟨hd.1, hd.2, by omega⟩

/-! ### Who is under whom -/
/-- top is above n, within f steps. -/
def isUnderF (l : List Node) : Nat → Int → Int → Bool
  | 0, _, _ => false
  | f + 1, n, top => decide ((nodeAt l n).up ≠ 0) && (decide ((nodeAt l n).up = top) || isUnderF l f (nodeAt l n).up top)
def isUnder (l : List Node) (n top : Int) : Bool := inB top 1 l.length && inB n 1 l.length && isUnderF l 5 n top
theorem isUnderF_le {l : List Node} {d : Int → Nat} (h : Deep l d) : ∀ (f g : Nat) (n top : Int), inB n 1 l.length = true → d n ≤ f → d n ≤ g → isUnderF l f n top = isUnderF l g n top
  | 0, _, n, top, hn, h1, _ => by have := h.pos hn; omega
  | _, 0, n, top, hn, _, h1 => by have := h.pos hn; omega
  | f + 1, g + 1, n, top, hn, h1, h2 => by
    unfold isUnderF
    by_cases h0 : (nodeAt l n).up = 0
    · simp [h0]
    · obtain ⟨h3, h4, h5⟩ := h.next n hn h0
      rw [isUnderF_le h f g _ top h3 (by omega) (by omega)]
/-- One step up. -/
theorem isUnder_up {l : List Node} (hv : treeOk l = true) {n top : Int} (hn : inB n 1 l.length = true) (ht : inB top 1 l.length = true) (h0 : (nodeAt l n).up ≠ 0) :
    isUnder l n top = (decide ((nodeAt l n).up = top) || isUnder l (nodeAt l n).up top) := by
  have hd := ok_deep hv
  obtain ⟨h1, h2, h3⟩ := hd.next n hn h0
  have := ok_dep hv hn
  have := ok_dep hv h1
  unfold isUnder
  rw [hn, ht, h1]
  show isUnderF l 5 n top = (_ || isUnderF l 5 _ top)
  rw [isUnderF_le hd 5 4 (nodeAt l n).up top h1 (by omega) (by omega)]
  show (decide _ && (_ || _)) = _
  rw [decide_eq_true h0, Bool.true_and]
theorem isUnder_root {l : List Node} {n top : Int} (h0 : (nodeAt l n).up = 0) : isUnder l n top = false := by
  unfold isUnder
  show (_ && isUnderF l (4 + 1) n top) = false
  unfold isUnderF
  simp [h0]
theorem isUnder_out {l : List Node} {n top : Int} (h0 : inB top 1 l.length = false) : isUnder l n top = false := by
  unfold isUnder; rw [h0]; rfl
theorem isUnder_out2 {l : List Node} {n top : Int} (h0 : inB n 1 l.length = false) : isUnder l n top = false := by
  unfold isUnder; rw [h0]; simp

/-! ### The operations -/
def addNode (l : List Node) (s : Style) : List Node × Int :=
  if treeOk l && styleOk s && decide (l.length < 12) then (l ++ [⟨0, [], s, false, []⟩], l.length + 1) else (l, 0)
/-- The child put in. -/
def putKid (l : List Node) (n kid : Int) (i : Nat) : List Node :=
  (l.set (n - 1).toNat { nodeAt l n with kids := (nodeAt l n).kids.take i ++ [kid] ++ (nodeAt l n).kids.drop i }).set (kid - 1).toNat { nodeAt l kid with up := n }
def insertKid (l : List Node) (n kid i : Int) : List Node × Int :=
  if !treeOk l || !inB n 1 l.length || !inB kid 1 l.length then (l, 1)
  else if decide (kid = n) || isUnder l n kid then (l, 2)
  else if decide ((nodeAt l kid).up ≠ 0) || !inB i 0 (nodeAt l n).kids.length then (l, 3)
  else if (nodeAt l n).measured then (l, 6)
  else if treeOk (putKid l n kid i.toNat) then (putKid l n kid i.toNat, 0) else (l, 7)
def putTable (l : List Node) (n : Int) (r : List Rule) : List Node := l.set (n - 1).toNat { nodeAt l n with measured := decide (r ≠ []), rules := r }
def setTable (l : List Node) (n : Int) (r : List Rule) : List Node × Int :=
  if !treeOk l || !inB n 1 l.length then (l, 1)
  else if decide (r ≠ []) && (!tableOk r || decide ((nodeAt l n).kids ≠ [])) then (l, 6)
  else (putTable l n r, 0)

/-! ### Nodes of a tree that was changed at one place -/
theorem nodeAt_set_self {l : List Node} {n : Int} {x : Node} (hn : inB n 1 l.length = true) : nodeAt (l.set (n - 1).toNat x) n = x := by
  obtain ⟨k, y, rfl, hk, hx, e⟩ := node_get hn
  rw [show (((k + 1 : Nat) : Int) - 1).toNat = k by omega]
  exact nodeAt_of (by rw [List.getElem?_set_self hk])
theorem nodeAt_set_ne {l : List Node} {n m : Int} {x : Node} (hn : inB n 1 l.length = true) (hm : inB m 1 l.length = true) (h : m ≠ n) : nodeAt (l.set (n - 1).toNat x) m = nodeAt l m := by
  obtain ⟨k, y, rfl, hk, hx, e⟩ := node_get hn
  obtain ⟨j, z, rfl, hj, hz, e2⟩ := node_get hm
  rw [show (((k + 1 : Nat) : Int) - 1).toNat = k by omega, e2]
  exact nodeAt_of (by rw [List.getElem?_set_ne (by omega)]; exact hz)

/-! ### Validity by nodes -/
def nodeOkN (l : List Node) (n : Int) : Bool := nodeOk l (n - 1).toNat (nodeAt l n)
theorem treeOk_nodes {l : List Node} : treeOk l = true ↔ l.length ≤ 12 ∧ ∀ n, inB n 1 l.length = true → nodeOkN l n = true := by
  rw [treeOk_iff]
  refine and_congr_right fun _ => ⟨fun h n hn => ?_, fun h i x hx => ?_⟩
  · obtain ⟨k, x, rfl, hk, hx, e⟩ := node_get hn
    unfold nodeOkN
    rw [e, show (((k + 1 : Nat) : Int) - 1).toNat = k by omega]
    exact h k x hx
  · have hlt := (List.getElem?_eq_some_iff.1 hx).1
    have := h ((i + 1 : Nat) : Int) (inB_true (by omega) (by omega))
    unfold nodeOkN at this
    rwa [nodeAt_of hx, show (((i + 1 : Nat) : Int) - 1).toNat = i by omega] at this
/-- What a node's validity says. -/
structure NodeIs (l : List Node) (n : Int) : Prop where
  style : styleOk (nodeAt l n).style = true
  deep : 1 ≤ dep l n ∧ dep l n ≤ 4
  kids : ∀ y ∈ (nodeAt l n).kids, inB y 1 l.length = true ∧ (nodeAt l y).up = n
  up : (nodeAt l n).up = 0 ∨ (nodeAt l (nodeAt l n).up).kids.count n = 1
  tab : tabOk (nodeAt l n) = true
theorem nodeOkN_iff {l : List Node} {n : Int} (hn : inB n 1 l.length = true) : nodeOkN l n = true ↔ NodeIs l n := by
  obtain ⟨k, x, rfl, hk, hx, e⟩ := node_get hn
  unfold nodeOkN
  rw [show (((k + 1 : Nat) : Int) - 1).toNat = k by omega, e]
  unfold nodeOk
  simp only [Bool.and_eq_true, List.all_eq_true]
  have h4 : upOk l k x = true ↔ (x.up = 0 ∨ (nodeAt l x.up).kids.count ((k + 1 : Nat) : Int) = 1) := by
    unfold upOk nodeAt
    simp only [Bool.or_eq_true, decide_eq_true_eq]
  have h3 : ∀ y, kidOk l k y = true ↔ (inB y 1 l.length = true ∧ (nodeAt l y).up = ((k + 1 : Nat) : Int)) := fun y => by
    unfold kidOk nodeAt
    simp only [Bool.and_eq_true, decide_eq_true_eq]
  have h2 : inB (depthF l (l.length + 1) ((k + 1 : Nat) : Int) (0 : Nat)) 1 4 = true ↔ (1 ≤ dep l ((k + 1 : Nat) : Int) ∧ dep l ((k + 1 : Nat) : Int) ≤ 4) := inB_eq
  constructor
  · rintro ⟨⟨⟨⟨a, b⟩, c⟩, d⟩, f⟩
    exact ⟨by rw [e]; exact a, h2.1 b, fun y hy => (h3 y).1 (c y (by rw [e] at hy; exact hy)), by rw [e]; exact h4.1 d, by rw [e]; exact f⟩
  · rintro ⟨a, b, c, d, f⟩
    rw [e] at a c d f
    exact ⟨⟨⟨⟨a, h2.2 b⟩, fun y hy => (h3 y).2 (c y hy)⟩, h4.2 d⟩, f⟩
theorem ok_is {l : List Node} (hv : treeOk l = true) {n : Int} (hn : inB n 1 l.length = true) : NodeIs l n := (nodeOkN_iff hn).1 ((treeOk_nodes.1 hv).2 n hn)
end Go.Proofs.Ythffgbhphjkdeaa
namespace Go.Proofs.Ythffgbhphjkdeaa
open Go.RowKit

/-- Only block g may turn, from the cells c to the cells c'. -/
def TP (g T : Nat) (c c' : List Value) (w w' : World) : Prop := Mod (fun k => k = g ∧ w.heap[k]? = some (.cells c.toArray T (0, 0)) ∧ w'.heap[k]? = some (.cells c'.toArray T (0, 0))) w w'
structure Near (W : World) (R : Rg W) (L : List Blk) (O : List Own) (E : List Res) (g : Nat) : Prop where
  new : R.q g ∨ W.heap.size ≤ g
  blk : ∀ b ∈ L, b.g ≠ g
  own : ∀ o ∈ O, o.v.ownBlock ≠ some g
  res : ∀ F ∈ E, ¬ F.foot g
/-- Block g holds c', told of operation ks. -/
def PV (g T : Nat) (c' : List Value) (_ : Nat → Value) (w : World) (_ : Value) : Prop := w.heap[g]? = some (.cells c'.toArray T (0, 0))
section
variable {P : Program} {n : Nat} {W : World} {R : Rg W} {L : List Blk} {O : List Own} {E : List Res} {w w' : World} {g T : Nat} {c c' : List Value}
theorem PV.keep {x : Nat → Value} {v : Value} (h : PV g T c' x w v) (hm : TP g T c c' w w') : PV g T c' x w' v := by
  unfold PV at *
  by_cases hs : g = g ∧ w.heap[g]? = some (.cells c.toArray T (0, 0)) ∧ w'.heap[g]? = some (.cells c'.toArray T (0, 0))
  · exact hs.2.2
  · rw [hm.block _ (Array.getElem?_eq_some_iff.1 h).1 hs]
    exact h
theorem Loc.erase {i : Nat} (h : Loc W R L O E w) : Loc W R (L.eraseIdx i) O E w where
  mod := h.mod
  inv := h.inv
  blk := fun b hb => h.blk b (List.mem_of_mem_eraseIdx hb)
  apart := h.apart.sublist (List.eraseIdx_sublist ..)
  own := fun o ho => ⟨(h.own o ho).1, fun b hb => (h.own o ho).2 b (List.mem_of_mem_eraseIdx hb)⟩
  ownApart := h.ownApart
  res := fun F hF => ⟨(h.res F hF).1, (h.res F hF).2.1, fun b hb => (h.res F hF).2.2.1 b (List.mem_of_mem_eraseIdx hb), (h.res F hF).2.2.2⟩
  resNew := h.resNew
  resApart := h.resApart
theorem Loc.near {i : Nat} (h : Loc W R L O E w) (hi : L[i]? = some ⟨g, c, T⟩) : Near W R (L.eraseIdx i) O E g := by
  have hm : (⟨g, c, T⟩ : Blk) ∈ L := List.mem_iff_getElem?.2 ⟨i, hi⟩
  refine ⟨(h.blk _ hm).1, fun b hb => ?_, fun o ho => (h.own o ho).2 _ hm, fun F hF => (h.res F hF).2.2.1 _ hm⟩
  obtain ⟨j, hj, hb⟩ := List.mem_eraseIdx_iff_getElem?.1 hb
  exact fun e => (pairwise_ne_of (fun _ _ h e => h e.symm) h.apart hb hi hj) e
theorem Loc.keepP (hf : Near W R L O E g) (h : Loc W R L O E w) {S : Nat → Prop} (hS : ∀ k, S k → k = g) (hm : Mod S w w') : Loc W R L O E w' :=
  h.frame hm (fun k hk hs => by have := hS k hs; subst this; rcases hf.new with h1 | h1; exact h1; omega) (fun b hb hs => hf.blk b hb (hS _ hs)) (fun o ho k hk hs => by have := hS k hs; subst this; exact hf.own o ho hk) (fun F hF k hk hs => by have := hS k hs; subst this; exact hf.res F hF hk)
theorem Loc.addP (hf : Near W R L O E g) (h : Loc W R L O E w) (hb : w.heap[g]? = some (.cells c'.toArray T (0, 0))) : Loc W R (⟨g, c', T⟩ :: L) O E w where
  mod := h.mod
  inv := h.inv
  blk := fun b hbm => by
    rcases List.mem_cons.1 hbm with rfl | hbm
    · exact ⟨hf.new, hb⟩
    · exact h.blk b hbm
  apart := List.pairwise_cons.2 ⟨fun b hbm e => hf.blk b hbm e.symm, h.apart⟩
  own := fun o ho => ⟨(h.own o ho).1, fun b hbm e => by
    rcases List.mem_cons.1 hbm with rfl | hbm
    · exact hf.own o ho e
    · exact (h.own o ho).2 b hbm e⟩
  ownApart := h.ownApart
  res := fun F hF => ⟨(h.res F hF).1, (h.res F hF).2.1, fun b hbm f => by
    rcases List.mem_cons.1 hbm with rfl | hbm
    · exact hf.res F hF f
    · exact (h.res F hF).2.2.1 b hbm f, (h.res F hF).2.2.2⟩
  resNew := h.resNew
  resApart := h.resApart
/-- Block g holds c or c'. -/
def Either (g T : Nat) (c c' : List Value) (w : World) : Prop := w.heap[g]? = some (.cells c.toArray T (0, 0)) ∨ w.heap[g]? = some (.cells c'.toArray T (0, 0))
theorem Either.keep (h : Either g T c c' w) (hm : Mod (fun _ => False) w w') : Either g T c c' w' := by
  rcases h with h | h
  · exact .inl (hm.blk h (fun f => f))
  · exact .inr (hm.blk h (fun f => f))
structure SXp (P : Program) (n : Nat) (W : World) (R : Rg W) (ops : Array Oper) (L : List Blk) (O : List Own) (E : List Res) (g T : Nat) (c c' : List Value) (k : Nat) (U : List (Nat × ((Nat → Value) → World → Value → Prop))) (f : List (Nat × Value)) (l : List Oper) (Q : Exit → Act → World → Prop) : Prop where
  run : ∀ F : Act, Fr n f F → RS P ops (TP g T c c') (fun w => Loc W R L O E w ∧ Either g T c c' w) Q k l (fun _ => F) U
end
section
variable {P : Program} {n : Nat} {W : World} {R : Rg W} {L L' : List Blk} {O : List Own} {E : List Res} {U : List (Nat × ((Nat → Value) → World → Value → Prop))} {f : List (Nat × Value)} {Q : Exit → Act → World → Prop} {ops : Array Oper} {rest : List Oper} {k g T : Nat} {c c' : List Value}
theorem SX.drawnP {id : Nat} {l : List Oper} (i : Nat) (c' : List Value) (hi : L[i]? = some ⟨g, c, T⟩) (hL : L.eraseIdx i = L') (hm : P.follows .mixedOrders = true) (hc : regOk l.toArray = true) (h : Near W R L' O E g → SXp P n W R l.toArray L' O E g T c c' 0 [] f l Q) : SX P n W R L O E f (.region id l.toArray true) Q := ⟨fun a w hf hl => by
  subst hL
  exact wp_region_rs (fun w' => Loc W R (L.eraseIdx i) O E w' ∧ Either g T c c' w') (TP g T c c') hm hc ⟨(hl.erase).keep ((Mod.refl _ w).drew), .inl ((hl.keep ((Mod.refl _ w).drew)).blk _ (List.mem_iff_getElem?.2 ⟨i, hi⟩)).2⟩ ((h (hl.near hi)).run _ hf)⟩
theorem SXp.v {o : Oper} {v : Value} {d : Nat} (hr : OpW P n W R L O E f o v) (hdst : o.dst = some d) (hw : wantO ops f o = some true) (hd : Nat.blt d n = true) (h : SXp P n W R ops L O E g T c c' (k + 1) U ((d, v) :: f) rest Q) : SXp P n W R ops L O E g T c c' k U f (o :: rest) Q := ⟨fun F hF =>
  RS.val [] (fun _ => v) rfl (fun _ _ _ => rfl) (fun _ => wanted_of hF hw) (fun _ w hS _ => wp_never (hr.run _ w hF hS.1) fun _ _ ⟨h1, h2⟩ => ⟨h1, ⟨hS.1.keep h2, hS.2.keep h2⟩, h2.mono fun _ _ f => f.elim⟩) (by rw [hdst]; exact h.run _ (hF.put hd v))⟩
theorem SXp.no {o : Oper} {d : Nat} (hw : wantO ops f o = some false) (hdst : o.dst = some d) (hd : Nat.blt d n = true) (h : SXp P n W R ops L O E g T c c' (k + 1) U ((d, undef) :: f) rest Q) : SXp P n W R ops L O E g T c c' k U f (o :: rest) Q := ⟨fun F hF =>
  RS.skip (fun _ => wanted_of hF hw) (by rw [hdst]; exact h.run _ (hF.put hd undef))⟩
variable {d m o T' : Nat} {xo yo : Operand} {ty : TypeId} {pos : String} {af : Array Edge} {gd : Option (Nat × Bool)} {v : Value}
theorem SXp.skips {o : Oper} (hf : Near W R L O E g) (hw : wantO ops f o = some true) (hdst : o.dst = none)
    (hrun : ∀ a w, Fr n f a → Either g T c c' w → ∃ w', (execOp a.eval o).run P w = .ok .skip w' ∧ w'.heap[g]? = some (.cells c'.toArray T (0, 0)) ∧ Mod (fun k => k = g) w w')
    (h : SXp P n W R ops L O E g T c c' (k + 1) ((k, PV g T c') :: U) f rest Q) : SXp P n W R ops L O E g T c c' k U f (o :: rest) Q := ⟨fun F hF =>
  RS.newx [] (PV g T c') id (fun _ _ _ _ => rfl) rfl ⟨fun _ _ _ _ h hm => h.keep hm, fun _ _ _ _ _ h => h⟩ (fun _ => wanted_of hF hw) (fun x w hS _ => by
    obtain ⟨w', h1, h2, h3⟩ := hrun F w hF hS.2
    have hT : TP g T c c' w w' := by
      rcases hS.2 with hc | hc
      · exact h3.mono fun k _ e => by subst e; exact ⟨rfl, hc, h2⟩
      · exact ⟨h3.os, h3.tape, h3.output, h3.size, fun k hk hn => by
          by_cases e : k = g
          · subst e; rw [h2, hc]
          · exact h3.block k hk e⟩
    unfold Oper.wp
    rw [h1, Oper.upon_skip, hdst]
    exact ⟨undef, rfl, h2, ⟨Loc.keepP hf hS.1 (fun k hk => hk) h3, .inr h2⟩, hT⟩) (by rw [hdst]; exact h.run _ hF)⟩
theorem SXp.store [TOne P T'] (hf : Near W R L O E g) (hw : wantO ops f ⟨none, .store T' xo yo, ty, pos, af, gd⟩ = some true) (hx : evO f xo = some (.pointer (some ⟨g, o, none⟩))) (hy : evO f yo = some v) (ho : Nat.blt o c.length = true) (hv : v.oneCell' = true) (hc : c.set o v = c')
    (h : SXp P n W R ops L O E g T c c' (k + 1) ((k, PV g T c') :: U) f rest Q) : SXp P n W R ops L O E g T c c' k U f (⟨none, .store T' xo yo, ty, pos, af, gd⟩ :: rest) Q :=
  SXp.skips hf hw rfl (fun a w hF hE => by
    have ho' : o < c.length := by simpa using ho
    have key : ∀ cs : List Value, cs.length = c.length → cs.set o v = c' → w.heap[g]? = some (.cells cs.toArray T (0, 0)) → ∃ w', (execOp a.eval ⟨none, .store T' xo yo, ty, pos, af, gd⟩).run P w = .ok .skip w' ∧ w'.heap[g]? = some (.cells c'.toArray T (0, 0)) ∧ Mod (fun k => k = g) w w' := fun cs hl hs hb => by
      obtain ⟨u, hu⟩ : ∃ u, cs[o]? = some u := ⟨_, List.getElem?_eq_getElem (by omega)⟩
      have h1 : w.cell? ⟨g, o, none⟩ = some u := by simp [World.cell?, hb, hu]
      have h2 : w.frozen? ⟨g, o, none⟩ = false := by simp [World.frozen?, hb]
      refine ⟨w.setCell ⟨g, o, none⟩ v, by simp [execOp, hF.eval hx, hF.eval hy, run_store1 h1 h2 hv], ?_, (Mod.refl _ w).setAt _ _ _⟩
      rw [← hs]
      simp [World.setCell, Array.getElem?_modify, hb]
    rcases hE with hE | hE
    · exact key c rfl hc hE
    · exact key c' (by rw [← hc, List.length_set]) (by rw [← hc, List.set_set]) hE) h
theorem over_over : ∀ (r c : List Value) (o : Nat), over (over c o r) o r = over c o r
  | [], _, _ => rfl
  | v :: r, c, o => by
    have comm : ∀ (r c : List Value) (p q : Nat) (u : Value), q < p → over (c.set q u) p r = (over c p r).set q u := by
      intro r
      induction r with
      | nil => intros; rfl
      | cons y r ih =>
        intro c p q u h
        simp only [over]
        rw [List.set_comm _ _ (by omega), ih _ _ _ _ (by omega)]
    simp only [over]
    rw [comm r _ _ _ _ (Nat.lt_succ_self o), comm r _ _ _ _ (Nat.lt_succ_self o), comm r _ _ _ _ (Nat.lt_succ_self o), over_over r, List.set_set]
theorem over_len : ∀ (r c : List Value) (o : Nat), (over c o r).length = c.length
  | [], _, _ => rfl
  | v :: r, c, o => by simp only [over]; rw [over_len, List.length_set]
theorem SXp.storeRow {r : List Value} [t : TRow P T' m] (hf : Near W R L O E g) (hw : wantO ops f ⟨none, .store T' xo yo, ty, pos, af, gd⟩ = some true) (hx : evO f xo = some (.pointer (some ⟨g, o, none⟩))) (hy : evO f yo = some (.agg r.toArray)) (ho : Nat.ble (o + m) c.length = true) (hm : r.length = m) (hv : r.all (·.oneCell') = true) (hc : over c o r = c')
    (h : SXp P n W R ops L O E g T c c' (k + 1) ((k, PV g T c') :: U) f rest Q) : SXp P n W R ops L O E g T c c' k U f (⟨none, .store T' xo yo, ty, pos, af, gd⟩ :: rest) Q :=
  SXp.skips hf hw rfl (fun a w hF hE => by
    have ho' : o + m ≤ c.length := Nat.le_of_ble_eq_true ho
    obtain ⟨_, h3⟩ := t.h
    have key : ∀ cs : List Value, cs.length = c.length → over cs o r = c' → w.heap[g]? = some (.cells cs.toArray T (0, 0)) → ∃ w', (execOp a.eval ⟨none, .store T' xo yo, ty, pos, af, gd⟩).run P w = .ok .skip w' ∧ w'.heap[g]? = some (.cells c'.toArray T (0, 0)) ∧ Mod (fun k => k = g) w w' := fun cs hl hs hb => by
      have e := run_store_row (P := P) (ty := T') h3 (w := w) (b := g) (o := o) (S := r.toArray) (by simp [hasRow, hb]; omega) (by simp [openRow, hb]) (by simpa using hm) (by simpa using hv)
      refine ⟨w.setCells g o r, by simp [execOp, hF.eval hx, hF.eval hy, e], ?_, mod_setCells g r o w⟩
      rw [setCells_heap g r o w _ _ _ hb, spl_over, hs]
    rcases hE with hE | hE
    · exact key c rfl hc hE
    · exact key c' (by rw [← hc, over_len]) (by rw [← hc, over_over]) hE) h
theorem SXp.nil (ks : Nat) (hf : Near W R L O E g) (hS : (ks, PV g T c') ∈ U) (h : SQ n W R (⟨g, c', T⟩ :: L) O E f .normal Q) : SXp P n W R ops L O E g T c c' k U f [] Q := ⟨fun F hF => RS.done fun x w hSw hU =>
  h.run _ w hF (Loc.addP hf hSw.1 (hU _ hS))⟩
theorem SXp.tail (ks : Nat) (hf : Near W R L O E g) (hS : (ks, PV g T c') ∈ U) (h : SXl P n W R ops (⟨g, c', T⟩ :: L) O E f rest Q) : SXp P n W R ops L O E g T c c' k U f [] (fun _ a w => wpList P ops Q rest a w) := ⟨fun F hF => RS.done fun x w hSw hU =>
  h.run _ w hF (Loc.addP hf hSw.1 (hU _ hS))⟩
end
end Go.Proofs.Ythffgbhphjkdeaa
