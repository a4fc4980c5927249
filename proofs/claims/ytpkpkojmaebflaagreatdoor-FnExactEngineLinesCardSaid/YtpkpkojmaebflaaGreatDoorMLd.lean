/-
  PROVED: contracts of functions and words on memory, several texts put together: what each says stands at its theorems. Conditions: as told there.
-/
import Derived.Test.YtpkpkojmaebflaaGreatDoorMLc
import Derived.Lib.ItoaMem
import Derived.Lib.ItoaLen
import Derived.Lib.ConvBytes
import Derived.Test.YtpkpkojmaebflaaGreatDoorShelf
import Derived.Lib.JoinSame
import Derived.Laws.IdiomStrings
import Derived.Test.YtpkpkojmaebflaaGreatDoorChecked
import Derived.Deep.RegionHeld3
import Derived.Deep.QuietTactic
import Derived.BigQuiet
import Derived.Outline
import Derived.StillTailTactics
import Derived.WalkLawsBesides
set_option linter.unusedVariables false
set_option linter.unusedSimpArgs false
namespace Go.Proofs.YtpkpkojmaebflaaGreatDoor
open Go.RowKit
set_option linter.unusedVariables false
set_option linter.unusedSimpArgs false

set_option maxRecDepth 100000 in
set_option maxHeartbeats 16000000 in
theorem streeOk_any (l : List Node) (o : Bool) (a : Option Addr) (c : Nat) (R : Nat → Prop) (w : World) (hlen : l.length ≤ 1048576) (hfit : ∀ x ∈ l, x.fits 1048576) (h : NodeSlice o R w a l) :
    Calls Tryz.prog 37 #[.agg #[.slice a l.length c]] w fun e w' => e = .returned (.bool (treeOk l)) ∧ Mod (fun _ => False) w w' := by
  refine calls_sx Tryz.func37 rfl rfl (fun a h1 h2 h3 => ((Fr.nil h1 h2).arg (h3 0 _ rfl))) ?_
  by_cases hn : l.length ≤ 12
  rotate_left
  · repeat (first | refine SX.seq ?_ | refine SXl.nil ?_ | refine SX.region ?_ | refine SQ.thenNormal ?_ | refine SX.condT rfl ?_ | (refine l_load ?_; (refine SXl.v (OpW.load 0 rfl rfl rfl) rfl ?_ ?_ ?_); rfl; rfl) | (refine l_fieldAddr ?_; (refine SXl.v (OpW.fieldAddr rfl) rfl ?_ ?_ ?_); rfl; rfl) | (refine l_assign ?_; (refine SXl.v (OpW.assign rfl) rfl ?_ ?_ ?_); rfl; rfl) | (refine l_len ?_; (refine SXl.v (OpW.len rfl) rfl ?_ ?_ ?_); rfl; rfl) | (refine l_gtr ?_; (refine SXl.v (OpW.gtrT rfl rfl (by omega)) rfl ?_ ?_ ?_); rfl; rfl) | (refine l_box ?_; refine SXl.box ?_ ?_ rfl rfl (fun g => ?_); rfl; rfl) | refine SX.ret ?_ | refine SQ.thenRet ?_)
    refine SQ.body1 rfl rfl (fun w' hl => ⟨by rw [treeOk_long hn], hl.mod⟩)
  repeat (first | refine SX.seq ?_ | refine SXl.nil ?_ | refine SX.region ?_ | refine SQ.thenNormal ?_ | refine SX.block ?_ | refine SX.skip ?_ | refine SX.condF rfl ?_ | (refine l_load ?_; (refine SXl.v (OpW.load 0 rfl rfl rfl) rfl ?_ ?_ ?_); rfl; rfl) | (refine l_fieldAddr ?_; (refine SXl.v (OpW.fieldAddr rfl) rfl ?_ ?_ ?_); rfl; rfl) | (refine l_assign ?_; (refine SXl.v (OpW.assign rfl) rfl ?_ ?_ ?_); rfl; rfl) | (refine l_len ?_; (refine SXl.v (OpW.len rfl) rfl ?_ ?_ ?_); rfl; rfl) | (refine l_gtr ?_; (refine SXl.v (OpW.gtrF rfl rfl (by omega)) rfl ?_ ?_ ?_); rfl; rfl) | (refine l_box ?_; refine SXl.box ?_ ?_ rfl rfl (fun g => ?_); rfl; rfl))
  revert g; intro gt
  refine SX.loopi (fun k : Nat => k ≤ l.length ∧ ∀ i x, i < k → l[i]? = some x → nodeOk l i x = true) (fun k => l.length - k) (fun _ => [⟨gt, [.slice a l.length c], 37⟩]) (fun _ => []) (fun _ => []) (fun k => [(1, .pointer (some ⟨gt, 0, none⟩)), (3, .int .i64 k)]) 0 ⟨Nat.zero_le _, fun i x h => absurd h (Nat.not_lt_zero _)⟩ ?_ (fun _ hl => hl) ?_
  · (repeat (first | exact subF_nil _ | (refine subF_cons rfl ?_) | (refine subF_consv rfl (by rfl) ?_)))
  rintro k ⟨hk, hs⟩
  by_cases hlt : k < l.length
  rotate_left
  · repeat (first | refine SX.seq ?_ | refine SXl.nil ?_ | refine SX.region ?_ | refine SQ.thenNormal ?_ | refine SX.condF rfl ?_ | (refine l_load ?_; (refine SXl.v (OpW.load 0 rfl rfl rfl) rfl ?_ ?_ ?_); rfl; rfl) | (refine l_fieldAddr ?_; (refine SXl.v (OpW.fieldAddr rfl) rfl ?_ ?_ ?_); rfl; rfl) | (refine l_move ?_; (refine SXl.v (OpW.move rfl) rfl ?_ ?_ ?_); rfl; rfl) | (refine l_assign ?_; (refine SXl.v (OpW.assign rfl) rfl ?_ ?_ ?_); rfl; rfl) | (refine l_len ?_; (refine SXl.v (OpW.len rfl) rfl ?_ ?_ ?_); rfl; rfl) | (refine l_lss ?_; (refine SXl.v (OpW.lssF rfl rfl (by omega)) rfl ?_ ?_ ?_); rfl; rfl) | refine SX.ret ?_ | refine SX.exit ?_ | refine SQ.thenExit ?_ | refine SQ.blockExit ?_)
    refine SQ.body1 rfl rfl (fun w' hl => ⟨by rw [treeOk_all hn hs (by omega)], hl.mod⟩)
  obtain ⟨b1, o1, ⟨up, kids, st, me, ru⟩, r1, rfl, hR1, hb1, hxk, hr1, hl1, hc1⟩ := h.get hlt
  obtain ⟨ka, kc, ra, rc, rfl, hk1, ht1, _⟩ := hr1
  replace hxk := hxk.out
  have hfx := hfit _ (List.mem_of_getElem? hxk)
  have hf1 : kids.length ≤ 1048576 := hfx.1
  have hf2 : ru.length ≤ 1048576 := hfx.2
  clear hfx
  simp only at hc1 hk1 ht1
  cases q1 : styleOk st
  · have hv := nodeOk_s (l := l) (i := k) (x := ⟨up, kids, st, me, ru⟩) q1
    repeat (first | refine SX.seq ?_ | refine SXl.nil ?_ | refine SX.region ?_ | refine SQ.thenNormal ?_ | refine SX.block ?_ | refine SX.skip ?_ | refine SX.condT rfl ?_ | (refine SXl.no rfl rfl rfl ?_) | (refine l_load ?_; (first | refine SXl.v (OpW.loadRowOld rfl hc1 (nodeRow_len _ _ _ _ _ _ _ _ _) (Nat.succ_pos _) (fun h => h)) rfl ?_ ?_ ?_ | refine SXl.v (OpW.loadRow (cells := nodeRow up ka kids.length kc st me ra ru.length rc) 0 rfl rfl rfl (nodeRow_style _ _ _ _ _ _ _ _ _)) rfl ?_ ?_ ?_ | refine SXl.v (OpW.load 0 rfl rfl rfl) rfl ?_ ?_ ?_ | refine SXl.v (OpW.loadAll 1 rfl rfl rfl) rfl ?_ ?_ ?_); rfl; rfl) | (refine l_call ?_; (refine SXl.v (OpW.call rfl (fun w hl => sstyleC_any _ _)) rfl ?_ ?_ ?_); rfl; rfl) | (refine l_fieldAddr ?_; (refine SXl.v (OpW.fieldAddr rfl) rfl ?_ ?_ ?_); rfl; rfl) | (refine l_move ?_; (refine SXl.v (OpW.move rfl) rfl ?_ ?_ ?_); rfl; rfl) | (refine l_assign ?_; (refine SXl.v (OpW.assign rfl) rfl ?_ ?_ ?_); rfl; rfl) | (refine l_len ?_; (refine SXl.v (OpW.len rfl) rfl ?_ ?_ ?_); rfl; rfl) | (refine l_lss ?_; (refine SXl.v (OpW.lssT rfl rfl (by omega)) rfl ?_ ?_ ?_); rfl; rfl) | (refine l_not ?_; (refine SXl.v (OpW.not rfl) rfl ?_ ?_ ?_); rfl; rfl) | (refine l_pick ?_; (refine SXl.v (OpW.pick rfl rfl rfl) rfl ?_ ?_ ?_); rfl; rfl) | (refine l_indexAddr ?_; (refine SXl.v (OpW.indexAddr (by omega) rfl rfl) rfl ?_ ?_ ?_); rfl; rfl) | (refine l_alloc ?_; refine SXl.alloc ?_ ?_ (fun g => ?_); rfl; rfl) | (refine l_store ?_; first | (refine SXl.storeAll 0 ?_ rfl rfl rfl rfl rfl rfl rfl ?_; rfl; simp only [List.set_cons_zero, List.set_cons_succ]) | (refine SXl.storeAll 1 ?_ rfl rfl rfl rfl rfl rfl rfl ?_; rfl; simp only [List.set_cons_zero, List.set_cons_succ]) | (refine SXl.storeAll 2 ?_ rfl rfl rfl rfl rfl rfl rfl ?_; rfl; simp only [List.set_cons_zero, List.set_cons_succ]) | (refine SXl.storeRow 0 ?_ rfl rfl rfl rfl rfl rfl rfl ?_; rfl; simp only [over, List.set_cons_zero, List.set_cons_succ]) | (refine SXl.storeRow 1 ?_ rfl rfl rfl rfl rfl rfl rfl ?_; rfl; simp only [over, List.set_cons_zero, List.set_cons_succ]) | (refine SXl.storeRow 2 ?_ rfl rfl rfl rfl rfl rfl rfl ?_; rfl; simp only [over, List.set_cons_zero, List.set_cons_succ])) | (rw [q1]) | refine SX.ret ?_ | refine SQ.thenRet ?_ | refine SQ.blockRet ?_)
    refine SQ.body1 rfl rfl (fun w' hl => ⟨by rw [treeOk_no hxk (hv)], hl.mod⟩)
  cases q2 : inB (depthF l (l.length + 1) ((k + 1 : Nat) : Int) (0 : Nat)) 1 4
  · have hv := nodeOk_d (x := ⟨up, kids, st, me, ru⟩) q2
    repeat (first | refine SX.seq ?_ | refine SXl.nil ?_ | refine SX.region ?_ | refine SQ.thenNormal ?_ | refine SX.block ?_ | refine SX.skip ?_ | refine SX.condT rfl ?_ | (refine SXl.no rfl rfl rfl ?_) | (refine l_load ?_; (first | refine SXl.v (OpW.loadRowOld rfl hc1 (nodeRow_len _ _ _ _ _ _ _ _ _) (Nat.succ_pos _) (fun h => h)) rfl ?_ ?_ ?_ | refine SXl.v (OpW.loadRow (cells := nodeRow up ka kids.length kc st me ra ru.length rc) 0 rfl rfl rfl (nodeRow_style _ _ _ _ _ _ _ _ _)) rfl ?_ ?_ ?_ | refine SXl.v (OpW.load 0 rfl rfl rfl) rfl ?_ ?_ ?_ | refine SXl.v (OpW.loadAll 1 rfl rfl rfl) rfl ?_ ?_ ?_); rfl; rfl) | (refine l_call ?_; (first | refine SXl.v (OpW.call rfl (fun w hl => sstyleC_any _ _)) rfl ?_ ?_ ?_ | refine SXl.v (OpW.call rfl (fun w hl => sdepthOf_any l _ o _ c R _ (by omega) (h.keep hl.mod))) rfl ?_ ?_ ?_ | refine SXl.v (OpW.calls rfl (fun w _ => l01In_any _ _ _ _)) rfl ?_ ?_ ?_); rfl; rfl) | (refine l_fieldAddr ?_; (refine SXl.v (OpW.fieldAddr rfl) rfl ?_ ?_ ?_); rfl; rfl) | (refine l_move ?_; (refine SXl.v (OpW.move rfl) rfl ?_ ?_ ?_); rfl; rfl) | (refine l_assign ?_; (refine SXl.v (OpW.assign rfl) rfl ?_ ?_ ?_); rfl; rfl) | (refine l_len ?_; (refine SXl.v (OpW.len rfl) rfl ?_ ?_ ?_); rfl; rfl) | (refine l_add ?_; (refine SXl.v (OpW.succ rfl rfl (by omega)) rfl ?_ ?_ ?_); rfl; rfl) | (refine l_lss ?_; (refine SXl.v (OpW.lssT rfl rfl (by omega)) rfl ?_ ?_ ?_); rfl; rfl) | (refine l_not ?_; (refine SXl.v (OpW.not rfl) rfl ?_ ?_ ?_); rfl; rfl) | (refine l_pick ?_; (refine SXl.v (OpW.pick rfl rfl rfl) rfl ?_ ?_ ?_); rfl; rfl) | (refine l_indexAddr ?_; (refine SXl.v (OpW.indexAddr (by omega) rfl rfl) rfl ?_ ?_ ?_); rfl; rfl) | (refine l_alloc ?_; refine SXl.alloc ?_ ?_ (fun g => ?_); rfl; rfl) | (refine l_store ?_; first | (refine SXl.storeAll 0 ?_ rfl rfl rfl rfl rfl rfl rfl ?_; rfl; simp only [List.set_cons_zero, List.set_cons_succ]) | (refine SXl.storeAll 1 ?_ rfl rfl rfl rfl rfl rfl rfl ?_; rfl; simp only [List.set_cons_zero, List.set_cons_succ]) | (refine SXl.storeAll 2 ?_ rfl rfl rfl rfl rfl rfl rfl ?_; rfl; simp only [List.set_cons_zero, List.set_cons_succ]) | (refine SXl.storeRow 0 ?_ rfl rfl rfl rfl rfl rfl rfl ?_; rfl; simp only [over, List.set_cons_zero, List.set_cons_succ]) | (refine SXl.storeRow 1 ?_ rfl rfl rfl rfl rfl rfl rfl ?_; rfl; simp only [over, List.set_cons_zero, List.set_cons_succ]) | (refine SXl.storeRow 2 ?_ rfl rfl rfl rfl rfl rfl rfl ?_; rfl; simp only [over, List.set_cons_zero, List.set_cons_succ])) | ((first | rw [q1] | rw [q2])) | refine SX.ret ?_ | refine SQ.thenRet ?_ | refine SQ.blockRet ?_)
    refine SQ.body1 rfl rfl (fun w' hl => ⟨by rw [treeOk_no hxk (hv)], hl.mod⟩)
  by_cases u0 : up = 0
  · subst u0
    have hup : upOk l k ⟨0, kids, st, me, ru⟩ = true := rfl
    repeat (first | refine SX.seq ?_ | refine SXl.nil ?_ | refine SX.region ?_ | refine SQ.thenNormal ?_ | refine SX.block ?_ | refine SX.skip ?_ | refine SX.condT rfl ?_ | refine SX.condF rfl ?_ | (refine SXl.no rfl rfl rfl ?_) | (refine l_load ?_; (first | refine SXl.v (OpW.loadRowOld rfl hc1 (nodeRow_len _ _ _ _ _ _ _ _ _) (Nat.succ_pos _) (fun h => h)) rfl ?_ ?_ ?_ | refine SXl.v (OpW.load 0 rfl rfl rfl) rfl ?_ ?_ ?_ | refine SXl.v (OpW.loadAll 1 rfl rfl rfl) rfl ?_ ?_ ?_ | refine SXl.v (OpW.loadRow 0 rfl rfl rfl rfl) rfl ?_ ?_ ?_); rfl; rfl) | (refine l_call ?_; (first | refine SXl.v (OpW.call rfl (fun w hl => sstyleC_any _ _)) rfl ?_ ?_ ?_ | refine SXl.v (OpW.call rfl (fun w hl => sdepthOf_any l _ o _ c R _ (by omega) (h.keep hl.mod))) rfl ?_ ?_ ?_ | refine SXl.v (OpW.calls rfl (fun w _ => l01In_any _ _ _ _)) rfl ?_ ?_ ?_); rfl; rfl) | (refine l_fieldAddr ?_; (refine SXl.v (OpW.fieldAddr rfl) rfl ?_ ?_ ?_); rfl; rfl) | (refine l_move ?_; (refine SXl.v (OpW.move rfl) rfl ?_ ?_ ?_); rfl; rfl) | (refine l_assign ?_; (refine SXl.v (OpW.assign rfl) rfl ?_ ?_ ?_); rfl; rfl) | (refine l_len ?_; (refine SXl.v (OpW.len rfl) rfl ?_ ?_ ?_); rfl; rfl) | (refine l_add ?_; (refine SXl.v (OpW.succ rfl rfl (by omega)) rfl ?_ ?_ ?_); rfl; rfl) | (refine l_lss ?_; (refine SXl.v (OpW.lssT rfl rfl (by omega)) rfl ?_ ?_ ?_); rfl; rfl) | (refine l_neq ?_; (refine SXl.v (OpW.neqF rfl rfl (by omega)) rfl ?_ ?_ ?_); rfl; rfl) | (refine l_not ?_; (refine SXl.v (OpW.not rfl) rfl ?_ ?_ ?_); rfl; rfl) | (refine l_pick ?_; (refine SXl.v (OpW.pick rfl rfl rfl) rfl ?_ ?_ ?_); rfl; rfl) | (refine l_indexAddr ?_; (refine SXl.v (OpW.indexAddr (by omega) rfl rfl) rfl ?_ ?_ ?_); rfl; rfl) | (refine l_alloc ?_; refine SXl.alloc ?_ ?_ (fun g => ?_); rfl; rfl) | (refine l_store ?_; first | (refine SXl.storeAll 0 ?_ rfl rfl rfl rfl rfl rfl rfl ?_; rfl; simp only [List.set_cons_zero, List.set_cons_succ]) | (refine SXl.storeAll 1 ?_ rfl rfl rfl rfl rfl rfl rfl ?_; rfl; simp only [List.set_cons_zero, List.set_cons_succ]) | (refine SXl.storeAll 2 ?_ rfl rfl rfl rfl rfl rfl rfl ?_; rfl; simp only [List.set_cons_zero, List.set_cons_succ]) | (refine SXl.storeRow 0 ?_ rfl rfl rfl rfl rfl rfl rfl ?_; rfl; simp only [over, List.set_cons_zero, List.set_cons_succ]) | (refine SXl.storeRow 1 ?_ rfl rfl rfl rfl rfl rfl rfl ?_; rfl; simp only [over, List.set_cons_zero, List.set_cons_succ]) | (refine SXl.storeRow 2 ?_ rfl rfl rfl rfl rfl rfl rfl ?_; rfl; simp only [over, List.set_cons_zero, List.set_cons_succ])) | ((first | rw [q1] | rw [q2])))
    refine SX.loopi (fun j : Nat => j ≤ kids.length ∧ ∀ i y, i < j → kids[i]? = some y → kidOk l k y = true) (fun j => kids.length - j) (fun _ => [⟨g, nodeRow 0 ka kids.length kc st me ra ru.length rc, 85⟩, ⟨gt, [.slice (some ⟨b1, o1, none⟩) l.length c], 37⟩]) (fun _ => []) (fun _ => []) (fun j => [(1, .pointer (some ⟨gt, 0, none⟩)), (4, .pointer (some ⟨g, 0, none⟩)), (3, .int .i64 k), (5, .int .i64 j)]) 0 ⟨Nat.zero_le _, fun i x h => absurd h (Nat.not_lt_zero _)⟩ ?_ (fun _ hl => hl) ?_
    · (repeat (first | exact subF_nil _ | (refine subF_cons rfl ?_) | (refine subF_consv rfl (by rfl) ?_)))
    rintro j ⟨hj, hks⟩
    by_cases hjl : j < kids.length
    · obtain ⟨b3, o3, y, e3, hR3, hb3, hyk, hc3⟩ := IntSlice.get hk1 hjl
      subst e3
      replace hyk := hyk.out
      cases p1 : inB y 1 l.length
      · have hv := nodeOk_k (l := l) (i := k) (x := ⟨0, kids, st, me, ru⟩) hyk (by simp [kidOk, p1])
        repeat (first | refine SX.seq ?_ | refine SXl.nil ?_ | refine SX.region ?_ | refine SQ.thenNormal ?_ | refine SX.block ?_ | refine SX.skip ?_ | refine SX.condT rfl ?_ | (refine l_load ?_; (refine SXl.v (OpW.load 0 rfl rfl rfl) rfl ?_ ?_ ?_); rfl; rfl) | (refine l_fieldAddr ?_; (refine SXl.v (OpW.fieldAddr rfl) rfl ?_ ?_ ?_); rfl; rfl) | (refine l_move ?_; (refine SXl.v (OpW.move rfl) rfl ?_ ?_ ?_); rfl; rfl) | (refine l_assign ?_; (refine SXl.v (OpW.assign rfl) rfl ?_ ?_ ?_); rfl; rfl) | (refine l_len ?_; (refine SXl.v (OpW.len rfl) rfl ?_ ?_ ?_); rfl; rfl) | (refine l_lss ?_; (refine SXl.v (OpW.lssT rfl rfl (by omega)) rfl ?_ ?_ ?_); rfl; rfl) | refine SX.drawn (by kernel_rfl) (by kernel_rfl) ?_ | refine SXr.nil ?_ | (refine SXr.no rfl rfl rfl ?_) | (refine r_call ?_; (refine SXr.v (OpW.call rfl (fun w hl => sisNode_any _ _ _ _ _)) rfl ?_ ?_ ?_); rfl; rfl) | (refine r_load ?_; (first | refine SXr.v (OpW.load 0 rfl rfl rfl) rfl ?_ ?_ ?_ | refine SXr.v (OpW.loadOld rfl (by assumption) (fun h => h)) rfl ?_ ?_ ?_ | refine SXr.v (OpW.loadAll 1 rfl rfl rfl) rfl ?_ ?_ ?_); rfl; rfl) | (refine r_fieldAddr ?_; (refine SXr.v (OpW.fieldAddr rfl) rfl ?_ ?_ ?_); rfl; rfl) | (refine r_move ?_; (refine SXr.v (OpW.move rfl) rfl ?_ ?_ ?_); rfl; rfl) | (refine r_not ?_; (refine SXr.v (OpW.not rfl) rfl ?_ ?_ ?_); rfl; rfl) | (refine r_pick ?_; (refine SXr.v (OpW.pick rfl rfl rfl) rfl ?_ ?_ ?_); rfl; rfl) | (refine r_indexAddr ?_; (refine SXr.v (OpW.indexAddr1 (by omega) rfl rfl) rfl ?_ ?_ ?_); rfl; rfl) | (rw [p1]) | refine SX.ret ?_ | refine SQ.thenRet ?_ | refine SQ.blockRet ?_)
        refine SQ.body1 rfl rfl (fun w' hl => ⟨by rw [treeOk_no hxk (hv)], hl.mod⟩)
      obtain ⟨ky, rfl, hky⟩ := inB_node p1
      obtain ⟨b2, o2, z, r2, e2, hR2, hb2, hzk, hr2, hl2, hc2⟩ := h.get hky
      obtain ⟨rfl, rfl⟩ : b1 = b2 ∧ o1 = o2 := by simpa using e2
      obtain ⟨kb, kd, rb, rd, rfl, _, _, _⟩ := hr2
      have hkid : kidOk l k ((ky + 1 : Nat) : Int) = decide (z.up = ((k + 1 : Nat) : Int)) := kidOk_at p1 hzk.out
      by_cases p2 : z.up = ((k + 1 : Nat) : Int)
      · repeat (first | refine SX.seq ?_ | refine SXl.nil ?_ | refine SX.region ?_ | refine SQ.thenNormal ?_ | refine SX.block ?_ | refine SX.skip ?_ | refine SX.condT rfl ?_ | refine SX.condF rfl ?_ | (refine l_load ?_; (refine SXl.v (OpW.load 0 rfl rfl rfl) rfl ?_ ?_ ?_); rfl; rfl) | (refine l_fieldAddr ?_; (refine SXl.v (OpW.fieldAddr rfl) rfl ?_ ?_ ?_); rfl; rfl) | (refine l_move ?_; (refine SXl.v (OpW.move rfl) rfl ?_ ?_ ?_); rfl; rfl) | (refine l_assign ?_; (refine SXl.v (OpW.assign rfl) rfl ?_ ?_ ?_); rfl; rfl) | (refine l_len ?_; (refine SXl.v (OpW.len rfl) rfl ?_ ?_ ?_); rfl; rfl) | (refine l_add ?_; (refine SXl.v (OpW.succ rfl rfl (by omega)) rfl ?_ ?_ ?_); rfl; rfl) | (refine l_lss ?_; (refine SXl.v (OpW.lssT rfl rfl (by omega)) rfl ?_ ?_ ?_); rfl; rfl) | refine SX.drawn (by kernel_rfl) (by kernel_rfl) ?_ | refine SXr.nil ?_ | (refine r_call ?_; (first | refine SXr.v (OpW.call rfl (fun w hl => sisNode_any _ _ _ _ _)) rfl ?_ ?_ ?_ | refine SXr.v (OpW.call rfl (fun w hl => snode_any _ _ _ _ ky _ _ _ _ _ _ _ _ _ w (by omega) hky (fun j v hv => hl.old (hc2 j v hv) (fun h => h)))) rfl ?_ ?_ ?_); rfl; rfl) | (refine r_field ?_; (refine SXr.v (OpW.field rfl (nodeRow_a0 _ _ _ _ _ _ _ _ _)) rfl ?_ ?_ ?_); rfl; rfl) | (refine r_load ?_; (first | refine SXr.v (OpW.load 0 rfl rfl rfl) rfl ?_ ?_ ?_ | refine SXr.v (OpW.loadOld rfl (by assumption) (fun h => h)) rfl ?_ ?_ ?_ | refine SXr.v (OpW.loadAll 1 rfl rfl rfl) rfl ?_ ?_ ?_); rfl; rfl) | (refine r_fieldAddr ?_; (refine SXr.v (OpW.fieldAddr rfl) rfl ?_ ?_ ?_); rfl; rfl) | (refine r_move ?_; (refine SXr.v (OpW.move rfl) rfl ?_ ?_ ?_); rfl; rfl) | (refine r_add ?_; (refine SXr.v (OpW.succ rfl rfl (by omega)) rfl ?_ ?_ ?_); rfl; rfl) | (refine r_neq ?_; (refine SXr.v (OpW.neqF rfl rfl (by omega)) rfl ?_ ?_ ?_); rfl; rfl) | (refine r_not ?_; (refine SXr.v (OpW.not rfl) rfl ?_ ?_ ?_); rfl; rfl) | (refine r_pick ?_; (refine SXr.v (OpW.pick rfl rfl rfl) rfl ?_ ?_ ?_); rfl; rfl) | (refine r_indexAddr ?_; (refine SXr.v (OpW.indexAddr1 (by omega) rfl rfl) rfl ?_ ?_ ?_); rfl; rfl) | (rw [p1]) | refine SQ.blockNormal ?_)
        refine SQ.roundi (j + 1) ⟨by omega, pto_succ hks hyk (by rw [hkid]; exact decide_eq_true p2)⟩ (by omega) ?_ (fun _ hl => hl)
        (repeat (first | exact subF_nil _ | (refine subF_cons rfl ?_) | (refine subF_consv rfl (by rfl) ?_)))
      · have hv := nodeOk_k (l := l) (i := k) (x := ⟨0, kids, st, me, ru⟩) hyk (by rw [hkid]; exact decide_eq_false p2)
        repeat (first | refine SX.seq ?_ | refine SXl.nil ?_ | refine SX.region ?_ | refine SQ.thenNormal ?_ | refine SX.block ?_ | refine SX.skip ?_ | refine SX.condT rfl ?_ | (refine l_load ?_; (refine SXl.v (OpW.load 0 rfl rfl rfl) rfl ?_ ?_ ?_); rfl; rfl) | (refine l_fieldAddr ?_; (refine SXl.v (OpW.fieldAddr rfl) rfl ?_ ?_ ?_); rfl; rfl) | (refine l_move ?_; (refine SXl.v (OpW.move rfl) rfl ?_ ?_ ?_); rfl; rfl) | (refine l_assign ?_; (refine SXl.v (OpW.assign rfl) rfl ?_ ?_ ?_); rfl; rfl) | (refine l_len ?_; (refine SXl.v (OpW.len rfl) rfl ?_ ?_ ?_); rfl; rfl) | (refine l_lss ?_; (refine SXl.v (OpW.lssT rfl rfl (by omega)) rfl ?_ ?_ ?_); rfl; rfl) | refine SX.drawn (by kernel_rfl) (by kernel_rfl) ?_ | refine SXr.nil ?_ | (refine r_call ?_; (first | refine SXr.v (OpW.call rfl (fun w hl => sisNode_any _ _ _ _ _)) rfl ?_ ?_ ?_ | refine SXr.v (OpW.call rfl (fun w hl => snode_any _ _ _ _ ky _ _ _ _ _ _ _ _ _ w (by omega) hky (fun j v hv => hl.old (hc2 j v hv) (fun h => h)))) rfl ?_ ?_ ?_); rfl; rfl) | (refine r_field ?_; (refine SXr.v (OpW.field rfl (nodeRow_a0 _ _ _ _ _ _ _ _ _)) rfl ?_ ?_ ?_); rfl; rfl) | (refine r_load ?_; (first | refine SXr.v (OpW.load 0 rfl rfl rfl) rfl ?_ ?_ ?_ | refine SXr.v (OpW.loadOld rfl (by assumption) (fun h => h)) rfl ?_ ?_ ?_ | refine SXr.v (OpW.loadAll 1 rfl rfl rfl) rfl ?_ ?_ ?_); rfl; rfl) | (refine r_fieldAddr ?_; (refine SXr.v (OpW.fieldAddr rfl) rfl ?_ ?_ ?_); rfl; rfl) | (refine r_move ?_; (refine SXr.v (OpW.move rfl) rfl ?_ ?_ ?_); rfl; rfl) | (refine r_add ?_; (refine SXr.v (OpW.succ rfl rfl (by omega)) rfl ?_ ?_ ?_); rfl; rfl) | (refine r_neq ?_; (refine SXr.v (OpW.neqT rfl rfl (by omega)) rfl ?_ ?_ ?_); rfl; rfl) | (refine r_not ?_; (refine SXr.v (OpW.not rfl) rfl ?_ ?_ ?_); rfl; rfl) | (refine r_pick ?_; (refine SXr.v (OpW.pick rfl rfl rfl) rfl ?_ ?_ ?_); rfl; rfl) | (refine r_indexAddr ?_; (refine SXr.v (OpW.indexAddr1 (by omega) rfl rfl) rfl ?_ ?_ ?_); rfl; rfl) | (rw [p1]) | refine SX.ret ?_ | refine SQ.thenRet ?_ | refine SQ.blockRet ?_)
        refine SQ.body1 rfl rfl (fun w' hl => ⟨by rw [treeOk_no hxk (hv)], hl.mod⟩)
    have hka := all_ints (p := kidOk l k) hks (by omega)
    cases me
    · by_cases r0 : ru.length = 0
      · repeat (first | refine SX.seq ?_ | refine SXl.nil ?_ | refine SX.region ?_ | refine SQ.thenNormal ?_ | refine SX.skip ?_ | refine SX.condF rfl ?_ | (refine SXl.no rfl rfl rfl ?_) | (refine l_load ?_; (refine SXl.v (OpW.load 0 rfl rfl rfl) rfl ?_ ?_ ?_); rfl; rfl) | (refine l_fieldAddr ?_; (refine SXl.v (OpW.fieldAddr rfl) rfl ?_ ?_ ?_); rfl; rfl) | (refine l_move ?_; (refine SXl.v (OpW.move rfl) rfl ?_ ?_ ?_); rfl; rfl) | (refine l_assign ?_; (refine SXl.v (OpW.assign rfl) rfl ?_ ?_ ?_); rfl; rfl) | (refine l_len ?_; (refine SXl.v (OpW.len rfl) rfl ?_ ?_ ?_); rfl; rfl) | (refine l_add ?_; (refine SXl.v (OpW.succ rfl rfl (by omega)) rfl ?_ ?_ ?_); rfl; rfl) | (refine l_gtr ?_; (refine SXl.v (OpW.gtrF rfl rfl (by omega)) rfl ?_ ?_ ?_); rfl; rfl) | (refine l_lss ?_; (refine SXl.v (OpW.lssF rfl rfl (by omega)) rfl ?_ ?_ ?_); rfl; rfl) | (refine l_not ?_; (refine SXl.v (OpW.not rfl) rfl ?_ ?_ ?_); rfl; rfl) | (refine l_pick ?_; (refine SXl.v (OpW.pick rfl rfl rfl) rfl ?_ ?_ ?_); rfl; rfl) | refine SX.exit ?_ | refine SQ.thenExit ?_ | refine SQ.blockNormal ?_ | refine SQ.blockExit ?_)
        refine SQ.roundi (k + 1) ⟨by omega, pto_succ hs hxk (nodeOk_y q1 q2 hka hup (by simp [tabOk, r0]))⟩ (by omega) ?_ (fun _ hl => hl.drop1)
        (repeat (first | exact subF_nil _ | (refine subF_cons rfl ?_) | (refine subF_consv rfl (by rfl) ?_)))
      · have hv := nodeOk_t (l := l) (i := k) (x := ⟨0, kids, st, false, ru⟩) (by simp [tabOk]; intro e; exact r0 (by rw [e]; rfl))
        repeat (first | refine SX.seq ?_ | refine SXl.nil ?_ | refine SX.region ?_ | refine SQ.thenNormal ?_ | refine SX.condT rfl ?_ | refine SX.condF rfl ?_ | (refine SXl.no rfl rfl rfl ?_) | (refine l_load ?_; (refine SXl.v (OpW.load 0 rfl rfl rfl) rfl ?_ ?_ ?_); rfl; rfl) | (refine l_fieldAddr ?_; (refine SXl.v (OpW.fieldAddr rfl) rfl ?_ ?_ ?_); rfl; rfl) | (refine l_move ?_; (refine SXl.v (OpW.move rfl) rfl ?_ ?_ ?_); rfl; rfl) | (refine l_assign ?_; (refine SXl.v (OpW.assign rfl) rfl ?_ ?_ ?_); rfl; rfl) | (refine l_len ?_; (refine SXl.v (OpW.len rfl) rfl ?_ ?_ ?_); rfl; rfl) | (refine l_gtr ?_; (refine SXl.v (OpW.gtrT rfl rfl (by omega)) rfl ?_ ?_ ?_); rfl; rfl) | (refine l_lss ?_; (refine SXl.v (OpW.lssF rfl rfl (by omega)) rfl ?_ ?_ ?_); rfl; rfl) | (refine l_not ?_; (refine SXl.v (OpW.not rfl) rfl ?_ ?_ ?_); rfl; rfl) | (refine l_pick ?_; (refine SXl.v (OpW.pick rfl rfl rfl) rfl ?_ ?_ ?_); rfl; rfl) | refine SX.ret ?_ | refine SX.exit ?_ | refine SQ.thenRet ?_ | refine SQ.thenExit ?_ | refine SQ.blockRet ?_ | refine SQ.blockExit ?_)
        refine SQ.body1 rfl rfl (fun w' hl => ⟨by rw [treeOk_no hxk (hv)], hl.mod⟩)
    · cases tq : tableOk ru
      · have hv := nodeOk_t (l := l) (i := k) (x := ⟨0, kids, st, true, ru⟩) (by simp [tabOk, tq])
        repeat (first | refine SX.seq ?_ | refine SXl.nil ?_ | refine SX.region ?_ | refine SQ.thenNormal ?_ | refine SX.condT rfl ?_ | refine SX.condF rfl ?_ | (refine SXl.no rfl rfl rfl ?_) | (refine l_load ?_; (first | refine SXl.v (OpW.loadRow (cells := nodeRow _ _ _ _ _ _ _ _ _) 0 rfl rfl rfl (nodeRow_tab _ _ _ _ _ _ _ _ _)) rfl ?_ ?_ ?_ | refine SXl.v (OpW.load 0 rfl rfl rfl) rfl ?_ ?_ ?_); rfl; rfl) | (refine l_call ?_; (refine SXl.v (OpW.call rfl (fun w hl => stableOk_any ru ra rc R _ hf2 (ht1.flatKeep hl.mod))) rfl ?_ ?_ ?_); rfl; rfl) | (refine l_fieldAddr ?_; (refine SXl.v (OpW.fieldAddr rfl) rfl ?_ ?_ ?_); rfl; rfl) | (refine l_move ?_; (refine SXl.v (OpW.move rfl) rfl ?_ ?_ ?_); rfl; rfl) | (refine l_assign ?_; (refine SXl.v (OpW.assign rfl) rfl ?_ ?_ ?_); rfl; rfl) | (refine l_len ?_; (refine SXl.v (OpW.len rfl) rfl ?_ ?_ ?_); rfl; rfl) | (refine l_lss ?_; (refine SXl.v (OpW.lssF rfl rfl (by omega)) rfl ?_ ?_ ?_); rfl; rfl) | (refine l_not ?_; (refine SXl.v (OpW.not rfl) rfl ?_ ?_ ?_); rfl; rfl) | (refine l_pick ?_; (refine SXl.v (OpW.pick rfl rfl rfl) rfl ?_ ?_ ?_); rfl; rfl) | (rw [tq]) | refine SX.ret ?_ | refine SX.exit ?_ | refine SQ.thenRet ?_ | refine SQ.thenExit ?_ | refine SQ.blockRet ?_ | refine SQ.blockExit ?_)
        refine SQ.body1 rfl rfl (fun w' hl => ⟨by rw [treeOk_no hxk (hv)], hl.mod⟩)
      by_cases k0 : kids.length = 0
      · repeat (first | refine SX.seq ?_ | refine SXl.nil ?_ | refine SX.region ?_ | refine SQ.thenNormal ?_ | refine SX.skip ?_ | refine SX.condF rfl ?_ | (refine SXl.no rfl rfl rfl ?_) | (refine l_load ?_; (first | refine SXl.v (OpW.loadRow (cells := nodeRow _ _ _ _ _ _ _ _ _) 0 rfl rfl rfl (nodeRow_tab _ _ _ _ _ _ _ _ _)) rfl ?_ ?_ ?_ | refine SXl.v (OpW.load 0 rfl rfl rfl) rfl ?_ ?_ ?_); rfl; rfl) | (refine l_call ?_; (refine SXl.v (OpW.call rfl (fun w hl => stableOk_any ru ra rc R _ hf2 (ht1.flatKeep hl.mod))) rfl ?_ ?_ ?_); rfl; rfl) | (refine l_fieldAddr ?_; (refine SXl.v (OpW.fieldAddr rfl) rfl ?_ ?_ ?_); rfl; rfl) | (refine l_move ?_; (refine SXl.v (OpW.move rfl) rfl ?_ ?_ ?_); rfl; rfl) | (refine l_assign ?_; (refine SXl.v (OpW.assign rfl) rfl ?_ ?_ ?_); rfl; rfl) | (refine l_len ?_; (refine SXl.v (OpW.len rfl) rfl ?_ ?_ ?_); rfl; rfl) | (refine l_add ?_; (refine SXl.v (OpW.succ rfl rfl (by omega)) rfl ?_ ?_ ?_); rfl; rfl) | (refine l_gtr ?_; (refine SXl.v (OpW.gtrF rfl rfl (by omega)) rfl ?_ ?_ ?_); rfl; rfl) | (refine l_lss ?_; (refine SXl.v (OpW.lssF rfl rfl (by omega)) rfl ?_ ?_ ?_); rfl; rfl) | (refine l_not ?_; (refine SXl.v (OpW.not rfl) rfl ?_ ?_ ?_); rfl; rfl) | (refine l_pick ?_; (refine SXl.v (OpW.pick rfl rfl rfl) rfl ?_ ?_ ?_); rfl; rfl) | (rw [tq]) | refine SX.exit ?_ | refine SQ.thenExit ?_ | refine SQ.blockNormal ?_ | refine SQ.blockExit ?_)
        refine SQ.roundi (k + 1) ⟨by omega, pto_succ hs hxk (nodeOk_y q1 q2 hka hup (by simp [tabOk, tq, k0]))⟩ (by omega) ?_ (fun _ hl => hl.drop1)
        (repeat (first | exact subF_nil _ | (refine subF_cons rfl ?_) | (refine subF_consv rfl (by rfl) ?_)))
      · have hv := nodeOk_t (l := l) (i := k) (x := ⟨0, kids, st, true, ru⟩) (by simp [tabOk, tq]; intro e; exact k0 (by rw [e]; rfl))
        repeat (first | refine SX.seq ?_ | refine SXl.nil ?_ | refine SX.region ?_ | refine SQ.thenNormal ?_ | refine SX.condT rfl ?_ | refine SX.condF rfl ?_ | (refine SXl.no rfl rfl rfl ?_) | (refine l_load ?_; (first | refine SXl.v (OpW.loadRow (cells := nodeRow _ _ _ _ _ _ _ _ _) 0 rfl rfl rfl (nodeRow_tab _ _ _ _ _ _ _ _ _)) rfl ?_ ?_ ?_ | refine SXl.v (OpW.load 0 rfl rfl rfl) rfl ?_ ?_ ?_); rfl; rfl) | (refine l_call ?_; (refine SXl.v (OpW.call rfl (fun w hl => stableOk_any ru ra rc R _ hf2 (ht1.flatKeep hl.mod))) rfl ?_ ?_ ?_); rfl; rfl) | (refine l_fieldAddr ?_; (refine SXl.v (OpW.fieldAddr rfl) rfl ?_ ?_ ?_); rfl; rfl) | (refine l_move ?_; (refine SXl.v (OpW.move rfl) rfl ?_ ?_ ?_); rfl; rfl) | (refine l_assign ?_; (refine SXl.v (OpW.assign rfl) rfl ?_ ?_ ?_); rfl; rfl) | (refine l_len ?_; (refine SXl.v (OpW.len rfl) rfl ?_ ?_ ?_); rfl; rfl) | (refine l_gtr ?_; (refine SXl.v (OpW.gtrT rfl rfl (by omega)) rfl ?_ ?_ ?_); rfl; rfl) | (refine l_lss ?_; (refine SXl.v (OpW.lssF rfl rfl (by omega)) rfl ?_ ?_ ?_); rfl; rfl) | (refine l_not ?_; (refine SXl.v (OpW.not rfl) rfl ?_ ?_ ?_); rfl; rfl) | (refine l_pick ?_; (refine SXl.v (OpW.pick rfl rfl rfl) rfl ?_ ?_ ?_); rfl; rfl) | (rw [tq]) | refine SX.ret ?_ | refine SX.exit ?_ | refine SQ.thenRet ?_ | refine SQ.thenExit ?_ | refine SQ.blockRet ?_ | refine SQ.blockExit ?_)
        refine SQ.body1 rfl rfl (fun w' hl => ⟨by rw [treeOk_no hxk (hv)], hl.mod⟩)
  have hu0 : up ≠ 0 := u0
  obtain ⟨ku, rfl, hku⟩ := depth_up hxk q2 u0
  obtain ⟨b5, o5, z, r5, e5, hR5, hb5, hzk, hr5, hl5, hc5⟩ := h.get hku
  obtain ⟨rfl, rfl⟩ : b1 = b5 ∧ o1 = o5 := by simpa using e5
  obtain ⟨kb, kd, rb, rd, rfl, hk5, _, _⟩ := hr5
  have hfz : z.kids.length ≤ 1048576 := (hfit _ (List.mem_of_getElem? hzk.out)).1
  have hup := upOk_at (l := l) (i := k) (x := ⟨((ku + 1 : Nat) : Int), kids, st, me, ru⟩) rfl hzk.out
  by_cases c1 : z.kids.count ((k + 1 : Nat) : Int) = 1
  rotate_left
  · rw [decide_eq_false c1] at hup
    have hv := nodeOk_u hup
    repeat (first | refine SX.seq ?_ | refine SXl.nil ?_ | refine SX.region ?_ | refine SQ.thenNormal ?_ | refine SX.block ?_ | refine SX.skip ?_ | refine SX.condT rfl ?_ | (refine l_load ?_; (first | refine SXl.v (OpW.loadRowOld rfl hc1 (nodeRow_len _ _ _ _ _ _ _ _ _) (Nat.succ_pos _) (fun h => h)) rfl ?_ ?_ ?_ | refine SXl.v (OpW.loadRow (cells := nodeRow _ ka kids.length kc st me ra ru.length rc) 0 rfl rfl rfl (nodeRow_style _ _ _ _ _ _ _ _ _)) rfl ?_ ?_ ?_ | refine SXl.v (OpW.load 0 rfl rfl rfl) rfl ?_ ?_ ?_ | refine SXl.v (OpW.loadAll 1 rfl rfl rfl) rfl ?_ ?_ ?_); rfl; rfl) | (refine l_call ?_; (first | refine SXl.v (OpW.call rfl (fun w hl => sstyleC_any _ _)) rfl ?_ ?_ ?_ | refine SXl.v (OpW.call rfl (fun w hl => sdepthOf_any l _ o _ c R _ (by omega) (h.keep hl.mod))) rfl ?_ ?_ ?_ | refine SXl.v (OpW.call rfl (fun w hl => snode_any _ _ _ _ ku _ _ _ _ _ _ _ _ _ w (by omega) hku (fun j v hv => hl.old (hc5 j v hv) (fun h => h)))) rfl ?_ ?_ ?_ | refine SXl.v (OpW.call rfl (fun w hl => shas_any z.kids _ kb kd R _ hfz (hk5.flatKeep hl.mod))) rfl ?_ ?_ ?_ | refine SXl.v (OpW.calls rfl (fun w _ => l01In_any _ _ _ _)) rfl ?_ ?_ ?_); rfl; rfl) | (refine l_field ?_; (refine SXl.v (OpW.field rfl (nodeRow_a1 _ _ _ _ _ _ _ _ _)) rfl ?_ ?_ ?_); rfl; rfl) | (refine l_fieldAddr ?_; (refine SXl.v (OpW.fieldAddr rfl) rfl ?_ ?_ ?_); rfl; rfl) | (refine l_move ?_; (refine SXl.v (OpW.move rfl) rfl ?_ ?_ ?_); rfl; rfl) | (refine l_assign ?_; (refine SXl.v (OpW.assign rfl) rfl ?_ ?_ ?_); rfl; rfl) | (refine l_len ?_; (refine SXl.v (OpW.len rfl) rfl ?_ ?_ ?_); rfl; rfl) | (refine l_add ?_; (refine SXl.v (OpW.succ rfl rfl (by omega)) rfl ?_ ?_ ?_); rfl; rfl) | (refine l_lss ?_; (refine SXl.v (OpW.lssT rfl rfl (by omega)) rfl ?_ ?_ ?_); rfl; rfl) | (refine l_neq ?_; (refine SXl.v (OpW.neqT rfl rfl (by omega)) rfl ?_ ?_ ?_); rfl; rfl) | (refine l_not ?_; (refine SXl.v (OpW.not rfl) rfl ?_ ?_ ?_); rfl; rfl) | (refine l_pick ?_; (refine SXl.v (OpW.pick rfl rfl rfl) rfl ?_ ?_ ?_); rfl; rfl) | (refine l_indexAddr ?_; (refine SXl.v (OpW.indexAddr (by omega) rfl rfl) rfl ?_ ?_ ?_); rfl; rfl) | (refine l_alloc ?_; refine SXl.alloc ?_ ?_ (fun g => ?_); rfl; rfl) | (refine l_store ?_; first | (refine SXl.storeAll 0 ?_ rfl rfl rfl rfl rfl rfl rfl ?_; rfl; simp only [List.set_cons_zero, List.set_cons_succ]) | (refine SXl.storeAll 1 ?_ rfl rfl rfl rfl rfl rfl rfl ?_; rfl; simp only [List.set_cons_zero, List.set_cons_succ]) | (refine SXl.storeAll 2 ?_ rfl rfl rfl rfl rfl rfl rfl ?_; rfl; simp only [List.set_cons_zero, List.set_cons_succ]) | (refine SXl.storeRow 0 ?_ rfl rfl rfl rfl rfl rfl rfl ?_; rfl; simp only [over, List.set_cons_zero, List.set_cons_succ]) | (refine SXl.storeRow 1 ?_ rfl rfl rfl rfl rfl rfl rfl ?_; rfl; simp only [over, List.set_cons_zero, List.set_cons_succ]) | (refine SXl.storeRow 2 ?_ rfl rfl rfl rfl rfl rfl rfl ?_; rfl; simp only [over, List.set_cons_zero, List.set_cons_succ])) | ((first | rw [q1] | rw [q2])) | refine SX.ret ?_ | refine SQ.thenRet ?_ | refine SQ.blockRet ?_)
    refine SQ.body1 rfl rfl (fun w' hl => ⟨by rw [treeOk_no hxk (hv)], hl.mod⟩)
  rw [decide_eq_true c1] at hup
  repeat (first | refine SX.seq ?_ | refine SXl.nil ?_ | refine SX.region ?_ | refine SQ.thenNormal ?_ | refine SX.block ?_ | refine SX.skip ?_ | refine SX.condT rfl ?_ | refine SX.condF rfl ?_ | (refine l_load ?_; (first | refine SXl.v (OpW.loadRowOld rfl hc1 (nodeRow_len _ _ _ _ _ _ _ _ _) (Nat.succ_pos _) (fun h => h)) rfl ?_ ?_ ?_ | refine SXl.v (OpW.loadRow (cells := nodeRow _ ka kids.length kc st me ra ru.length rc) 0 rfl rfl rfl (nodeRow_style _ _ _ _ _ _ _ _ _)) rfl ?_ ?_ ?_ | refine SXl.v (OpW.load 0 rfl rfl rfl) rfl ?_ ?_ ?_ | refine SXl.v (OpW.loadAll 1 rfl rfl rfl) rfl ?_ ?_ ?_); rfl; rfl) | (refine l_call ?_; (first | refine SXl.v (OpW.call rfl (fun w hl => sstyleC_any _ _)) rfl ?_ ?_ ?_ | refine SXl.v (OpW.call rfl (fun w hl => sdepthOf_any l _ o _ c R _ (by omega) (h.keep hl.mod))) rfl ?_ ?_ ?_ | refine SXl.v (OpW.call rfl (fun w hl => snode_any _ _ _ _ ku _ _ _ _ _ _ _ _ _ w (by omega) hku (fun j v hv => hl.old (hc5 j v hv) (fun h => h)))) rfl ?_ ?_ ?_ | refine SXl.v (OpW.call rfl (fun w hl => shas_any z.kids _ kb kd R _ hfz (hk5.flatKeep hl.mod))) rfl ?_ ?_ ?_ | refine SXl.v (OpW.calls rfl (fun w _ => l01In_any _ _ _ _)) rfl ?_ ?_ ?_); rfl; rfl) | (refine l_field ?_; (refine SXl.v (OpW.field rfl (nodeRow_a1 _ _ _ _ _ _ _ _ _)) rfl ?_ ?_ ?_); rfl; rfl) | (refine l_fieldAddr ?_; (refine SXl.v (OpW.fieldAddr rfl) rfl ?_ ?_ ?_); rfl; rfl) | (refine l_move ?_; (refine SXl.v (OpW.move rfl) rfl ?_ ?_ ?_); rfl; rfl) | (refine l_assign ?_; (refine SXl.v (OpW.assign rfl) rfl ?_ ?_ ?_); rfl; rfl) | (refine l_len ?_; (refine SXl.v (OpW.len rfl) rfl ?_ ?_ ?_); rfl; rfl) | (refine l_add ?_; (refine SXl.v (OpW.succ rfl rfl (by omega)) rfl ?_ ?_ ?_); rfl; rfl) | (refine l_lss ?_; (refine SXl.v (OpW.lssT rfl rfl (by omega)) rfl ?_ ?_ ?_); rfl; rfl) | (refine l_neq ?_; (first | refine SXl.v (OpW.neqT rfl rfl (by omega)) rfl ?_ ?_ ?_ | refine SXl.v (OpW.neqF rfl rfl (by omega)) rfl ?_ ?_ ?_); rfl; rfl) | (refine l_not ?_; (refine SXl.v (OpW.not rfl) rfl ?_ ?_ ?_); rfl; rfl) | (refine l_pick ?_; (refine SXl.v (OpW.pick rfl rfl rfl) rfl ?_ ?_ ?_); rfl; rfl) | (refine l_indexAddr ?_; (refine SXl.v (OpW.indexAddr (by omega) rfl rfl) rfl ?_ ?_ ?_); rfl; rfl) | (refine l_alloc ?_; refine SXl.alloc ?_ ?_ (fun g => ?_); rfl; rfl) | (refine l_store ?_; first | (refine SXl.storeAll 0 ?_ rfl rfl rfl rfl rfl rfl rfl ?_; rfl; simp only [List.set_cons_zero, List.set_cons_succ]) | (refine SXl.storeAll 1 ?_ rfl rfl rfl rfl rfl rfl rfl ?_; rfl; simp only [List.set_cons_zero, List.set_cons_succ]) | (refine SXl.storeAll 2 ?_ rfl rfl rfl rfl rfl rfl rfl ?_; rfl; simp only [List.set_cons_zero, List.set_cons_succ]) | (refine SXl.storeRow 0 ?_ rfl rfl rfl rfl rfl rfl rfl ?_; rfl; simp only [over, List.set_cons_zero, List.set_cons_succ]) | (refine SXl.storeRow 1 ?_ rfl rfl rfl rfl rfl rfl rfl ?_; rfl; simp only [over, List.set_cons_zero, List.set_cons_succ]) | (refine SXl.storeRow 2 ?_ rfl rfl rfl rfl rfl rfl rfl ?_; rfl; simp only [over, List.set_cons_zero, List.set_cons_succ])) | ((first | rw [q1] | rw [q2])))
  refine SX.loopi (fun j : Nat => j ≤ kids.length ∧ ∀ i y, i < j → kids[i]? = some y → kidOk l k y = true) (fun j => kids.length - j) (fun _ => [⟨g, nodeRow ((ku + 1 : Nat) : Int) ka kids.length kc st me ra ru.length rc, 85⟩, ⟨gt, [.slice (some ⟨b1, o1, none⟩) l.length c], 37⟩]) (fun _ => []) (fun _ => []) (fun j => [(1, .pointer (some ⟨gt, 0, none⟩)), (4, .pointer (some ⟨g, 0, none⟩)), (3, .int .i64 k), (5, .int .i64 j)]) 0 ⟨Nat.zero_le _, fun i x h => absurd h (Nat.not_lt_zero _)⟩ ?_ (fun _ hl => hl) ?_
  · (repeat (first | exact subF_nil _ | (refine subF_cons rfl ?_) | (refine subF_consv rfl (by rfl) ?_)))
  rintro j ⟨hj, hks⟩
  by_cases hjl : j < kids.length
  · obtain ⟨b3, o3, y, e3, hR3, hb3, hyk, hc3⟩ := IntSlice.get hk1 hjl
    subst e3
    replace hyk := hyk.out
    cases p1 : inB y 1 l.length
    · have hv := nodeOk_k (l := l) (i := k) (x := ⟨((ku + 1 : Nat) : Int), kids, st, me, ru⟩) hyk (by simp [kidOk, p1])
      repeat (first | refine SX.seq ?_ | refine SXl.nil ?_ | refine SX.region ?_ | refine SQ.thenNormal ?_ | refine SX.block ?_ | refine SX.skip ?_ | refine SX.condT rfl ?_ | (refine l_load ?_; (refine SXl.v (OpW.load 0 rfl rfl rfl) rfl ?_ ?_ ?_); rfl; rfl) | (refine l_fieldAddr ?_; (refine SXl.v (OpW.fieldAddr rfl) rfl ?_ ?_ ?_); rfl; rfl) | (refine l_move ?_; (refine SXl.v (OpW.move rfl) rfl ?_ ?_ ?_); rfl; rfl) | (refine l_assign ?_; (refine SXl.v (OpW.assign rfl) rfl ?_ ?_ ?_); rfl; rfl) | (refine l_len ?_; (refine SXl.v (OpW.len rfl) rfl ?_ ?_ ?_); rfl; rfl) | (refine l_lss ?_; (refine SXl.v (OpW.lssT rfl rfl (by omega)) rfl ?_ ?_ ?_); rfl; rfl) | refine SX.drawn (by kernel_rfl) (by kernel_rfl) ?_ | refine SXr.nil ?_ | (refine SXr.no rfl rfl rfl ?_) | (refine r_call ?_; (refine SXr.v (OpW.call rfl (fun w hl => sisNode_any _ _ _ _ _)) rfl ?_ ?_ ?_); rfl; rfl) | (refine r_load ?_; (first | refine SXr.v (OpW.load 0 rfl rfl rfl) rfl ?_ ?_ ?_ | refine SXr.v (OpW.loadOld rfl (by assumption) (fun h => h)) rfl ?_ ?_ ?_ | refine SXr.v (OpW.loadAll 1 rfl rfl rfl) rfl ?_ ?_ ?_); rfl; rfl) | (refine r_fieldAddr ?_; (refine SXr.v (OpW.fieldAddr rfl) rfl ?_ ?_ ?_); rfl; rfl) | (refine r_move ?_; (refine SXr.v (OpW.move rfl) rfl ?_ ?_ ?_); rfl; rfl) | (refine r_not ?_; (refine SXr.v (OpW.not rfl) rfl ?_ ?_ ?_); rfl; rfl) | (refine r_pick ?_; (refine SXr.v (OpW.pick rfl rfl rfl) rfl ?_ ?_ ?_); rfl; rfl) | (refine r_indexAddr ?_; (refine SXr.v (OpW.indexAddr1 (by omega) rfl rfl) rfl ?_ ?_ ?_); rfl; rfl) | (rw [p1]) | refine SX.ret ?_ | refine SQ.thenRet ?_ | refine SQ.blockRet ?_)
      refine SQ.body1 rfl rfl (fun w' hl => ⟨by rw [treeOk_no hxk (hv)], hl.mod⟩)
    obtain ⟨ky, rfl, hky⟩ := inB_node p1
    obtain ⟨b2, o2, z, r2, e2, hR2, hb2, hzk, hr2, hl2, hc2⟩ := h.get hky
    obtain ⟨rfl, rfl⟩ : b1 = b2 ∧ o1 = o2 := by simpa using e2
    obtain ⟨kb, kd, rb, rd, rfl, _, _, _⟩ := hr2
    have hkid : kidOk l k ((ky + 1 : Nat) : Int) = decide (z.up = ((k + 1 : Nat) : Int)) := kidOk_at p1 hzk.out
    by_cases p2 : z.up = ((k + 1 : Nat) : Int)
    · repeat (first | refine SX.seq ?_ | refine SXl.nil ?_ | refine SX.region ?_ | refine SQ.thenNormal ?_ | refine SX.block ?_ | refine SX.skip ?_ | refine SX.condT rfl ?_ | refine SX.condF rfl ?_ | (refine l_load ?_; (refine SXl.v (OpW.load 0 rfl rfl rfl) rfl ?_ ?_ ?_); rfl; rfl) | (refine l_fieldAddr ?_; (refine SXl.v (OpW.fieldAddr rfl) rfl ?_ ?_ ?_); rfl; rfl) | (refine l_move ?_; (refine SXl.v (OpW.move rfl) rfl ?_ ?_ ?_); rfl; rfl) | (refine l_assign ?_; (refine SXl.v (OpW.assign rfl) rfl ?_ ?_ ?_); rfl; rfl) | (refine l_len ?_; (refine SXl.v (OpW.len rfl) rfl ?_ ?_ ?_); rfl; rfl) | (refine l_add ?_; (refine SXl.v (OpW.succ rfl rfl (by omega)) rfl ?_ ?_ ?_); rfl; rfl) | (refine l_lss ?_; (refine SXl.v (OpW.lssT rfl rfl (by omega)) rfl ?_ ?_ ?_); rfl; rfl) | refine SX.drawn (by kernel_rfl) (by kernel_rfl) ?_ | refine SXr.nil ?_ | (refine r_call ?_; (first | refine SXr.v (OpW.call rfl (fun w hl => sisNode_any _ _ _ _ _)) rfl ?_ ?_ ?_ | refine SXr.v (OpW.call rfl (fun w hl => snode_any _ _ _ _ ky _ _ _ _ _ _ _ _ _ w (by omega) hky (fun j v hv => hl.old (hc2 j v hv) (fun h => h)))) rfl ?_ ?_ ?_); rfl; rfl) | (refine r_field ?_; (refine SXr.v (OpW.field rfl (nodeRow_a0 _ _ _ _ _ _ _ _ _)) rfl ?_ ?_ ?_); rfl; rfl) | (refine r_load ?_; (first | refine SXr.v (OpW.load 0 rfl rfl rfl) rfl ?_ ?_ ?_ | refine SXr.v (OpW.loadOld rfl (by assumption) (fun h => h)) rfl ?_ ?_ ?_ | refine SXr.v (OpW.loadAll 1 rfl rfl rfl) rfl ?_ ?_ ?_); rfl; rfl) | (refine r_fieldAddr ?_; (refine SXr.v (OpW.fieldAddr rfl) rfl ?_ ?_ ?_); rfl; rfl) | (refine r_move ?_; (refine SXr.v (OpW.move rfl) rfl ?_ ?_ ?_); rfl; rfl) | (refine r_add ?_; (refine SXr.v (OpW.succ rfl rfl (by omega)) rfl ?_ ?_ ?_); rfl; rfl) | (refine r_neq ?_; (refine SXr.v (OpW.neqF rfl rfl (by omega)) rfl ?_ ?_ ?_); rfl; rfl) | (refine r_not ?_; (refine SXr.v (OpW.not rfl) rfl ?_ ?_ ?_); rfl; rfl) | (refine r_pick ?_; (refine SXr.v (OpW.pick rfl rfl rfl) rfl ?_ ?_ ?_); rfl; rfl) | (refine r_indexAddr ?_; (refine SXr.v (OpW.indexAddr1 (by omega) rfl rfl) rfl ?_ ?_ ?_); rfl; rfl) | (rw [p1]) | refine SQ.blockNormal ?_)
      refine SQ.roundi (j + 1) ⟨by omega, pto_succ hks hyk (by rw [hkid]; exact decide_eq_true p2)⟩ (by omega) ?_ (fun _ hl => hl)
      (repeat (first | exact subF_nil _ | (refine subF_cons rfl ?_) | (refine subF_consv rfl (by rfl) ?_)))
    · have hv := nodeOk_k (l := l) (i := k) (x := ⟨((ku + 1 : Nat) : Int), kids, st, me, ru⟩) hyk (by rw [hkid]; exact decide_eq_false p2)
      repeat (first | refine SX.seq ?_ | refine SXl.nil ?_ | refine SX.region ?_ | refine SQ.thenNormal ?_ | refine SX.block ?_ | refine SX.skip ?_ | refine SX.condT rfl ?_ | (refine l_load ?_; (refine SXl.v (OpW.load 0 rfl rfl rfl) rfl ?_ ?_ ?_); rfl; rfl) | (refine l_fieldAddr ?_; (refine SXl.v (OpW.fieldAddr rfl) rfl ?_ ?_ ?_); rfl; rfl) | (refine l_move ?_; (refine SXl.v (OpW.move rfl) rfl ?_ ?_ ?_); rfl; rfl) | (refine l_assign ?_; (refine SXl.v (OpW.assign rfl) rfl ?_ ?_ ?_); rfl; rfl) | (refine l_len ?_; (refine SXl.v (OpW.len rfl) rfl ?_ ?_ ?_); rfl; rfl) | (refine l_lss ?_; (refine SXl.v (OpW.lssT rfl rfl (by omega)) rfl ?_ ?_ ?_); rfl; rfl) | refine SX.drawn (by kernel_rfl) (by kernel_rfl) ?_ | refine SXr.nil ?_ | (refine r_call ?_; (first | refine SXr.v (OpW.call rfl (fun w hl => sisNode_any _ _ _ _ _)) rfl ?_ ?_ ?_ | refine SXr.v (OpW.call rfl (fun w hl => snode_any _ _ _ _ ky _ _ _ _ _ _ _ _ _ w (by omega) hky (fun j v hv => hl.old (hc2 j v hv) (fun h => h)))) rfl ?_ ?_ ?_); rfl; rfl) | (refine r_field ?_; (refine SXr.v (OpW.field rfl (nodeRow_a0 _ _ _ _ _ _ _ _ _)) rfl ?_ ?_ ?_); rfl; rfl) | (refine r_load ?_; (first | refine SXr.v (OpW.load 0 rfl rfl rfl) rfl ?_ ?_ ?_ | refine SXr.v (OpW.loadOld rfl (by assumption) (fun h => h)) rfl ?_ ?_ ?_ | refine SXr.v (OpW.loadAll 1 rfl rfl rfl) rfl ?_ ?_ ?_); rfl; rfl) | (refine r_fieldAddr ?_; (refine SXr.v (OpW.fieldAddr rfl) rfl ?_ ?_ ?_); rfl; rfl) | (refine r_move ?_; (refine SXr.v (OpW.move rfl) rfl ?_ ?_ ?_); rfl; rfl) | (refine r_add ?_; (refine SXr.v (OpW.succ rfl rfl (by omega)) rfl ?_ ?_ ?_); rfl; rfl) | (refine r_neq ?_; (refine SXr.v (OpW.neqT rfl rfl (by omega)) rfl ?_ ?_ ?_); rfl; rfl) | (refine r_not ?_; (refine SXr.v (OpW.not rfl) rfl ?_ ?_ ?_); rfl; rfl) | (refine r_pick ?_; (refine SXr.v (OpW.pick rfl rfl rfl) rfl ?_ ?_ ?_); rfl; rfl) | (refine r_indexAddr ?_; (refine SXr.v (OpW.indexAddr1 (by omega) rfl rfl) rfl ?_ ?_ ?_); rfl; rfl) | (rw [p1]) | refine SX.ret ?_ | refine SQ.thenRet ?_ | refine SQ.blockRet ?_)
      refine SQ.body1 rfl rfl (fun w' hl => ⟨by rw [treeOk_no hxk (hv)], hl.mod⟩)
  have hka := all_ints (p := kidOk l k) hks (by omega)
  cases me
  · by_cases r0 : ru.length = 0
    · repeat (first | refine SX.seq ?_ | refine SXl.nil ?_ | refine SX.region ?_ | refine SQ.thenNormal ?_ | refine SX.skip ?_ | refine SX.condF rfl ?_ | (refine SXl.no rfl rfl rfl ?_) | (refine l_load ?_; (refine SXl.v (OpW.load 0 rfl rfl rfl) rfl ?_ ?_ ?_); rfl; rfl) | (refine l_fieldAddr ?_; (refine SXl.v (OpW.fieldAddr rfl) rfl ?_ ?_ ?_); rfl; rfl) | (refine l_move ?_; (refine SXl.v (OpW.move rfl) rfl ?_ ?_ ?_); rfl; rfl) | (refine l_assign ?_; (refine SXl.v (OpW.assign rfl) rfl ?_ ?_ ?_); rfl; rfl) | (refine l_len ?_; (refine SXl.v (OpW.len rfl) rfl ?_ ?_ ?_); rfl; rfl) | (refine l_add ?_; (refine SXl.v (OpW.succ rfl rfl (by omega)) rfl ?_ ?_ ?_); rfl; rfl) | (refine l_gtr ?_; (refine SXl.v (OpW.gtrF rfl rfl (by omega)) rfl ?_ ?_ ?_); rfl; rfl) | (refine l_lss ?_; (refine SXl.v (OpW.lssF rfl rfl (by omega)) rfl ?_ ?_ ?_); rfl; rfl) | (refine l_not ?_; (refine SXl.v (OpW.not rfl) rfl ?_ ?_ ?_); rfl; rfl) | (refine l_pick ?_; (refine SXl.v (OpW.pick rfl rfl rfl) rfl ?_ ?_ ?_); rfl; rfl) | refine SX.exit ?_ | refine SQ.thenExit ?_ | refine SQ.blockNormal ?_ | refine SQ.blockExit ?_)
      refine SQ.roundi (k + 1) ⟨by omega, pto_succ hs hxk (nodeOk_y q1 q2 hka hup (by simp [tabOk, r0]))⟩ (by omega) ?_ (fun _ hl => hl.drop1)
      (repeat (first | exact subF_nil _ | (refine subF_cons rfl ?_) | (refine subF_consv rfl (by rfl) ?_)))
    · have hv := nodeOk_t (l := l) (i := k) (x := ⟨((ku + 1 : Nat) : Int), kids, st, false, ru⟩) (by simp [tabOk]; intro e; exact r0 (by rw [e]; rfl))
      repeat (first | refine SX.seq ?_ | refine SXl.nil ?_ | refine SX.region ?_ | refine SQ.thenNormal ?_ | refine SX.condT rfl ?_ | refine SX.condF rfl ?_ | (refine SXl.no rfl rfl rfl ?_) | (refine l_load ?_; (refine SXl.v (OpW.load 0 rfl rfl rfl) rfl ?_ ?_ ?_); rfl; rfl) | (refine l_fieldAddr ?_; (refine SXl.v (OpW.fieldAddr rfl) rfl ?_ ?_ ?_); rfl; rfl) | (refine l_move ?_; (refine SXl.v (OpW.move rfl) rfl ?_ ?_ ?_); rfl; rfl) | (refine l_assign ?_; (refine SXl.v (OpW.assign rfl) rfl ?_ ?_ ?_); rfl; rfl) | (refine l_len ?_; (refine SXl.v (OpW.len rfl) rfl ?_ ?_ ?_); rfl; rfl) | (refine l_gtr ?_; (refine SXl.v (OpW.gtrT rfl rfl (by omega)) rfl ?_ ?_ ?_); rfl; rfl) | (refine l_lss ?_; (refine SXl.v (OpW.lssF rfl rfl (by omega)) rfl ?_ ?_ ?_); rfl; rfl) | (refine l_not ?_; (refine SXl.v (OpW.not rfl) rfl ?_ ?_ ?_); rfl; rfl) | (refine l_pick ?_; (refine SXl.v (OpW.pick rfl rfl rfl) rfl ?_ ?_ ?_); rfl; rfl) | refine SX.ret ?_ | refine SX.exit ?_ | refine SQ.thenRet ?_ | refine SQ.thenExit ?_ | refine SQ.blockRet ?_ | refine SQ.blockExit ?_)
      refine SQ.body1 rfl rfl (fun w' hl => ⟨by rw [treeOk_no hxk (hv)], hl.mod⟩)
  · cases tq : tableOk ru
    · have hv := nodeOk_t (l := l) (i := k) (x := ⟨((ku + 1 : Nat) : Int), kids, st, true, ru⟩) (by simp [tabOk, tq])
      repeat (first | refine SX.seq ?_ | refine SXl.nil ?_ | refine SX.region ?_ | refine SQ.thenNormal ?_ | refine SX.condT rfl ?_ | refine SX.condF rfl ?_ | (refine SXl.no rfl rfl rfl ?_) | (refine l_load ?_; (first | refine SXl.v (OpW.loadRow (cells := nodeRow _ _ _ _ _ _ _ _ _) 0 rfl rfl rfl (nodeRow_tab _ _ _ _ _ _ _ _ _)) rfl ?_ ?_ ?_ | refine SXl.v (OpW.load 0 rfl rfl rfl) rfl ?_ ?_ ?_); rfl; rfl) | (refine l_call ?_; (refine SXl.v (OpW.call rfl (fun w hl => stableOk_any ru ra rc R _ hf2 (ht1.flatKeep hl.mod))) rfl ?_ ?_ ?_); rfl; rfl) | (refine l_fieldAddr ?_; (refine SXl.v (OpW.fieldAddr rfl) rfl ?_ ?_ ?_); rfl; rfl) | (refine l_move ?_; (refine SXl.v (OpW.move rfl) rfl ?_ ?_ ?_); rfl; rfl) | (refine l_assign ?_; (refine SXl.v (OpW.assign rfl) rfl ?_ ?_ ?_); rfl; rfl) | (refine l_len ?_; (refine SXl.v (OpW.len rfl) rfl ?_ ?_ ?_); rfl; rfl) | (refine l_lss ?_; (refine SXl.v (OpW.lssF rfl rfl (by omega)) rfl ?_ ?_ ?_); rfl; rfl) | (refine l_not ?_; (refine SXl.v (OpW.not rfl) rfl ?_ ?_ ?_); rfl; rfl) | (refine l_pick ?_; (refine SXl.v (OpW.pick rfl rfl rfl) rfl ?_ ?_ ?_); rfl; rfl) | (rw [tq]) | refine SX.ret ?_ | refine SX.exit ?_ | refine SQ.thenRet ?_ | refine SQ.thenExit ?_ | refine SQ.blockRet ?_ | refine SQ.blockExit ?_)
      refine SQ.body1 rfl rfl (fun w' hl => ⟨by rw [treeOk_no hxk (hv)], hl.mod⟩)
    by_cases k0 : kids.length = 0
    · repeat (first | refine SX.seq ?_ | refine SXl.nil ?_ | refine SX.region ?_ | refine SQ.thenNormal ?_ | refine SX.skip ?_ | refine SX.condF rfl ?_ | (refine SXl.no rfl rfl rfl ?_) | (refine l_load ?_; (first | refine SXl.v (OpW.loadRow (cells := nodeRow _ _ _ _ _ _ _ _ _) 0 rfl rfl rfl (nodeRow_tab _ _ _ _ _ _ _ _ _)) rfl ?_ ?_ ?_ | refine SXl.v (OpW.load 0 rfl rfl rfl) rfl ?_ ?_ ?_); rfl; rfl) | (refine l_call ?_; (refine SXl.v (OpW.call rfl (fun w hl => stableOk_any ru ra rc R _ hf2 (ht1.flatKeep hl.mod))) rfl ?_ ?_ ?_); rfl; rfl) | (refine l_fieldAddr ?_; (refine SXl.v (OpW.fieldAddr rfl) rfl ?_ ?_ ?_); rfl; rfl) | (refine l_move ?_; (refine SXl.v (OpW.move rfl) rfl ?_ ?_ ?_); rfl; rfl) | (refine l_assign ?_; (refine SXl.v (OpW.assign rfl) rfl ?_ ?_ ?_); rfl; rfl) | (refine l_len ?_; (refine SXl.v (OpW.len rfl) rfl ?_ ?_ ?_); rfl; rfl) | (refine l_add ?_; (refine SXl.v (OpW.succ rfl rfl (by omega)) rfl ?_ ?_ ?_); rfl; rfl) | (refine l_gtr ?_; (refine SXl.v (OpW.gtrF rfl rfl (by omega)) rfl ?_ ?_ ?_); rfl; rfl) | (refine l_lss ?_; (refine SXl.v (OpW.lssF rfl rfl (by omega)) rfl ?_ ?_ ?_); rfl; rfl) | (refine l_not ?_; (refine SXl.v (OpW.not rfl) rfl ?_ ?_ ?_); rfl; rfl) | (refine l_pick ?_; (refine SXl.v (OpW.pick rfl rfl rfl) rfl ?_ ?_ ?_); rfl; rfl) | (rw [tq]) | refine SX.exit ?_ | refine SQ.thenExit ?_ | refine SQ.blockNormal ?_ | refine SQ.blockExit ?_)
      refine SQ.roundi (k + 1) ⟨by omega, pto_succ hs hxk (nodeOk_y q1 q2 hka hup (by simp [tabOk, tq, k0]))⟩ (by omega) ?_ (fun _ hl => hl.drop1)
      (repeat (first | exact subF_nil _ | (refine subF_cons rfl ?_) | (refine subF_consv rfl (by rfl) ?_)))
    · have hv := nodeOk_t (l := l) (i := k) (x := ⟨((ku + 1 : Nat) : Int), kids, st, true, ru⟩) (by simp [tabOk, tq]; intro e; exact k0 (by rw [e]; rfl))
      repeat (first | refine SX.seq ?_ | refine SXl.nil ?_ | refine SX.region ?_ | refine SQ.thenNormal ?_ | refine SX.condT rfl ?_ | refine SX.condF rfl ?_ | (refine SXl.no rfl rfl rfl ?_) | (refine l_load ?_; (first | refine SXl.v (OpW.loadRow (cells := nodeRow _ _ _ _ _ _ _ _ _) 0 rfl rfl rfl (nodeRow_tab _ _ _ _ _ _ _ _ _)) rfl ?_ ?_ ?_ | refine SXl.v (OpW.load 0 rfl rfl rfl) rfl ?_ ?_ ?_); rfl; rfl) | (refine l_call ?_; (refine SXl.v (OpW.call rfl (fun w hl => stableOk_any ru ra rc R _ hf2 (ht1.flatKeep hl.mod))) rfl ?_ ?_ ?_); rfl; rfl) | (refine l_fieldAddr ?_; (refine SXl.v (OpW.fieldAddr rfl) rfl ?_ ?_ ?_); rfl; rfl) | (refine l_move ?_; (refine SXl.v (OpW.move rfl) rfl ?_ ?_ ?_); rfl; rfl) | (refine l_assign ?_; (refine SXl.v (OpW.assign rfl) rfl ?_ ?_ ?_); rfl; rfl) | (refine l_len ?_; (refine SXl.v (OpW.len rfl) rfl ?_ ?_ ?_); rfl; rfl) | (refine l_gtr ?_; (refine SXl.v (OpW.gtrT rfl rfl (by omega)) rfl ?_ ?_ ?_); rfl; rfl) | (refine l_lss ?_; (refine SXl.v (OpW.lssF rfl rfl (by omega)) rfl ?_ ?_ ?_); rfl; rfl) | (refine l_not ?_; (refine SXl.v (OpW.not rfl) rfl ?_ ?_ ?_); rfl; rfl) | (refine l_pick ?_; (refine SXl.v (OpW.pick rfl rfl rfl) rfl ?_ ?_ ?_); rfl; rfl) | (rw [tq]) | refine SX.ret ?_ | refine SX.exit ?_ | refine SQ.thenRet ?_ | refine SQ.thenExit ?_ | refine SQ.blockRet ?_ | refine SQ.blockExit ?_)
      refine SQ.body1 rfl rfl (fun w' hl => ⟨by rw [treeOk_no hxk (hv)], hl.mod⟩)

end Go.Proofs.YtpkpkojmaebflaaGreatDoor
namespace Go.Proofs.YtpkpkojmaebflaaGreatDoor
open Go.RowKit

/-- Where a slice lies. -/
structure SlP where
  a : Option Addr
  c : Nat
  lo : Nat
def ownRes {α : Type} (cells : α → List Value) (e sz : Nat) (l : List α) (q : SlP) : Res where
  foot := fun k => (Value.slice q.a l.length q.c).ownBlock = some k
  says := fun w => w.ownsRow q.lo e sz (.slice q.a l.length q.c) l.length (l.map cells).flatten
  stable := fun _ _ _ h hm hs => ownsRow_keep h hm hs
theorem new_own {α : Type} {cells : α → List Value} {e sz : Nat} {l : List α} {w w' : World} {en : Ending} (h : NewSlice e sz w l.length (l.map cells).flatten en w') : NewR SlP (fun q => .slice q.a l.length q.c) (ownRes cells e sz l) w en w' := by
  obtain ⟨a, c, he, ho, hm⟩ := h
  exact ⟨⟨a, c, w.heap.size⟩, he, ⟨ho, fun k hk => ownBlock_lt ho hk⟩, hm⟩
theorem own_in {α : Type} {cells : α → List Value} {e sz : Nat} {l : List α} {q : SlP} {W : World} {R : Rg W} {L : List Blk} {O : List Own} {E : List Res} {w : World} (h : Loc W R L O E w) (hm : ownRes cells e sz l q ∈ E) (hc : ∀ x, (cells x).length = sz) (hsz : sz ≠ 0) : SliceAt (Flat cells) sz (fun k => q.lo ≤ k) w q.a l := own_slice (h.res _ hm).1 hc hsz
/-- Memory of which nothing more is told. -/
def deadRes : Res := ⟨fun _ => False, fun _ => True, fun _ _ _ _ _ _ => trivial⟩

/-- One cell of memory that a fact speaks of. -/
theorem OpW.loadRes {P : Program} {n : Nat} {W : World} {R : Rg W} {L : List Blk} {O : List Own} {E : List Res} {f : List (Nat × Value)} {d : Option Tmp} {T : TypeId} {x : Operand} {ty : TypeId} {pos : String} {af : Array Edge} {gd : Option (Nat × Bool)} {F : Res} {p o : Nat} {v : Value} [TOne P T] (hF : F ∈ E) (hx : evO f x = some (.pointer (some ⟨p, o, none⟩))) (hv : ∀ w, F.says w → w.cell? ⟨p, o, none⟩ = some v) : OpW P n W R L O E f ⟨d, .load T x, ty, pos, af, gd⟩ v :=
  OpW.of (fun a w hf hl => by simp [execOp, hf.eval hx, run_load1 (hv w (hl.res F hF).1)])

end Go.Proofs.YtpkpkojmaebflaaGreatDoor
namespace Go.Proofs.YtpkpkojmaebflaaGreatDoor
open Go.RowKit

/-- What a block that a pointer names is. -/
def gOf (v : Value) : Nat := match v with
  | .pointer (some a) => a.block
  | _ => 0
/-- Only a new block of the cells z may turn, to the cells r. -/
def TQ (B T0 : Nat) (z r : List Value) (w w' : World) : Prop := Mod (fun k => B ≤ k ∧ w.heap[k]? = some (.cells z.toArray T0 (0, 0)) ∧ w'.heap[k]? = some (.cells r.toArray T0 (0, 0))) w w'
structure Far (W : World) (L : List Blk) (O : List Own) (E : List Res) (B : Nat) : Prop where
  old : W.heap.size ≤ B
  blk : ∀ b ∈ L, b.g < B
  own : ∀ o ∈ O, ∀ k, o.v.ownBlock = some k → k < B
  res : ∀ F ∈ E, ∀ k, F.foot k → k < B
section
variable {P : Program} {n : Nat} {W : World} {R : Rg W} {L : List Blk} {O : List Own} {E : List Res} {w w' : World} {B T0 : Nat} {z r : List Value}
theorem Loc.far (h : Loc W R L O E w) : Far W L O E w.heap.size := ⟨h.mod.size, fun b hb => h.blk_lt hb, fun o ho k hk => (ownBlock_lt (h.own o ho).1 hk).2, fun F hF k hk => (h.res F hF).2.1 k hk⟩
theorem Loc.keepQ (hf : Far W L O E B) (h : Loc W R L O E w) (hm : TQ B T0 z r w w') : Loc W R L O E w' :=
  h.frame hm (fun k hk hs => by have := hf.old; have := hs.1; omega) (fun b hb hs => by have := hf.blk b hb; have := hs.1; omega) (fun o ho k hk hs => by have := hf.own o ho k hk; have := hs.1; omega) (fun F hF k hk hs => by have := hf.res F hF k hk; have := hs.1; omega)
theorem Loc.addNew (hf : Far W L O E B) (h : Loc W R L O E w) {g : Nat} (hg : B ≤ g) (hb : w.heap[g]? = some (.cells r.toArray T0 (0, 0))) : Loc W R (⟨g, r, T0⟩ :: L) O E w where
  mod := h.mod
  inv := h.inv
  blk := fun b hbm => by
    rcases List.mem_cons.1 hbm with rfl | hbm
    · exact ⟨.inr (Nat.le_trans hf.old hg), hb⟩
    · exact h.blk b hbm
  apart := List.pairwise_cons.2 ⟨fun b hbm e => by have := hf.blk b hbm; simp only at e; omega, h.apart⟩
  own := fun o ho => ⟨(h.own o ho).1, fun b hbm e => by
    rcases List.mem_cons.1 hbm with rfl | hbm
    · have := hf.own o ho _ e; simp only at this; omega
    · exact (h.own o ho).2 b hbm e⟩
  ownApart := h.ownApart
  res := fun F hF => ⟨(h.res F hF).1, (h.res F hF).2.1, fun b hbm f => by
    rcases List.mem_cons.1 hbm with rfl | hbm
    · have := hf.res F hF _ f; simp only at this; omega
    · exact (h.res F hF).2.2.1 b hbm f, (h.res F hF).2.2.2⟩
  resNew := h.resNew
  resApart := h.resApart
/-- A pointer at a new block of the cells z or r. -/
def AV (B T0 : Nat) (z r : List Value) (w : World) (v : Value) : Prop := ∃ g, v = .pointer (some ⟨g, 0, none⟩) ∧ B ≤ g ∧ (w.heap[g]? = some (.cells z.toArray T0 (0, 0)) ∨ w.heap[g]? = some (.cells r.toArray T0 (0, 0)))
theorem AV.keep {v : Value} (h : AV B T0 z r w v) (hm : TQ B T0 z r w w') : AV B T0 z r w' v := by
  obtain ⟨g, h1, h2, h3⟩ := h
  refine ⟨g, h1, h2, ?_⟩
  by_cases hs : B ≤ g ∧ w.heap[g]? = some (.cells z.toArray T0 (0, 0)) ∧ w'.heap[g]? = some (.cells r.toArray T0 (0, 0))
  · exact .inr hs.2.2
  · have hlt : g < w.heap.size := by rcases h3 with h3 | h3 <;> exact (Array.getElem?_eq_some_iff.1 h3).1
    rw [hm.block g hlt hs]
    exact h3
/-- The block that operation ka made holds the cells r. -/
def SV (ka T0 : Nat) (r : List Value) (x : Nat → Value) (w : World) (_ : Value) : Prop := w.heap[gOf (x ka)]? = some (.cells r.toArray T0 (0, 0))
theorem SV.keep {ka : Nat} {x : Nat → Value} {v : Value} (h : SV ka T0 r x w v) (hm : TQ B T0 z r w w') : SV ka T0 r x w' v := by
  unfold SV at *
  by_cases hs : B ≤ gOf (x ka) ∧ w.heap[gOf (x ka)]? = some (.cells z.toArray T0 (0, 0)) ∧ w'.heap[gOf (x ka)]? = some (.cells r.toArray T0 (0, 0))
  · exact hs.2.2
  · rw [hm.block _ (Array.getElem?_eq_some_iff.1 h).1 hs]
    exact h
structure SXq (P : Program) (n : Nat) (W : World) (R : Rg W) (ops : Array Oper) (L : List Blk) (O : List Own) (E : List Res) (B T0 : Nat) (z r : List Value) (k : Nat) (U : List (Nat × ((Nat → Value) → World → Value → Prop))) (f : (Nat → Value) → List (Nat × Value)) (l : List Oper) (Q : Exit → Act → World → Prop) : Prop where
  run : ∀ F : (Nat → Value) → Act, (∀ x, Fr n (f x) (F x)) → RS P ops (TQ B T0 z r) (fun w => Loc W R L O E w ∧ B ≤ w.heap.size) Q k l F U
end
section
variable {P : Program} {n : Nat} {W : World} {R : Rg W} {L : List Blk} {O : List Own} {E : List Res} {U : List (Nat × ((Nat → Value) → World → Value → Prop))} {f : (Nat → Value) → List (Nat × Value)} {f0 : List (Nat × Value)} {Q : Exit → Act → World → Prop} {ops : Array Oper} {rest : List Oper} {k B T0 : Nat} {z r : List Value}
theorem SXq.v {o : Oper} {v : Value} {d : Nat} (hr : ∀ x, OpW P n W R L O E (f x) o v) (hdst : o.dst = some d) (hw : ∀ x, wantO ops (f x) o = some true) (hd : Nat.blt d n = true) (h : SXq P n W R ops L O E B T0 z r (k + 1) U (fun x => (d, v) :: f x) rest Q) : SXq P n W R ops L O E B T0 z r k U f (o :: rest) Q := ⟨fun F hF =>
  RS.val [] (fun _ => v) rfl (fun _ _ _ => rfl) (fun x => wanted_of (hF x) (hw x)) (fun x w hS _ => wp_never ((hr x).run _ w (hF x) hS.1) fun _ _ ⟨h1, h2⟩ => ⟨h1, ⟨hS.1.keep h2, Nat.le_trans hS.2 h2.size⟩, h2.mono fun _ _ f => f.elim⟩) (by rw [hdst]; exact h.run _ fun x => (hF x).put hd v)⟩
theorem SXq.no {o : Oper} {d : Nat} (hw : ∀ x, wantO ops (f x) o = some false) (hdst : o.dst = some d) (hd : Nat.blt d n = true) (h : SXq P n W R ops L O E B T0 z r (k + 1) U (fun x => (d, undef) :: f x) rest Q) : SXq P n W R ops L O E B T0 z r k U f (o :: rest) Q := ⟨fun F hF =>
  RS.skip (fun x => wanted_of (hF x) (hw x)) (by rw [hdst]; exact h.run _ fun x => (hF x).put hd undef)⟩
variable {d m ka ks : Nat} {xo yo : Operand} {ty : TypeId} {pos : String} {af : Array Edge} {gd : Option (Nat × Bool)}
theorem SXq.alloc [t : TZero P T0 z] (hf : Far W L O E B) (hw : ∀ x, wantO ops (f x) ⟨some d, .alloc T0, ty, pos, af, gd⟩ = some true) (hd : Nat.blt d n = true)
    (h : SXq P n W R ops L O E B T0 z r (k + 1) ((k, fun _ => AV B T0 z r) :: U) (fun x => (d, .pointer (some ⟨gOf (x k), 0, none⟩)) :: f x) rest Q) : SXq P n W R ops L O E B T0 z r k U f (⟨some d, .alloc T0, ty, pos, af, gd⟩ :: rest) Q := ⟨fun F hF =>
  RS.new [] (AV B T0 z r) (fun v => .pointer (some ⟨gOf v, 0, none⟩)) (fun _ v ⟨g, hv, _⟩ => by subst hv; rfl) rfl (fun _ _ _ h hm => h.keep hm) (fun x => wanted_of (hF x) (hw x)) (fun x w hS _ => by
    obtain ⟨v, h1, h2⟩ := t.h
    obtain ⟨i, hi, hz⟩ := Option.map_eq_some_iff.1 h1
    have hrun : (execOp (F x).eval ⟨some d, .alloc T0, ty, pos, af, gd⟩).run P w = .ok (.value (.pointer (some ⟨w.heap.size, 0, none⟩))) (w.alloc (.cells z.toArray T0)) := by
      simp [execOp, Instr.alloc, zeroValue, typeInfo, hi, hz, newVar, newRow, h2]
    unfold Oper.wp
    rw [hrun, Oper.upon_value]
    have hm : Mod (fun _ => False) w (w.alloc (.cells z.toArray T0)) := (Mod.refl _ w).alloc _
    exact ⟨_, rfl, ⟨w.heap.size, rfl, hS.2, .inl (heap_alloc_new w _)⟩, ⟨hS.1.keep hm, Nat.le_trans hS.2 hm.size⟩, hm.mono fun _ _ f => f.elim⟩) (h.run _ fun x => (hF x).put hd _)⟩
theorem SXq.store (ka : Nat) [t : TRow P T0 m] (hf : Far W L O E B) (hus : ([ka].all fun i => (reach ops ops.size k).contains i) = true) (hU : (ka, fun _ => AV B T0 z r) ∈ U) (hw : ∀ x, wantO ops (f x) ⟨none, .store T0 xo yo, ty, pos, af, gd⟩ = some true) (hx : ∀ x, evO (f x) xo = some (.pointer (some ⟨gOf (x ka), 0, none⟩))) (hy : ∀ x, evO (f x) yo = some (.agg r.toArray)) (hr : r.length = m) (hz : z.length = m) (hv : r.all (·.oneCell') = true)
    (h : SXq P n W R ops L O E B T0 z r (k + 1) ((k, SV ka T0 r) :: U) f rest Q) : SXq P n W R ops L O E B T0 z r k U f (⟨none, .store T0 xo yo, ty, pos, af, gd⟩ :: rest) Q := ⟨fun F hF =>
  RS.newx [ka] (SV ka T0 r) id (fun _ _ _ _ => rfl) hus ⟨fun _ _ _ _ h hm => h.keep hm, fun x y w v hxy h => by unfold SV at *; rw [← hxy ka List.mem_cons_self]; exact h⟩ (fun x => wanted_of (hF x) (hw x)) (fun x w hS hK => by
    obtain ⟨_, h3⟩ := t.h
    obtain ⟨g, hg, hB, hc⟩ := hK _ hU List.mem_cons_self
    have eg : gOf (x ka) = g := by rw [hg]; rfl
    have hxx := hx x
    rw [eg] at hxx
    have key : ∀ cs : List Value, cs.length = m → w.heap[g]? = some (.cells cs.toArray T0 (0, 0)) → (execOp (F x).eval ⟨none, .store T0 xo yo, ty, pos, af, gd⟩).run P w = .ok .skip (w.setCells g 0 r) ∧ (w.setCells g 0 r).heap[g]? = some (.cells r.toArray T0 (0, 0)) := fun cs hcs hb => by
      have e := run_store_row (P := P) (ty := T0) h3 (w := w) (b := g) (o := 0) (S := r.toArray) (by simp [hasRow, hb, hcs]) (by simp [openRow, hb]) (by simpa using hr) (by simpa using hv)
      refine ⟨by simp [execOp, (hF x).eval hxx, (hF x).eval (hy x), e], ?_⟩
      rw [setCells_heap g r 0 w _ _ _ hb, spl_over]
      have := over_all r cs [] (by omega)
      simp only [List.nil_append, List.length_nil] at this
      rw [this]
    have hmm := mod_setCells g r 0 w
    have fin : (execOp (F x).eval ⟨none, .store T0 xo yo, ty, pos, af, gd⟩).run P w = .ok .skip (w.setCells g 0 r) ∧ (w.setCells g 0 r).heap[g]? = some (.cells r.toArray T0 (0, 0)) ∧ TQ B T0 z r w (w.setCells g 0 r) := by
      rcases hc with hc | hc
      · obtain ⟨k1, k2⟩ := key z hz hc
        exact ⟨k1, k2, hmm.mono fun k _ e => by subst e; exact ⟨hB, hc, k2⟩⟩
      · obtain ⟨k1, k2⟩ := key r hr hc
        exact ⟨k1, k2, hmm.os, hmm.tape, hmm.output, hmm.size, fun k hk hn => by
          by_cases e : k = g
          · subst e; rw [k2, hc]
          · exact hmm.block k hk e⟩
    obtain ⟨k1, k2, k3⟩ := fin
    unfold Oper.wp
    rw [k1, Oper.upon_skip]
    exact ⟨undef, rfl, by unfold SV; rw [eg]; exact k2, ⟨Loc.keepQ hf hS.1 k3, Nat.le_trans hS.2 k3.size⟩, k3⟩) (h.run _ hF)⟩
theorem SXq.nil (ka ks : Nat) (hf : Far W L O E B) (hA : (ka, fun _ => AV B T0 z r) ∈ U) (hS : (ks, SV ka T0 r) ∈ U) (h : ∀ x, SQ n W R (⟨gOf (x ka), r, T0⟩ :: L) O E (f x) .normal Q) : SXq P n W R ops L O E B T0 z r k U f [] Q := ⟨fun F hF => RS.done fun x w hSw hU => by
  obtain ⟨g, hg, hB, _⟩ := hU _ hA
  have hs := hU _ hS
  have eg : gOf (x ka) = g := by rw [hg]; rfl
  exact (h x).run _ w (hF x) (Loc.addNew hf hSw.1 (by rw [eg]; exact hB) hs)⟩
/-! A literal slice of one cell, made in the region's head. -/
def sOf (v : Value) : Nat := match v with
  | .slice (some a) _ _ => a.block
  | _ => 0
def BV (B e : Nat) (u : Value) (w : World) (v : Value) : Prop := ∃ g, v = .slice (some ⟨g, 0, none⟩) 1 1 ∧ B ≤ g ∧ w.heap[g]? = some (.cells #[u] e (0, 0))
theorem SXq.lit1 {T e by_ : Nat} {zv u : Value} [t : TSl P T e 1] [te : TEl P e 1 by_ zv] (hf : Far W L O E B) (hw : ∀ x, wantO ops (f x) ⟨some d, .buildSlice T 1 #[(0, xo)], ty, pos, af, gd⟩ = some true) (hd : Nat.blt d n = true) (hx : ∀ x, evO (f x) xo = some u) (hv : u.cells = #[u]) (hz : zv.cells = #[zv])
    (h : SXq P n W R ops L O E B T0 [] r (k + 1) ((k, fun _ => BV B e u) :: U) (fun x => (d, .slice (some ⟨sOf (x k), 0, none⟩) 1 1) :: f x) rest Q) : SXq P n W R ops L O E B T0 [] r k U f (⟨some d, .buildSlice T 1 #[(0, xo)], ty, pos, af, gd⟩ :: rest) Q := ⟨fun F hF =>
  RS.new [] (BV B e u) (fun v => .slice (some ⟨sOf v, 0, none⟩) 1 1) (fun _ v ⟨g, hv, _⟩ => by subst hv; rfl) rfl (fun w w' v ⟨g, h1, h2, h3⟩ hm => ⟨g, h1, h2, by
    rw [hm.block g (Array.getElem?_eq_some_iff.1 h3).1 (fun hs => by have := hs.2.1; rw [h3] at this; simp at this)]
    exact h3⟩) (fun x => wanted_of (hF x) (hw x)) (fun x w hS _ => by
    obtain ⟨i0, q1, q2, q3, q4, q5, q6⟩ := te.h
    have hfill : Instr.fill (fun i => some (i, 1)) #[zv] [(0, u)] = some #[u] := by
      unfold Instr.fill
      simp [hv, Instr.fill, List.zipIdx]
      rw [hv]
      rfl
    have hrun : (execOp (F x).eval ⟨some d, .buildSlice T 1 #[(0, xo)], ty, pos, af, gd⟩).run P w = .ok (.value (.slice (some ⟨w.heap.size, 0, none⟩) 1 1)) (w.alloc (.cells #[u] e)) := by
      have e3 : (Array.range 1).map (fun _ => zv) = #[zv] := by
        apply Array.ext_getElem?
        intro i
        cases i <;> simp [Array.getElem?_map, Array.getElem?_range]
      simp only [execOp, Instr.buildSlice, Sem.run_bind, run_underlying t.h.1, Result.andThen_ok, sizeOf, typeInfo, run_program, q1, Sem.run_pure, q3, Nat.mul_one]
      simp [newRow, zeroValue, typeInfo, q1, q2, hz, Nat.mod_one, (hF x).eval (hx x), e3, hfill]
    unfold Oper.wp
    rw [hrun, Oper.upon_value]
    have hm : Mod (fun _ => False) w (w.alloc (.cells #[u] e)) := (Mod.refl _ w).alloc _
    exact ⟨_, rfl, ⟨w.heap.size, rfl, hS.2, heap_alloc_new w _⟩, ⟨hS.1.keep hm, Nat.le_trans hS.2 hm.size⟩, hm.mono fun _ _ f => f.elim⟩) (h.run _ fun x => (hF x).put hd _)⟩
theorem SXq.tail (h : ∀ x, SXl P n W R ops L O E (f x) rest Q) : SXq P n W R ops L O E B T0 z r k U f [] (fun _ a w => wpList P ops Q rest a w) := ⟨fun F hF => RS.done fun x w hSw _ => (h x).run _ w (hF x) hSw.1⟩
end
end Go.Proofs.YtpkpkojmaebflaaGreatDoor
namespace Go.Proofs.YtpkpkojmaebflaaGreatDoor
open Go.RowKit

section
variable {P : Program} {n : Nat} {W : World} {R : Rg W} {L : List Blk} {O : List Own} {E : List Res} {w w' : World} {B : Nat}
/-- A new fact on memory that lies beyond B. -/
theorem Loc.toldB (hf : Far W L O E B) (h : Loc W R L O E w) {F1 : Res} (h1 : F1.says w) (h2 : ∀ k, F1.foot k → B ≤ k ∧ k < w.heap.size) : Loc W R L O (F1 :: E) w where
  mod := h.mod
  inv := h.inv
  blk := h.blk
  apart := h.apart
  own := h.own
  ownApart := h.ownApart
  res := fun F hF => by
    rcases List.mem_cons.1 hF with rfl | hF
    · refine ⟨h1, fun k hk => (h2 k hk).2, fun b hb f => ?_, fun o ho k hk f => ?_⟩
      · have := hf.blk b hb; have := (h2 _ f).1; omega
      · have := hf.own o ho k hk; have := (h2 _ f).1; omega
    · exact h.res F hF
  resNew := fun F hF k hk => by
    rcases List.mem_cons.1 hF with rfl | hF
    · exact Nat.le_trans hf.old (h2 k hk).1
    · exact h.resNew F hF k hk
  resApart := List.pairwise_cons.2 ⟨fun G hG k hk hk' => by have := hf.res G hG k hk'; have := (h2 k hk).1; omega, h.resApart⟩
/-- What a call handed back, told. -/
def WV {ξ : Type} (v : ξ → Value) (F1 : ξ → Res) (B : Nat) (w : World) (u : Value) : Prop := ∃ p, u = v p ∧ (F1 p).says w ∧ ∀ k, (F1 p).foot k → B ≤ k ∧ k < w.heap.size
theorem WV.keep {ξ : Type} {v : ξ → Value} {F1 : ξ → Res} {u : Value} (h : WV v F1 B w u) (hm : Mod (fun _ => False) w w') : WV v F1 B w' u := by
  obtain ⟨p, h1, h2, h3⟩ := h
  exact ⟨p, h1, (F1 p).stable _ _ _ h2 hm (fun _ _ f => f), fun k hk => ⟨(h3 k hk).1, Nat.lt_of_lt_of_le (h3 k hk).2 hm.size⟩⟩
structure SXw (P : Program) (n : Nat) (W : World) (R : Rg W) (ops : Array Oper) (L : List Blk) (O : List Own) (E : List Res) (B : Nat) (k : Nat) (U : List (Nat × ((Nat → Value) → World → Value → Prop))) (f : (Nat → Value) → List (Nat × Value)) (l : List Oper) (Q : Exit → Act → World → Prop) : Prop where
  run : ∀ F : (Nat → Value) → Act, (∀ x, Fr n (f x) (F x)) → RS P ops (Mod fun _ => False) (fun w => Loc W R L O E w ∧ B ≤ w.heap.size) Q k l F U
end
section
variable {P : Program} {n : Nat} {W : World} {R : Rg W} {L : List Blk} {O : List Own} {E : List Res} {U : List (Nat × ((Nat → Value) → World → Value → Prop))} {f : (Nat → Value) → List (Nat × Value)} {f0 : List (Nat × Value)} {Q : Exit → Act → World → Prop} {ops : Array Oper} {rest : List Oper} {k B : Nat}
theorem SX.drawnWT {id : Nat} {l : List Oper} (m : Nat) (hm : P.follows .mixedOrders = true) (hc : regOkTo m l.toArray = true) (ht : tailOk l.toArray m = true) (h : ∀ B, Far W L O E B → SXw P n W R l.toArray L O E B 0 [] (fun _ => f0) (l.take m) (fun _ a w => wpList P l.toArray Q (l.drop m) a w)) : SX P n W R L O E f0 (.region id l.toArray true) Q := ⟨fun a w hf hl =>
  wp_region_rs_tail m (fun w' => Loc W R L O E w' ∧ w.heap.size ≤ w'.heap.size) (Mod fun _ => False) hm hc ht ⟨hl.keep ((Mod.refl _ w).drew), Nat.le_refl _⟩ ((h w.heap.size hl.far).run _ fun _ => hf)⟩
theorem SXw.v {o : Oper} {v : Value} {d : Nat} (hr : ∀ x, OpW P n W R L O E (f x) o v) (hdst : o.dst = some d) (hw : ∀ x, wantO ops (f x) o = some true) (hd : Nat.blt d n = true) (h : SXw P n W R ops L O E B (k + 1) U (fun x => (d, v) :: f x) rest Q) : SXw P n W R ops L O E B k U f (o :: rest) Q := ⟨fun F hF =>
  RS.val [] (fun _ => v) rfl (fun _ _ _ => rfl) (fun x => wanted_of (hF x) (hw x)) (fun x w hS _ => wp_never ((hr x).run _ w (hF x) hS.1) fun _ _ ⟨h1, h2⟩ => ⟨h1, ⟨hS.1.keep h2, Nat.le_trans hS.2 h2.size⟩, h2⟩) (by rw [hdst]; exact h.run _ fun x => (hF x).put hd v)⟩
theorem SXw.no {o : Oper} {d : Nat} (hw : ∀ x, wantO ops (f x) o = some false) (hdst : o.dst = some d) (hd : Nat.blt d n = true) (h : SXw P n W R ops L O E B (k + 1) U (fun x => (d, undef) :: f x) rest Q) : SXw P n W R ops L O E B k U f (o :: rest) Q := ⟨fun F hF =>
  RS.skip (fun x => wanted_of (hF x) (hw x)) (by rw [hdst]; exact h.run _ fun x => (hF x).put hd undef)⟩
variable {d : Nat} {fn : FuncId} {ars : List Operand} {aT : Array TypeId} {ty : TypeId} {pos : String} {af : Array Edge} {gd : Option (Nat × Bool)}
/-- A call that hands back new memory. -/
theorem SXw.new {ξ : Type} {args : List Value} [TFun P fn] (v : ξ → Value) (F1 : ξ → Res) (hw : ∀ x, wantO ops (f x) ⟨some d, .call ⟨.value (.func fn), ars.toArray, aT⟩, ty, pos, af, gd⟩ = some true) (hd : Nat.blt d n = true) (ha : ∀ x, evL (f x) ars = some args)
    (hc : ∀ w, Loc W R L O E w → Calls P fn args.toArray w (NewR ξ v F1 w))
    (h : SXw P n W R ops L O E B (k + 1) ((k, fun _ => WV v F1 B) :: U) (fun x => (d, x k) :: f x) rest Q) : SXw P n W R ops L O E B k U f (⟨some d, .call ⟨.value (.func fn), ars.toArray, aT⟩, ty, pos, af, gd⟩ :: rest) Q := ⟨fun F hF =>
  RS.new [] (WV v F1 B) id (fun _ _ _ => rfl) rfl (fun _ _ _ h hm => h.keep hm) (fun x => wanted_of (hF x) (hw x)) (fun x w hS _ => by
    unfold Oper.wp
    rw [run_callop (hF x) (ha x) w _ _, Oper.upon_enter]
    refine (hc w hS.1).mono ?_
    rintro e w' ⟨p, rfl, h1, h2⟩
    exact ⟨v p, rfl, ⟨p, rfl, h1.1, fun k hk => ⟨Nat.le_trans hS.2 (h1.2 k hk).1, (h1.2 k hk).2⟩⟩, ⟨hS.1.keep h2, Nat.le_trans hS.2 h2.size⟩, h2⟩) (h.run _ fun x => (hF x).put hd _)⟩
/-- A call that is handed such memory. -/
theorem SXw.use {v : Value} {args : (Nat → Value) → List Value} [TFun P fn] (us : List Nat) (hus : (us.all fun i => (reach ops ops.size k).contains i) = true) (hw : ∀ x, wantO ops (f x) ⟨some d, .call ⟨.value (.func fn), ars.toArray, aT⟩, ty, pos, af, gd⟩ = some true) (hd : Nat.blt d n = true) (ha : ∀ x, evL (f x) ars = some (args x))
    (hc : ∀ x w, Loc W R L O E w → (∀ u ∈ U, u.1 ∈ us → u.2 x w (x u.1)) → Calls P fn (args x).toArray w fun e w' => e = .returned v ∧ Mod (fun _ => False) w w')
    (h : SXw P n W R ops L O E B (k + 1) U (fun x => (d, v) :: f x) rest Q) : SXw P n W R ops L O E B k U f (⟨some d, .call ⟨.value (.func fn), ars.toArray, aT⟩, ty, pos, af, gd⟩ :: rest) Q := ⟨fun F hF =>
  RS.val us (fun _ => v) hus (fun _ _ _ => rfl) (fun x => wanted_of (hF x) (hw x)) (fun x w hS hK => by
    unfold Oper.wp
    rw [run_callop (hF x) (ha x) w _ _, Oper.upon_enter]
    refine (hc x w hS.1 hK).mono ?_
    rintro e w' ⟨rfl, h2⟩
    exact ⟨rfl, ⟨hS.1.keep h2, Nat.le_trans hS.2 h2.size⟩, h2⟩) (h.run _ fun x => (hF x).put hd _)⟩
theorem SXw.nil (h : ∀ x, SQ n W R L O E (f x) .normal Q) : SXw P n W R ops L O E B k U f [] Q := ⟨fun F hF => RS.done fun x w hS _ => (h x).run (F x) w (hF x) hS.1⟩
theorem SXw.tail {ξ : Type} {v : ξ → Value} {F1 : ξ → Res} (ka : Nat) (hf : Far W L O E B) (hA : (ka, fun _ => WV v F1 B) ∈ U) (h : ∀ x p, x ka = v p → SXl P n W R ops L O (F1 p :: E) (f x) rest Q) : SXw P n W R ops L O E B k U f [] (fun _ a w => wpList P ops Q rest a w) := ⟨fun F hF => RS.done fun x w hS hU => by
  obtain ⟨p, h1, h2, h3⟩ := hU _ hA
  exact (h x p h1).run (F x) w (hF x) (Loc.toldB hf hS.1 h2 h3)⟩
end
end Go.Proofs.YtpkpkojmaebflaaGreatDoor
namespace Go.Proofs.YtpkpkojmaebflaaGreatDoor
open Go.RowKit
set_option linter.unusedVariables false
set_option linter.unusedSimpArgs false

theorem icell_len (x : Int) : (icell x).length = 1 := rfl
theorem icell_one (x : Int) : ∀ u ∈ icell x, u.oneCell' = true := fun u hu => by simp [icell] at hu; subst hu; rfl
/-- A node and what is below its first j children. -/
def undTo (l : List Node) (n : Int) (kids : List Int) (j : Nat) : List Int := n :: ((kids.take j).map (allU l)).flatten
theorem undTo_succ {l : List Node} {n : Int} {kids : List Int} {j : Nat} {y : Int} (h : kids[j]? = some y) : undTo l n kids (j + 1) = undTo l n kids j ++ allU l y := by
  unfold undTo
  rw [List.take_add_one, h]
  simp
theorem undTo_len {l : List Node} (hv : treeOk l = true) {k : Nat} {x : Node} (hx : l[k]? = some x) {j : Nat} (hj : j ≤ x.kids.length) : (undTo l ((k + 1 : Nat) : Int) x.kids j).length ≤ 30000 := by
  have h1 := allU_len hv hx
  rw [allU_eq hv hx] at h1
  have h2 : (x.kids.map (allU l)).flatten = ((x.kids.take j).map (allU l)).flatten ++ ((x.kids.drop j).map (allU l)).flatten := by
    rw [← List.flatten_append, ← List.map_append, List.take_append_drop]
  rw [h2] at h1
  unfold undTo
  simp only [List.length_cons, List.length_append] at h1 ⊢
  omega
set_option maxRecDepth 100000 in
set_option maxHeartbeats 8000000 in
theorem allUnder_any (l : List Node) (o : Bool) (a : Option Addr) (c : Nat) (R : Nat → Prop) (hv : treeOk l = true) : ∀ (f k : Nat) (x : Node) (w : World), l[k]? = some x → dep l ((k + 1 : Nat) : Int) = 5 - (f : Int) → NodeSlice o R w a l →
    Calls Tryz.prog 52 #[.agg #[.slice a l.length c], .int .i64 ((k + 1 : Nat) : Int)] w (NewSlice 3 1 w (allU l ((k + 1 : Nat) : Int)).length ((allU l ((k + 1 : Nat) : Int)).map icell).flatten) := by
  intro f
  induction f with
  | zero =>
    intro k x w hx hd
    have := (ok_node hv hx).2.1
    omega
  | succ f ih =>
    intro k x w hx hd h
    have hlt := (List.getElem?_eq_some_iff.1 hx).1
    have hln := ok_len hv
    have hkl := ok_kids_len hv hx
    have hU := allU_eq hv hx
    have hUl := allU_len hv hx
    refine calls_sx Tryz.func52 rfl rfl (fun a h1 h2 h3 => ((Fr.nil h1 h2).arg (h3 1 _ rfl)).arg (h3 0 _ rfl)) ?_
    obtain ⟨b1, o1, x1, r1, rfl, hR1, hb1, hxk, hr1, hl1, hc1⟩ := h.get hlt
    obtain rfl : x1 = x := Option.some.inj (hxk.out.symm.trans hx)
    obtain ⟨up, kids, st, me, ru⟩ := x1
    obtain ⟨ka, kc, ra, rc, rfl, hk1, ht1, _⟩ := hr1
    simp only at hc1 hk1 hkl hU
    repeat (first | refine SX.seq ?_ | refine SXl.nil ?_ | refine SX.region ?_ | refine SQ.thenNormal ?_ | refine SX.block ?_ | (refine l_call ?_; (refine SXl.v (OpW.call rfl (fun w hl => node_any _ _ _ _ k _ _ _ _ _ _ _ _ _ w (by omega) hlt (fun j v hv => hl.old (hc1 j v hv) (fun h => h)))) rfl ?_ ?_ ?_); rfl; rfl) | (refine l_field ?_; (refine SXl.v (OpW.field rfl (nodeRow_a1 _ _ _ _ _ _ _ _ _)) rfl ?_ ?_ ?_); rfl; rfl) | (refine l_load ?_; (refine SXl.v (OpW.loadAll 1 rfl rfl rfl) rfl ?_ ?_ ?_); rfl; rfl) | (refine l_move ?_; (refine SXl.v (OpW.move rfl) rfl ?_ ?_ ?_); rfl; rfl) | (refine l_assign ?_; (refine SXl.v (OpW.assign rfl) rfl ?_ ?_ ?_); rfl; rfl) | (refine l_len ?_; (refine SXl.v (OpW.len rfl) rfl ?_ ?_ ?_); rfl; rfl) | (refine l_box ?_; refine SXl.box ?_ ?_ rfl rfl (fun g => ?_); rfl; rfl) | (refine l_buildSlice ?_; first | (refine SXl.lit1 ?_ ?_ rfl rfl rfl (fun g => ?_); rfl; rfl) | (refine SXl.lit0 ?_ ?_ (fun _ h => h) rfl (fun g => ?_); rfl; rfl)))
    rename_i g2
    refine SX.loop3 (fun (j : Nat) (_ : Option Addr) (_ : Nat) => j ≤ kids.length) (fun j _ _ => kids.length - j) (fun _ _ _ => [⟨g2, [.slice (some ⟨b1, o1, none⟩) l.length c], 37⟩]) (fun j a' c' => [⟨.slice a' (undTo l ((k + 1 : Nat) : Int) kids j).length c', 3, 1, (undTo l ((k + 1 : Nat) : Int) kids j).length, ((undTo l ((k + 1 : Nat) : Int) kids j).map icell).flatten⟩]) (fun _ _ _ => []) (fun j a' c' => [(2, .pointer (some ⟨g2, 0, none⟩)), (5, .slice a' (undTo l ((k + 1 : Nat) : Int) kids j).length c'), (13, .slice ka kids.length kc), (14, .int .i64 kids.length), (15, .int .i64 j)]) 0 (some ⟨g, 0, none⟩) 1 (Nat.zero_le _) ?_ (fun _ hl => hl.toOwn (m := 1) (sz := 1) (fun h => h) rfl (by decide)) ?_
    · (repeat (first | exact subF_nil _ | (refine subF_cons rfl ?_) | (refine subF_consv rfl (by rfl) ?_)))
    intro j a' c' hj
    have hUj := undTo_len hv hx (by simpa using hj)
    simp only at hUj
    by_cases hjl : j < kids.length
    · obtain ⟨b3, o3, y, e3, hR3, hb3, hyk, hc3⟩ := IntSlice.get hk1 hjl
      subst e3
      replace hyk := hyk.out
      obtain ⟨ky, z, rfl, hz, hzu, hzd⟩ := ok_kid hv hx (List.mem_of_getElem? hyk)
      have hS := undTo_succ (l := l) (n := ((k + 1 : Nat) : Int)) hyk
      have hzl := allU_len hv hz
      repeat (first | refine SX.seq ?_ | refine SXl.nil ?_ | refine SX.region ?_ | refine SQ.thenNormal ?_ | refine SX.block ?_ | refine SX.skip ?_ | refine SX.condT rfl ?_ | (refine l_load ?_; (first | refine SXl.v (OpW.loadOld rfl (by assumption) (fun h => h)) rfl ?_ ?_ ?_ | refine SXl.v (OpW.loadAll 0 rfl rfl rfl) rfl ?_ ?_ ?_); rfl; rfl) | (refine l_move ?_; (refine SXl.v (OpW.move rfl) rfl ?_ ?_ ?_); rfl; rfl) | (refine l_assign ?_; (refine SXl.v (OpW.assign rfl) rfl ?_ ?_ ?_); rfl; rfl) | (refine l_lss ?_; (refine SXl.v (OpW.lssT rfl rfl (by omega)) rfl ?_ ?_ ?_); rfl; rfl) | (refine l_indexAddr ?_; (refine SXl.v (OpW.indexAddr1 (by omega) rfl rfl) rfl ?_ ?_ ?_); rfl; rfl))
      refine l_call ?_
      refine SXl.calln1 (v := fun q => .slice q.a (allU l ((ky + 1 : Nat) : Int)).length q.c) (F1 := ownRes icell 3 1 (allU l ((ky + 1 : Nat) : Int))) rfl rfl rfl (fun w hl => (ih ky z w hz (by rw [hzd, hd]; omega) (h.keep hl.mod)).mono fun _ _ h => new_own h) (fun q => ?_)
      refine l_append ?_
      refine SXl.appendS (cs := icell) 0 (allU l ((ky + 1 : Nat) : Int)) rfl rfl rfl rfl rfl rfl icell_len icell_one (fun w hl => ⟨_, own_in hl (.head _) (fun _ => rfl) (by decide)⟩) (by omega) (by omega) (fun a2 c2 => ?_)
      simp only [List.set_cons_zero, List.set_cons_succ]
      repeat (first | refine SXl.nil ?_ | refine SX.region ?_ | refine SQ.thenNormal ?_ | (refine l_move ?_; (refine SXl.v (OpW.move rfl) rfl ?_ ?_ ?_); rfl; rfl) | (refine l_assign ?_; (refine SXl.v (OpW.assign rfl) rfl ?_ ?_ ?_); rfl; rfl) | (refine l_add ?_; (refine SXl.v (OpW.succ rfl rfl (by omega)) rfl ?_ ?_ ?_); rfl; rfl) | refine SQ.blockNormal ?_)
      refine SQ.round3 (j + 1) a2 c2 (by omega) (by omega) ?_ (fun w hl => by rw [hS, List.length_append, List.map_append, List.flatten_append]; exact hl.dropE)
      (repeat (first | exact subF_nil _ | (refine subF_cons rfl ?_) | (refine subF_consv rfl (by rw [hS, List.length_append]) ?_)))
    · have hj' : j = kids.length := by omega
      subst hj'
      have hall : undTo l ((k + 1 : Nat) : Int) kids kids.length = allU l ((k + 1 : Nat) : Int) := by rw [hU]; unfold undTo; rw [List.take_length]
      rw [hall] at *
      repeat (first | refine SX.seq ?_ | refine SXl.nil ?_ | refine SX.region ?_ | refine SQ.thenNormal ?_ | refine SX.condF rfl ?_ | (refine l_move ?_; (refine SXl.v (OpW.move rfl) rfl ?_ ?_ ?_); rfl; rfl) | (refine l_assign ?_; (refine SXl.v (OpW.assign rfl) rfl ?_ ?_ ?_); rfl; rfl) | (refine l_lss ?_; (refine SXl.v (OpW.lssF rfl rfl (by omega)) rfl ?_ ?_ ?_); rfl; rfl) | refine SX.ret ?_ | refine SX.exit ?_ | refine SQ.thenExit ?_ | refine SQ.blockExit ?_)
      refine SQ.body1 rfl rfl (fun w' hl => ⟨_, _, rfl, (hl.own _ List.mem_cons_self).1, hl.mod⟩)
set_option maxRecDepth 100000 in
set_option maxHeartbeats 8000000 in
theorem sallUnder_any (l : List Node) (o : Bool) (a : Option Addr) (c : Nat) (R : Nat → Prop) (hv : treeOk l = true) (hfit : ∀ x ∈ l, x.fits 1048576) : ∀ (f k : Nat) (x : Node) (w : World), l[k]? = some x → dep l ((k + 1 : Nat) : Int) = 5 - (f : Int) → NodeSlice o R w a l →
    Calls Tryz.prog 39 #[.agg #[.slice a l.length c], .int .i64 ((k + 1 : Nat) : Int)] w (NewSlice 3 1 w (allU l ((k + 1 : Nat) : Int)).length ((allU l ((k + 1 : Nat) : Int)).map icell).flatten) := by
  intro f
  induction f with
  | zero =>
    intro k x w hx hd
    have := (ok_node hv hx).2.1
    omega
  | succ f ih =>
    intro k x w hx hd h
    have hlt := (List.getElem?_eq_some_iff.1 hx).1
    have hln := ok_len hv
    have hkl := ok_kids_len hv hx
    have hU := allU_eq hv hx
    have hUl := allU_len hv hx
    have hin : inB ((k + 1 : Nat) : Int) 1 l.length = true := inB_true (by omega) (by omega)
    refine calls_sx Tryz.func39 rfl rfl (fun a h1 h2 h3 => ((Fr.nil h1 h2).arg (h3 1 _ rfl)).arg (h3 0 _ rfl)) ?_
    obtain ⟨b1, o1, x1, r1, rfl, hR1, hb1, hxk, hr1, hl1, hc1⟩ := h.get hlt
    obtain rfl : x1 = x := Option.some.inj (hxk.out.symm.trans hx)
    have hT := fun w (hm : Mod (fun _ => False) _ w) => streeOk_any l o (some ⟨b1, o1, none⟩) c R w (by omega) hfit (h.keep hm)
    rw [hv] at hT
    obtain ⟨up, kids, st, me, ru⟩ := x1
    obtain ⟨ka, kc, ra, rc, rfl, hk1, ht1, _⟩ := hr1
    simp only at hc1 hk1 hkl hU
    repeat (first | refine SX.seq ?_ | refine SXl.nil ?_ | refine SX.region ?_ | refine SQ.thenNormal ?_ | refine SX.block ?_ | refine SX.skip ?_ | refine SX.condF rfl ?_ | (refine l_call ?_; (first | refine SXl.v (OpW.call rfl (fun w hl => hT _ hl.mod)) rfl ?_ ?_ ?_ | refine SXl.v (OpW.call rfl (fun w hl => sisNode_any _ _ _ _ _)) rfl ?_ ?_ ?_ | refine SXl.v (OpW.call rfl (fun w hl => snode_any _ _ _ _ k _ _ _ _ _ _ _ _ _ w (by omega) hlt (fun j v hv => hl.old (hc1 j v hv) (fun h => h)))) rfl ?_ ?_ ?_); rfl; rfl) | (refine l_field ?_; (refine SXl.v (OpW.field rfl (nodeRow_a1 _ _ _ _ _ _ _ _ _)) rfl ?_ ?_ ?_); rfl; rfl) | (refine l_load ?_; (first | refine SXl.v (OpW.loadAll 0 rfl rfl rfl) rfl ?_ ?_ ?_ | refine SXl.v (OpW.loadAll 1 rfl rfl rfl) rfl ?_ ?_ ?_); rfl; rfl) | (refine l_move ?_; (refine SXl.v (OpW.move rfl) rfl ?_ ?_ ?_); rfl; rfl) | (refine l_assign ?_; (refine SXl.v (OpW.assign rfl) rfl ?_ ?_ ?_); rfl; rfl) | (refine l_not ?_; (refine SXl.v (OpW.not rfl) rfl ?_ ?_ ?_); rfl; rfl) | (refine l_pick ?_; (refine SXl.v (OpW.pick rfl rfl rfl) rfl ?_ ?_ ?_); rfl; rfl) | (refine l_box ?_; refine SXl.box ?_ ?_ rfl rfl (fun g => ?_); rfl; rfl) | (refine l_buildSlice ?_; first | (refine SXl.lit1 ?_ ?_ rfl rfl rfl (fun g => ?_); rfl; rfl) | (refine SXl.lit0 ?_ ?_ (fun _ h => h) rfl (fun g => ?_); rfl; rfl)) | (refine l_append ?_; first | (refine SXl.append 0 0 rfl rfl rfl rfl rfl rfl rfl rfl (by omega) (by omega) (fun a c => ?_); simp only [List.set_cons_zero, List.set_cons_succ]) | (refine SXl.append 1 0 rfl rfl rfl rfl rfl rfl rfl rfl (by omega) (by omega) (fun a c => ?_); simp only [List.set_cons_zero, List.set_cons_succ])) | (rw [hin]))
    rename_i ct _ g2 _
    refine SX.loop3 (fun (j : Nat) (_ : Option Addr) (_ : Nat) => j ≤ kids.length) (fun j _ _ => kids.length - j) (fun _ _ _ => [⟨g2, [.slice (some ⟨b1, o1, none⟩) l.length ct], 37⟩]) (fun j a' c' => [⟨.slice a' (undTo l ((k + 1 : Nat) : Int) kids j).length c', 3, 1, (undTo l ((k + 1 : Nat) : Int) kids j).length, ((undTo l ((k + 1 : Nat) : Int) kids j).map icell).flatten⟩]) (fun _ _ _ => []) (fun j a' c' => [(2, .pointer (some ⟨g2, 0, none⟩)), (5, .slice a' (undTo l ((k + 1 : Nat) : Int) kids j).length c'), (6, .slice ka kids.length kc), (7, .int .i64 j)]) 0 _ _ (Nat.zero_le _) ?_ (fun _ hl => hl.drop1) ?_
    · (repeat (first | exact subF_nil _ | (refine subF_cons rfl ?_) | (refine subF_consv rfl (by rfl) ?_)))
    intro j a' c' hj
    have hUj := undTo_len hv hx (by simpa using hj)
    simp only at hUj
    by_cases hjl : j < kids.length
    · obtain ⟨b3, o3, y, e3, hR3, hb3, hyk, hc3⟩ := IntSlice.get hk1 hjl
      subst e3
      replace hyk := hyk.out
      obtain ⟨ky, z, rfl, hz, hzu, hzd⟩ := ok_kid hv hx (List.mem_of_getElem? hyk)
      have hS := undTo_succ (l := l) (n := ((k + 1 : Nat) : Int)) hyk
      have hzl := allU_len hv hz
      repeat (first | refine SX.seq ?_ | refine SXl.nil ?_ | refine SX.region ?_ | refine SQ.thenNormal ?_ | refine SX.block ?_ | refine SX.skip ?_ | refine SX.condT rfl ?_ | (refine l_move ?_; (refine SXl.v (OpW.move rfl) rfl ?_ ?_ ?_); rfl; rfl) | (refine l_len ?_; (refine SXl.v (OpW.len rfl) rfl ?_ ?_ ?_); rfl; rfl) | (refine l_lss ?_; (refine SXl.v (OpW.lssT rfl rfl (by omega)) rfl ?_ ?_ ?_); rfl; rfl))
      refine SX.drawnWT 7 (by kernel_rfl) (by kernel_rfl) (by kernel_rfl) (fun B hf => ?_)
      repeat (first | (refine SXw.new (ξ := SlP) (fun q => .slice q.a (allU l ((ky + 1 : Nat) : Int)).length q.c) (ownRes icell 3 1 (allU l ((ky + 1 : Nat) : Int))) (fun _ => rfl) rfl (fun _ => rfl) (fun w hl => (ih ky z w hz (by rw [hzd, hd]; omega) (h.keep hl.mod)).mono fun _ _ h => new_own h) ?_) | (refine SXw.v (fun _ => (OpW.loadOld rfl (by assumption) (fun h => h))) rfl (fun _ => rfl) rfl ?_) | (refine SXw.v (fun _ => (OpW.loadAll 0 rfl rfl rfl)) rfl (fun _ => rfl) rfl ?_) | (refine SXw.v (fun _ => (OpW.move rfl)) rfl (fun _ => rfl) rfl ?_) | (refine SXw.v (fun _ => (OpW.indexAddr1 (by omega) rfl rfl)) rfl (fun _ => rfl) rfl ?_))
      refine SXw.tail 6 hf (.head _) (fun xq q hxq => ?_)
      simp only [hxq]
      refine l_append ?_
      refine SXl.appendS (cs := icell) 0 (allU l ((ky + 1 : Nat) : Int)) rfl rfl rfl rfl rfl rfl icell_len icell_one (fun w hl => ⟨_, own_in hl (.head _) (fun _ => rfl) (by decide)⟩) (by omega) (by omega) (fun a2 c2 => ?_)
      simp only [List.set_cons_zero, List.set_cons_succ]
      repeat (first | refine SXl.nil ?_ | refine SX.region ?_ | refine SQ.thenNormal ?_ | (refine l_move ?_; (refine SXl.v (OpW.move rfl) rfl ?_ ?_ ?_); rfl; rfl) | (refine l_assign ?_; (refine SXl.v (OpW.assign rfl) rfl ?_ ?_ ?_); rfl; rfl) | (refine l_add ?_; (refine SXl.v (OpW.succ rfl rfl (by omega)) rfl ?_ ?_ ?_); rfl; rfl) | refine SQ.blockNormal ?_)
      refine SQ.round3 (j + 1) a2 c2 (by omega) (by omega) ?_ (fun w hl => by rw [hS, List.length_append, List.map_append, List.flatten_append]; exact hl.dropE)
      (repeat (first | exact subF_nil _ | (refine subF_cons rfl ?_) | (refine subF_consv rfl (by rw [hS, List.length_append]) ?_)))
    · have hj' : j = kids.length := by omega
      subst hj'
      have hall : undTo l ((k + 1 : Nat) : Int) kids kids.length = allU l ((k + 1 : Nat) : Int) := by rw [hU]; unfold undTo; rw [List.take_length]
      rw [hall] at *
      repeat (first | refine SX.seq ?_ | refine SXl.nil ?_ | refine SX.region ?_ | refine SQ.thenNormal ?_ | refine SX.condF rfl ?_ | (refine l_move ?_; (refine SXl.v (OpW.move rfl) rfl ?_ ?_ ?_); rfl; rfl) | (refine l_assign ?_; (refine SXl.v (OpW.assign rfl) rfl ?_ ?_ ?_); rfl; rfl) | (refine l_len ?_; (refine SXl.v (OpW.len rfl) rfl ?_ ?_ ?_); rfl; rfl) | (refine l_lss ?_; (refine SXl.v (OpW.lssF rfl rfl (by omega)) rfl ?_ ?_ ?_); rfl; rfl) | refine SX.ret ?_ | refine SX.exit ?_ | refine SQ.thenExit ?_ | refine SQ.blockExit ?_)
      refine SQ.body1 rfl rfl (fun w' hl => ⟨_, _, rfl, (hl.own _ List.mem_cons_self).1, hl.mod⟩)
end Go.Proofs.YtpkpkojmaebflaaGreatDoor
namespace Go.Proofs.YtpkpkojmaebflaaGreatDoor
open Go.RowKit

/-- The cells of the rows l in block g. -/
structure RowsKept {α : Type} (cells : α → List Value) (sz : Nat) (l : List α) (g : Nat) (w : World) : Prop where
  h : ∀ (i : Nat) (x : α) (j : Nat) (v : Value), l[i]? = some x → (cells x)[j]? = some v → w.cell? ⟨g, i * sz + j, none⟩ = some v
def rowsRes {α : Type} (cells : α → List Value) (sz : Nat) (l : List α) (p : Nat × Nat) : Res where
  foot := fun k => k = p.1
  says := RowsKept cells sz l p.1
  stable := fun S w w' h hm hs => ⟨fun i x j v hi hj => by
    have := h.h i x j v hi hj
    rw [hm.cell (World.block_lt_of_cell? w _ this) (hs p.1 rfl)]
    exact this⟩
theorem rows_of {α : Type} {cells : α → List Value} {e sz : Nat} {l : List α} {w w' : World} {en : Ending} (hne : l ≠ []) (hsz : ∀ x, (cells x).length = sz) (h : NewSlice e sz w l.length (l.map cells).flatten en w') : NewR (Nat × Nat) (fun p => .slice (some ⟨p.1, 0, none⟩) l.length p.2) (rowsRes cells sz l) w en w' := by
  obtain ⟨a, c, he, ho, hm⟩ := h
  rcases own_parts ho with h0 | ⟨b, rfl, h1, h2, h3, _⟩
  · exact (hne (List.length_eq_zero_iff.1 h0)).elim
  · refine ⟨(b, c), he, ⟨⟨fun i x j v hi hj => ?_⟩, fun k hk => by subst hk; exact ⟨h1, h2⟩⟩, hm⟩
    refine h3 _ _ ?_
    have hmem : (l.map cells)[i]? = some (cells x) := by rw [List.getElem?_map, hi]; rfl
    exact flatten_at (rows := l.map cells) (sz := sz) (by intro r hr; obtain ⟨z, _, rfl⟩ := List.mem_map.1 hr; exact hsz z) hmem hj
end Go.Proofs.YtpkpkojmaebflaaGreatDoor
namespace Go.Proofs.YtpkpkojmaebflaaGreatDoor
open Go.RowKit

/-- The sign of a digit. -/
def digit (d : Nat) : UInt8 := UInt8.ofNat (48 + d)
/-- What is left to write of n, and what is written. -/
def DigInv (n m : Int) (l : List UInt8) : Prop := Lib.decDigits n.natAbs = (if m = 0 then l else Lib.decDigits m.natAbs ++ l)
theorem DigInv.start (n : Int) (h : n ≠ 0) : DigInv n n [] := by unfold DigInv; rw [if_neg h]; simp
theorem digInv_step {n m q : Int} {l : List UInt8} {d : Nat} (h : DigInv n m l) (hm : m ≠ 0) (hq : q.natAbs = m.natAbs / 10) (hd : d = m.natAbs % 10) : DigInv n q (digit d :: l) := by
  unfold DigInv digit at *
  rw [if_neg hm] at h
  rw [h, Lib.decDigits]
  subst hd
  by_cases h10 : m.natAbs < 10
  · rw [dif_pos h10, if_pos (by omega), Nat.mod_eq_of_lt h10]
    rfl
  · rw [dif_neg h10, if_neg (by omega), hq]
    simp
theorem DigInv.done {n : Int} {l : List UInt8} (h : DigInv n 0 l) : Lib.decDigits n.natAbs = l := by unfold DigInv at h; simpa using h

theorem DigInv.short {n m : Int} {l : List UInt8} (h : DigInv n m l) (h0 : -9223372036854775808 ≤ n) (h1 : n ≤ 9223372036854775807) : l.length ≤ 20 := by
  have h2 := congrArg List.length h
  rw [Lib.decDigits_length] at h2
  have h3 := Lib.nDigits_le20 n.natAbs (by omega)
  split at h2
  · omega
  · rw [List.length_append] at h2; omega
theorem conv_digit (d : Nat) (hd : d < 10) (W : World) : (convert 117 9 (.slice (some ⟨W.heap.size, 0, none⟩) 1 1)).run Tryz.prog (W.alloc (.cells #[.int .u8 (48 + (d : Int))] 5)) = .ok (.string ⟨#[digit d]⟩) (W.alloc (.cells #[.int .u8 (48 + (d : Int))] 5)) := by
  have e : (digit d).toNat = 48 + d := by unfold digit; simp; omega
  have := run_convert_bytes_back (P := Tryz.prog) (W.alloc (.cells #[.int .u8 (48 + (d : Int))] 5)) 117 9 5 ⟨W.heap.size, 0, none⟩ 1 [digit d] Tryz.underlying117 Tryz.underlying5 Tryz.underlying9 (by
    intro j hj
    obtain rfl : j = 0 := by simpa using hj
    simp [go_sem, Addr.add, e])
  simpa using this

theorem itoa_pos {n : Int} (h : 0 ≤ n) : Lib.itoa n = Lib.decDigits n.natAbs := by
  unfold Lib.itoa
  rw [if_neg (by omega), show n.toNat = n.natAbs by omega]
theorem itoa_neg' {n : Int} (h : n < 0) : Lib.itoa n = 45 :: Lib.decDigits n.natAbs := by
  unfold Lib.itoa
  rw [if_pos h]
theorem ret_string {a b : List UInt8} (h : a = b) : Ending.returned (.string ⟨a.toArray⟩) = .returned (.string ⟨b.toArray⟩) := by rw [h]
theorem cat_one (c : UInt8) (l : List UInt8) : ((⟨#[c]⟩ : ByteArray) ++ ⟨l.toArray⟩) = ⟨(c :: l).toArray⟩ := by
  apply ByteArray.ext
  simp [ByteArray.data_append]

set_option maxRecDepth 100000 in
set_option maxHeartbeats 2000000 in
theorem sdecimal_any (n : Int) (h0 : -9223372036854775808 ≤ n) (h1 : n ≤ 9223372036854775807) (w : World) :
    Calls Tryz.prog 42 #[.int .i64 n] w fun e w' => e = .returned (.string ⟨(Lib.itoa n).toArray⟩) ∧ Mod (fun _ => False) w w' := by
  by_cases hz : n = 0
  · subst hz
    have e0 : Lib.itoa 0 = [48] := by rw [itoa_pos (by omega)]; rw [Lib.decDigits]; rfl
    rw [e0]
    go_enter Tryz.func42, Tryz.ntmps42
    go_wp2
    go_ret
    exact ⟨rfl, Mod.refl _ _⟩
  · have hz' : (n == 0) = false := by simpa using hz
    have hst := DigInv.start n hz
    by_cases hneg : n < 0
    · skip
      go_enter Tryz.func42, Tryz.ntmps42
      go_wp2
      go_loopw [0, 4] (fun v s wr => ∃ (k : Nat) (l : List UInt8), k ≤ 9223372036854775808 ∧ v = .int .i64 (-(k : Int)) ∧ s = .string ⟨l.toArray⟩ ∧ DigInv n (-(k : Int)) l ∧ Mod (fun _ => False) w wr) (fun v _ _ => (intOf v).natAbs)
      case atStart => exact ⟨n.natAbs, [], by omega, by rw [show -(n.natAbs : Int) = n by omega], rfl, by rw [show -(n.natAbs : Int) = n by omega]; exact hst, Mod.refl _ _⟩
      case round =>
        obtain ⟨k, l, hk0, rfl, rfl, hI, hM⟩ := hrel
        clear hst hz hz'
        have hl20 := hI.short h0 h1
        clear h0 h1
        by_cases hm : k = 0
        · subst hm
          have hres := hid hI.done
          clear hI
          have hcat := cat_one 45 l
          go_wp2
          go_ret
          exact ⟨by rw [itoa_neg' hneg, hres.out]; rfl, hM⟩
        · have hk1 : 1 ≤ k := by omega
          obtain ⟨d, hd⟩ : ∃ d, d = k % 10 := ⟨_, rfl⟩
          obtain ⟨q, hq⟩ : ∃ q, q = k / 10 := ⟨_, rfl⟩
          have hd10 : d < 10 := by omega
          have hq' : q ≤ 922337203685477580 := by omega
          have hqk : q < k := by omega
          have hstep := hid (digInv_step (q := -(q : Int)) hI (by omega) (by omega) (show d = (-(k : Int)).natAbs % 10 by omega))
          have e1 : (-(k : Int)).tmod 10 = -(d : Int) := by rw [Int.neg_tmod, Int.tmod_eq_emod_of_nonneg (by omega), hd]; omega
          have e2 : (-(k : Int)).tdiv 10 = -(q : Int) := by rw [Int.neg_tdiv, Int.tdiv_eq_ediv_of_nonneg (by omega), hq]; omega
          have hc := conv_digit d hd10
          have hcat := cat_one (digit d) l
          clear hI
          have hn1 : decide (-(k : Int) = 0) = false := by simp; omega
          clear hd hq
          by_cases hd0 : d = 0
          · subst hd0
            have hc : ∀ W : World, (convert 117 9 (.slice (some ⟨W.heap.size, 0, none⟩) 1 1)).run Tryz.prog (W.alloc (.cells #[.int .u8 48] 5)) = .ok (.string ⟨#[digit 0]⟩) (W.alloc (.cells #[.int .u8 48] 5)) := fun W => conv_digit 0 (by omega) W
            go_wp2
            go_roundw
            case rel => exact ⟨q, digit 0 :: l, by omega, rfl, rfl, hstep.out, hM.alloc _⟩
            case measure => simp [intOf]; omega
          · have hd1 : 1 ≤ d := by omega
            go_wp2
            go_roundw
            case rel => exact ⟨q, digit d :: l, by omega, rfl, rfl, hstep.out, hM.alloc _⟩
            case measure => simp [intOf]; omega
    · skip
      go_enter Tryz.func42, Tryz.ntmps42
      go_wp2
      go_loopw [0, 4] (fun v s wr => ∃ (k : Nat) (l : List UInt8), k ≤ 9223372036854775807 ∧ v = .int .i64 (k : Int) ∧ s = .string ⟨l.toArray⟩ ∧ DigInv n (k : Int) l ∧ Mod (fun _ => False) w wr) (fun v _ _ => (intOf v).natAbs)
      case atStart => exact ⟨n.natAbs, [], by omega, by rw [show (n.natAbs : Int) = n by omega], rfl, by rw [show (n.natAbs : Int) = n by omega]; exact hst, Mod.refl _ _⟩
      case round =>
        obtain ⟨k, l, hk0, rfl, rfl, hI, hM⟩ := hrel
        clear hst hz hz'
        have hl20 := hI.short h0 h1
        clear h0 h1
        by_cases hm : k = 0
        · subst hm
          have hres := hid hI.done
          clear hI
          have hcat := cat_one 45 l
          go_wp2
          go_ret
          exact ⟨by rw [itoa_pos (by omega), hres.out]; rfl, hM⟩
        · have hk1 : 1 ≤ k := by omega
          obtain ⟨d, hd⟩ : ∃ d, d = k % 10 := ⟨_, rfl⟩
          obtain ⟨q, hq⟩ : ∃ q, q = k / 10 := ⟨_, rfl⟩
          have hd10 : d < 10 := by omega
          have hq' : q ≤ 922337203685477580 := by omega
          have hqk : q < k := by omega
          have hstep := hid (digInv_step (q := (q : Int)) hI (by omega) (by omega) (show d = ((k : Int)).natAbs % 10 by omega))
          have e1 : ((k : Int)).tmod 10 = (d : Int) := by rw [Int.tmod_eq_emod_of_nonneg (by omega), hd]; omega
          have e2 : ((k : Int)).tdiv 10 = (q : Int) := by rw [Int.tdiv_eq_ediv_of_nonneg (by omega), hq]; omega
          have hc := conv_digit d hd10
          have hcat := cat_one (digit d) l
          clear hI
          have e3 : (k : Int) % 10 = d := by omega
          have e4 : (k : Int) / 10 = q := by omega
          clear hd hq
          go_wp2
          go_roundw
          case rel => exact ⟨q, digit d :: l, by omega, rfl, rfl, hstep.out, hM.alloc _⟩
          case measure => simp [intOf]; omega

end Go.Proofs.YtpkpkojmaebflaaGreatDoor
namespace Go.Proofs.YtpkpkojmaebflaaGreatDoor
open Go.RowKit

/-- The library's table of powers lies as its text lays it. -/
def Tab (w : World) : Prop := Lib.TabIs Tryz.prog w "internal/strconv.uint64pow10" .u64 Lib.pow10Tab
theorem var_keep {P : Program} {w w' : World} {n : String} {cs : Array Value} (hm : Mod (fun _ => False) w w') (h : w.var? P n = some cs) : w'.var? P n = some cs := by
  unfold World.var? at h ⊢
  cases hg : P.globalNamed n with
  | none => rw [hg] at h; simp at h
  | some g =>
    rw [hg] at h
    simp only [Option.bind_some] at h ⊢
    have hlt : g < w.heap.size := by
      rcases Nat.lt_or_ge g w.heap.size with h' | h'
      · exact h'
      · rw [Array.getElem?_eq_none h'] at h; cases h
    rw [hm.block g hlt (fun f => f)]
    exact h
theorem Tab.keep {w w' : World} (h : Tab w) (hm : Mod (fun _ => False) w w') : Tab w' := var_keep hm h
theorem grow_keep (w : World) (os : Array Obj) : Mod (fun _ => False) w (Sort.grow w os) :=
  ⟨rfl, rfl, rfl, by simp [Sort.grow], fun k hk _ => by simp [Sort.grow, Array.getElem?_append, hk]⟩
theorem below_kept {w w' : World} (h : Below w.heap.size w w') : Mod (fun _ => False) w w' := ⟨h.os, h.tape, h.output, h.size, fun k hk _ => h.block k hk⟩

theorem ret_str {a b : ByteArray} (h : a = b) : Ending.returned (.string a) = .returned (.string b) := by rw [h]
theorem decimal_any (n : Int) (hb : I64 n) (w : World) (ht : Tab w) : Calls Tryz.prog 55 #[.int .i64 n] w fun e w' => e = .returned (.string ⟨(Lib.itoa n).toArray⟩) ∧ Mod (fun _ => False) w w' := by
  have k := Tryz.strconv_Itoa n hb.1 hb.2 w ht
  clear hb ht
  go_enter Tryz.func55, Tryz.ntmps55
  go_wp2_with fail
  refine k.mono ?_
  rintro e w' ⟨rfl, n, os, rfl⟩
  have hm : Mod (fun _ => False) w (Sort.grow (w.drewN n) os) := ((Mod.refl _ w).drewN n).trans (grow_keep _ _)
  generalize Sort.grow (w.drewN n) os = w1 at hm
  go_wp2
  go_ret
  exact ⟨rfl, hm⟩

/-- The numbers of a text, blanks between. -/
def spacedOf (l : List Int) : List UInt8 := Lib.join (l.map Lib.itoa) [32]
theorem join_short (l : List Int) (hb : ∀ x ∈ l, I64 x) (sep : List UInt8) (hs : sep.length ≤ 1) : (Lib.join (l.map Lib.itoa) sep).length ≤ l.length * 22 := by
  have key : ∀ m : List Int, (∀ x ∈ m, I64 x) → (Lib.joinTail sep (m.map Lib.itoa)).length ≤ m.length * 22 := by
    intro m hm
    induction m with
    | nil => simp [Lib.joinTail]
    | cons x m ih =>
      have h1 := ih fun y hy => hm y (List.mem_cons_of_mem _ hy)
      have h2 := hm x List.mem_cons_self
      have h3 := Lib.itoa_length_le x h2.1 h2.2
      unfold Lib.joinTail at h1 ⊢
      simp only [List.map_cons, List.flatten_cons, List.length_append, List.length_cons] at h1 ⊢
      omega
  cases l with
  | nil => simp [Lib.join, List.intercalate]
  | cons x m =>
    have h1 := key m fun y hy => hb y (List.mem_cons_of_mem _ hy)
    have h2 := hb x List.mem_cons_self
    have h3 := Lib.itoa_length_le x h2.1 h2.2
    rw [List.map_cons, Lib.join_cons, List.length_append, List.length_cons]
    omega

theorem bytes_back (l : List (List UInt8)) : (l.map fun x => (⟨x.toArray⟩ : ByteArray)).map (·.data.toList) = l := by
  induction l with
  | nil => rfl
  | cons y l ih => rw [List.map_cons, List.map_cons, ih]
/-- What the program's Join gives of texts that the call itself has laid. -/
theorem join_own {w : World} {base n c : Nat} {a : Option Addr} {l : List (List UInt8)} (sep : List UInt8) (h : w.ownsRow base 9 1 (.slice a n c) n (l.map tcell).flatten) (hn : n = l.length) (hl : l.length ≤ 1048576) (hj : (Lib.join l sep).length ≤ 140737488355328) :
    Calls Tryz.prog 91 #[.slice a n c, .string ⟨sep.toArray⟩] w fun e w' => e = .returned (.string ⟨(Lib.join l sep).toArray⟩) ∧ Mod (fun _ => False) w w' := by
  subst hn
  rcases own_parts h with h0 | ⟨b, rfl, h1, h2, h3, _⟩
  · have hl0 : l = [] := List.length_eq_zero_iff.1 h0
    subst hl0
    exact (Tryz.strings_Join_none a c ⟨sep.toArray⟩ w).mono fun e w' ⟨he, hw⟩ => by subst hw; exact ⟨he, Mod.refl _ _⟩
  · have hc : l.length ≤ c := by
      rcases h.2 with ⟨_, h4⟩ | ⟨g, cap, cur, hv, _, _, hnc, _⟩
      · omega
      · injection hv with _ _ e
        omega
    have e := bytes_back l
    have hcells : ∀ (j : Nat) x, (l.map fun x => (⟨x.toArray⟩ : ByteArray))[j]? = some x → w.cell? ⟨b, 0 + j, none⟩ = some (.string x) := by
      intro j x hj
      rw [List.getElem?_map] at hj
      cases hy : l[j]? with
      | none => rw [hy] at hj; simp at hj
      | some y =>
        rw [hy] at hj
        simp only [Option.map_some, Option.some.injEq] at hj
        subst hj
        rw [Nat.zero_add]
        refine h3 j _ ?_
        have hmem : (l.map tcell)[j]? = some (tcell y) := by rw [List.getElem?_map, hy]; rfl
        have := flatten_at (rows := l.map tcell) (sz := 1) (by intro r hr; obtain ⟨z, _, rfl⟩ := List.mem_map.1 hr; rfl) hmem (j := 0) rfl
        simpa using this
    have k := Tryz.strings_Join b 0 c (l.map fun x => (⟨x.toArray⟩ : ByteArray)) ⟨sep.toArray⟩ w hcells h2 (by simp; omega) (by simpa using hc) (by rw [e]; exact hj)
    rw [e] at k
    rw [List.length_map] at k
    exact k.mono fun e w' ⟨he, hb⟩ => ⟨he, below_kept hb⟩

set_option maxRecDepth 100000 in
set_option maxHeartbeats 4000000 in
theorem spaced_any  (l : List Int) (a : Option Addr) (c : Nat) (R : Nat → Prop) (w : World) (hl : l.length ≤ 1048576) (h : IntSlice R w a l) (hb : ∀ x ∈ l, I64 x) (ht : Tab w):
    Calls Tryz.prog 90 #[.slice a l.length c] w (fun e w' => e = .returned (.string ⟨(spacedOf l).toArray⟩) ∧ Mod (fun _ => False) w w') := by
  have H := hid h
  clear h
  obtain ⟨i0, hi, hz0, hz1, hz2⟩ := info_parts info_string
  have Hi := hid hi
  have Hz0 := hid hz0
  have Hz1 := hid hz1
  have Hz2 := hid hz2
  clear hi hz0 hz1 hz2
  have Hb := hid hb
  have Ht := hid ht
  clear hb ht
  go_enter Tryz.func90, Tryz.ntmps90
  go_wp2_with fail
  go_loopw [3, 8] (fun v i wr => ∃ (k : Nat) (a' : Option Addr) (c' : Nat), k ≤ l.length ∧ i = .int .i64 k ∧ v = .slice a' ((l.take k).filterMap (fun x => some (Lib.itoa x))).length c' ∧ wr.ownsRow w.heap.size 9 1 (.slice a' ((l.take k).filterMap (fun x => some (Lib.itoa x))).length c') ((l.take k).filterMap (fun x => some (Lib.itoa x))).length (((l.take k).filterMap (fun x => some (Lib.itoa x))).map tcell).flatten ∧ Mod (fun _ => False) w wr) (fun _ i _ => l.length - (intOf i).toNat)
  case atStart =>
    exact ⟨0, _, _, by omega, rfl, rfl, World.ownsRow_nil _ _ _ _, Mod.refl _ _⟩
  case round =>
    obtain ⟨k, a', c', hk, rfl, rfl, hO, hM⟩ := hrel
    have hFl : ((l.take k).filterMap (fun x => some (Lib.itoa x))).length ≤ k := fm_len _ _ _
    by_cases hlt : k < l.length
    · obtain ⟨b, o, x, rfl, _, _, hx, hc⟩ := IntSlice.get (H.out.flatKeep hM) hlt
      go_wp2_with fail
      refine (decimal_any x (Hb.out x (List.mem_of_getElem? hx.out)) _ (Ht.out.keep hM)).mono ?_
      rintro e w1 ⟨rfl, hm1⟩
      have hM1 := hM.thenNone hm1
      have hO1 := own_mod hO hm1 (fun _ _ f => f)
      clear hm1
      have hg : (fun x => some (Lib.itoa x)) x = some (Lib.itoa x) := rfl
      have He := hid (fm_some (fun x => some (Lib.itoa x)) hx hg)
      generalize ((l.take k).filterMap (fun x => some (Lib.itoa x))) = F at He hFl hO hO1
      have h3 : F.length + 1 ≤ maxLen := by unfold maxLen; omega
      have h4 : (F.length + 1) * 16 ≤ 140737488355328 := by omega
      go_wp2_with (first | (at_builtin; refine wpList_append_own _ rfl _ _ 33 rfl w.heap.size 9 i0 _ 1 16 Tryz.underlying33 Hi.out Hz0.out Hz1.out Hz2.out rfl (by decide) _ _ _ rfl (hO1.alloc _) ⟨w1.heap.size, 0, none⟩ 1 1 [.string ⟨(Lib.itoa x).toArray⟩] rfl rfl (cells_new _ _ _) (ones_of rfl) h3 h4 (own_room hM1 _) ?_) | fail)
      intro v' w9 hown1 hgrow _
      obtain ⟨a1, c1', hv⟩ := own_form hown1
      rw [hv] at hown1 ⊢
      have hM1 := hM1.appended hO1 (Nat.le_refl _) hgrow
      clear hv hgrow h3 h4
      go_wp2_with fail
      go_roundw
      case rel =>
        refine ⟨k + 1, a1, c1', by omega, by go_num, ?_, ?_, hM1⟩
        · rw [He.out, List.length_append]; rfl
        · rw [He.out, List.length_append, List.map_append, List.flatten_append]
          simpa [tcell] using hown1
      case measure => simp [intOf]; omega
    · have hk' : k = l.length := by omega
      subst hk'
      rw [List.take_length] at hO
      rw [List.take_length]
      rw [← map_fm] at hO ⊢
      have hj := hid (join_own [32] hO (by simp) (by simpa using hl) (by have := join_short l Hb.out [32] (by simp); omega))
      have Hs := hid (show Lib.join (l.map Lib.itoa) [32] = spacedOf l from rfl)
      rw [Hs.out] at hj
      generalize l.map Lib.itoa = F at hj hFl hO ⊢
      clear hO hFl Hs
      go_wp2_with fail
      refine hj.out.mono ?_
      rintro e w9 ⟨rfl, hm9⟩
      clear hj
      go_wp2
      go_ret
      exact ⟨rfl, hM.thenNone hm9⟩

end Go.Proofs.YtpkpkojmaebflaaGreatDoor
namespace Go.Proofs.YtpkpkojmaebflaaGreatDoor
open Go.RowKit
set_option linter.unusedVariables false
set_option linter.unusedSimpArgs false

section
variable {P : Program} {n : Nat} {W : World} {R : Rg W} {L : List Blk} {O : List Own} {E : List Res} {f : List (Nat × Value)} {Q : Exit → Go.Act → World → Prop} {ops : Array Oper} {rest : List Oper}
variable {d : Option Nat} {dn : Nat} {x y : Operand} {ty T T' : TypeId} {pos : String} {af : Array Edge} {gd : Option (Nat × Bool)}
theorem madeCells_one (z : Value) (m : Nat) : madeCells #[z] m = (List.replicate m z).toArray := by
  apply Array.ext_getElem?
  intro i
  by_cases h : i < m <;> simp [madeCells, Nat.mod_one, Array.getElem?_map, Array.getElem?_range, List.getElem?_replicate, Array.getElem?_replicate, h]
/-- A slice of n zero elements of one cell. -/
theorem SXl.make {e by_ m : Nat} {z : Value} [t : TSl P T e 1] [te : TEl P e 1 by_ z] (hw : wantO ops f ⟨some dn, .makeSlice T x y, ty, pos, af, gd⟩ = some true) (hd : Nat.blt dn n = true) (hx : evO f x = some (.int .i64 (m : Int))) (hy : evO f y = some (.int .i64 (m : Int))) (hz : z.cells = #[z]) (hm : m ≤ 16777216) (hby : by_ * m ≤ 281474976710656)
    (h : ∀ g, SXl P n W R ops (⟨g, List.replicate m z, e⟩ :: L) O E ((dn, .slice (some ⟨g, 0, none⟩) m m) :: f) rest Q) : SXl P n W R ops L O E f (⟨some dn, .makeSlice T x y, ty, pos, af, gd⟩ :: rest) Q :=
  SXl.stepn (V := fun g => .slice (some ⟨g, 0, none⟩) m m) (O' := fun _ => O) hw rfl hd (fun a w hf hl => by
    obtain ⟨i0, q1, q2, q3, q4, q5, q6⟩ := te.h
    refine ⟨w.heap.size, w.alloc (.cells (List.replicate m z).toArray e), ?_, hl.alloc _ e⟩
    have hb : (i0.bytes : Int) * (m : Int) ≤ 281474976710656 := by rw [q4]; omega
    have := run_makeSlice (P := P) w T e i0 z t.h.1 q1 q2 .i64 .i64 m m (by omega) (by omega) (by rw [q3]; simp; omega) hb (by omega)
    rw [q3, hz, Nat.mul_one, Int.toNat_natCast, madeCells_one] at this
    simp [execOp, hf.eval hx, hf.eval hy, this]) h
/-- The bytes of a block of the call's own, as a text. -/
theorem OpW.convBytes {e g cp : Nat} {l : List UInt8} (i : Nat) (hs : P.underlying T = some (.slice e)) (he : P.underlying e = some (.int .u8)) (hd : P.underlying T' = some .string) (hx : evO f x = some (.slice (some ⟨g, 0, none⟩) l.length cp)) (hi : L[i]? = some ⟨g, l.map (fun b => .int .u8 (b.toNat : Int)), e⟩) : OpW P n W R L O E f ⟨d, .convert T T' x, ty, pos, af, gd⟩ (.string ⟨l.toArray⟩) :=
  OpW.of (fun a w hf hl => by
    have := run_convert_bytes_back (P := P) w T T' e ⟨g, 0, none⟩ cp l hs he hd (fun j hj => by
      have := hl.cell hi (o := j) (v := .int .u8 (l[j].toNat : Int)) (by simp [hj])
      rw [Addr.add_lit, Nat.zero_add]
      exact this)
    simp [execOp, hf.eval hx, this])
theorem l_makeSlice (h : SXl P n W R ops L O E f (⟨d, .makeSlice T x y, ty, pos, af, gd⟩ :: rest) Q) : SXl P n W R ops L O E f (⟨d, .makeSlice T x y, ty, pos, af, gd⟩ :: rest) Q := h
theorem l_conv (h : SXl P n W R ops L O E f (⟨d, .convert T T' x, ty, pos, af, gd⟩ :: rest) Q) : SXl P n W R ops L O E f (⟨d, .convert T T' x, ty, pos, af, gd⟩ :: rest) Q := h
end
set_option maxRecDepth 100000 in
set_option maxHeartbeats 4000000 in
theorem l01Long_any (m : Nat) (b : UInt8) (hm : m ≤ 1048576) (w : World) : Calls Tryz.prog 40 #[.int .i64 (m : Int), .int .u8 (b.toNat : Int)] w fun e w' => e = .returned (.string ⟨(List.replicate m b).toArray⟩) ∧ Mod (fun _ => False) w w' := by
  refine calls_sx Tryz.func40 rfl rfl (fun a h1 h2 h3 => (((Fr.nil h1 h2).arg (h3 1 _ rfl)).arg (h3 0 _ rfl))) ?_
  repeat (first | refine SX.seq ?_ | refine SXl.nil ?_ | refine SX.region ?_ | refine SQ.thenNormal ?_ | (refine l_move ?_; (refine SXl.v (OpW.move rfl) rfl ?_ ?_ ?_); rfl; rfl) | (refine l_assign ?_; (refine SXl.v (OpW.assign rfl) rfl ?_ ?_ ?_); rfl; rfl))
  refine l_makeSlice ?_
  refine SXl.make (m := m) (z := .int .u8 0) rfl rfl rfl rfl rfl (by omega) (by omega) (fun g => ?_)
  repeat (first | refine SX.seq ?_ | refine SXl.nil ?_ | refine SX.region ?_ | refine SQ.thenNormal ?_ | refine SX.block ?_ | (refine l_assign ?_; (refine SXl.v (OpW.assign rfl) rfl ?_ ?_ ?_); rfl; rfl))
  refine SX.loopi (fun k : Nat => k ≤ m) (fun k => m - k) (fun k => [⟨g, List.replicate k (.int .u8 (b.toNat : Int)) ++ List.replicate (m - k) (.int .u8 0), 5⟩]) (fun _ => []) (fun _ => []) (fun k => [(0, .int .i64 (m : Int)), (1, .int .u8 (b.toNat : Int)), (5, .slice (some ⟨g, 0, none⟩) m m), (6, .int .i64 k)]) 0 (Nat.zero_le _) ?_ (fun _ hl => by simpa using hl) ?_
  · (repeat (first | exact subF_nil _ | (refine subF_cons rfl ?_) | (refine subF_consv rfl (by rfl) ?_)))
  intro k hk
  by_cases hlt : k < m
  · repeat (first | refine SX.seq ?_ | refine SXl.nil ?_ | refine SX.region ?_ | refine SQ.thenNormal ?_ | refine SX.block ?_ | refine SX.skip ?_ | refine SX.condT rfl ?_ | (refine l_move ?_; (refine SXl.v (OpW.move rfl) rfl ?_ ?_ ?_); rfl; rfl) | (refine l_lss ?_; (refine SXl.v (OpW.lssT rfl rfl (by omega)) rfl ?_ ?_ ?_); rfl; rfl) | (refine l_indexAddr ?_; (refine SXl.v (OpW.indexAddr1 (by omega) rfl rfl) rfl ?_ ?_ ?_); rfl; rfl))
    refine l_store ?_
    refine SXl.store (L' := [⟨g, List.replicate (k + 1) (.int .u8 (b.toNat : Int)) ++ List.replicate (m - (k + 1)) (.int .u8 0), 5⟩]) 0 rfl rfl rfl rfl (by simp; omega) rfl ?_ ?_
    · have e : (List.replicate k (Value.int .u8 (b.toNat : Int)) ++ List.replicate (m - k) (Value.int .u8 0)).set (0 + k) (.int .u8 (b.toNat : Int)) = List.replicate (k + 1) (.int .u8 (b.toNat : Int)) ++ List.replicate (m - (k + 1)) (.int .u8 0) := by
        rw [Nat.zero_add, List.set_append_right _ _ (by simp), List.length_replicate, Nat.sub_self, show m - k = (m - (k + 1)) + 1 by omega, List.replicate_succ (n := m - (k + 1)), List.set_cons_zero, List.replicate_succ', List.append_assoc]
        rfl
      rw [← e]; rfl
    repeat (first | refine SXl.nil ?_ | refine SX.region ?_ | refine SQ.thenNormal ?_ | (refine l_move ?_; (refine SXl.v (OpW.move rfl) rfl ?_ ?_ ?_); rfl; rfl) | (refine l_assign ?_; (refine SXl.v (OpW.assign rfl) rfl ?_ ?_ ?_); rfl; rfl) | (refine l_add ?_; (refine SXl.v (OpW.succ rfl rfl (by omega)) rfl ?_ ?_ ?_); rfl; rfl) | refine SQ.blockNormal ?_)
    refine SQ.roundi (k + 1) (by omega) (by omega) ?_ (fun _ hl => hl)
    (repeat (first | exact subF_nil _ | (refine subF_cons rfl ?_) | (refine subF_consv rfl (by rfl) ?_)))
  · have hk' : k = m := by omega
    subst hk'
    have e : (List.replicate k (Value.int .u8 (b.toNat : Int)) ++ List.replicate (k - k) (Value.int .u8 0)) = (List.replicate k b).map (fun b => .int .u8 (b.toNat : Int)) := by simp
    rw [e]
    have hlen : (List.replicate k b).length = k := by simp
    repeat (first | refine SX.seq ?_ | refine SXl.nil ?_ | refine SX.region ?_ | refine SQ.thenNormal ?_ | refine SX.condF rfl ?_ | (refine l_move ?_; (refine SXl.v (OpW.move rfl) rfl ?_ ?_ ?_); rfl; rfl) | (refine l_lss ?_; (refine SXl.v (OpW.lssF rfl rfl (by omega)) rfl ?_ ?_ ?_); rfl; rfl) | refine SX.exit ?_ | refine SQ.thenExit ?_ | refine SQ.blockExit ?_)
    refine l_conv ?_
    refine SXl.v (OpW.convBytes (l := List.replicate k b) (g := g) (cp := k) 0 Tryz.underlying117 Tryz.underlying5 Tryz.underlying9 ?_ ?_) rfl rfl rfl ?_
    · rw [hlen]; rfl
    · rfl
    repeat (first | refine SXl.nil ?_ | refine SQ.thenNormal ?_ | (refine l_assign ?_; (refine SXl.v (OpW.assign rfl) rfl ?_ ?_ ?_); rfl; rfl) | refine SX.ret ?_)
    refine SQ.body1 rfl rfl (fun w' hl => ⟨rfl, hl.mod⟩)
instance tfunRepeat : TFun Tryz.prog 53 := ⟨Tryz.f53, by kernel_rfl, by kernel_rfl, by kernel_rfl⟩
theorem repeatL_blank : ∀ m : Nat, Lib.repeatL [32] m = List.replicate m 32
  | 0 => rfl
  | m + 1 => by rw [Lib.repeatL, repeatL_blank m, List.replicate_succ]; rfl
theorem repeat_any (m : Nat) (hm : m ≤ 1048576) (w : World) : Calls Tryz.prog 53 #[.string ⟨#[32]⟩, .int .i64 (m : Int)] w fun e w' => e = .returned (.string ⟨(List.replicate m 32).toArray⟩) ∧ Mod (fun _ => False) w w' := by
  by_cases h0 : m = 0
  · subst h0
    exact (Tryz.strings_Repeat_zero ⟨#[32]⟩ w).mono fun e w' ⟨he, hw⟩ => by subst hw; exact ⟨he, Mod.refl _ _⟩
  by_cases h1 : m = 1
  · subst h1
    exact (Tryz.strings_Repeat_one ⟨#[32]⟩ w).mono fun e w' ⟨he, hw⟩ => by subst hw; exact ⟨he, Mod.refl _ _⟩
  refine (Tryz.strings_Repeat_main ⟨#[32]⟩ m w (by omega) (by omega) (by show 1 * m ≤ _; omega) (by decide)).mono ?_
  rintro e w' ⟨he, hb⟩
  refine ⟨he.trans ?_, below_kept hb⟩
  rw [← repeatL_blank]
end Go.Proofs.YtpkpkojmaebflaaGreatDoor
namespace Go.Proofs.YtpkpkojmaebflaaGreatDoor
open Go.RowKit
set_option linter.unusedVariables false
set_option linter.unusedSimpArgs false

instance tfvMeas : TFv Tryz.prog 85 3 62 := ⟨_, _, _, Tryz.underlying85, rfl, rfl, Tryz.underlying4, rfl⟩
theorem ints_at {l : List Int} {p : Nat × Nat} {i : Nat} {x : Int} (hi : l[i]? = some x) : ∀ w, (rowsRes icell 1 l p).says w → w.cell? ⟨p.1, 0 + i, none⟩ = some (.int .i64 x) := fun w h => by
  have := h.h i x 0 _ hi rfl
  rw [Nat.zero_add]
  simpa using this
theorem allU_ne {l : List Node} (hv : treeOk l = true) {k : Nat} {x : Node} (hx : l[k]? = some x) : allU l ((k + 1 : Nat) : Int) ≠ [] := by
  rw [allU_eq hv hx]; simp

set_option maxRecDepth 100000 in
set_option maxHeartbeats 16000000 in
theorem treeLines_any (l : List Node) (o : Bool) (a : Option Addr) (c : Nat) (R : Nat → Prop) (w : World) (hlen : l.length ≤ 1048576) (hfit : ∀ x ∈ l, x.fits 1048576) (h : NodeSlice o R w a l) (ht : Tab w) :
    Calls Tryz.prog 23 #[.agg #[.slice a l.length c]] w (NewSlice 9 1 w (treeLines l).length ((treeLines l).map tcell).flatten) := by
  refine calls_sx Tryz.func23 rfl rfl (fun a h1 h2 h3 => ((Fr.nil h1 h2).arg (h3 0 _ rfl))) ?_
  have hT := fun w' (hm : Mod (fun _ => False) w w') => treeOk_any l o a c R w' hlen hfit (h.keep hm)
  cases hv : treeOk l
  · have e : treeLines l = [] := by unfold treeLines; rw [hv]; rfl
    rw [e]
    rw [hv] at hT
    repeat (first | refine SX.seq ?_ | refine SXl.nil ?_ | refine SX.region ?_ | refine SQ.thenNormal ?_ | refine SX.condT rfl ?_ | (refine l_call ?_; (refine SXl.v (OpW.call rfl (fun w hl => hT _ hl.mod)) rfl ?_ ?_ ?_); rfl; rfl) | (refine l_load ?_; (refine SXl.v (OpW.loadAll 0 rfl rfl rfl) rfl ?_ ?_ ?_); rfl; rfl) | (refine l_assign ?_; (refine SXl.v (OpW.assign rfl) rfl ?_ ?_ ?_); rfl; rfl) | (refine l_not ?_; (refine SXl.v (OpW.not rfl) rfl ?_ ?_ ?_); rfl; rfl) | (refine l_box ?_; refine SXl.box ?_ ?_ rfl rfl (fun g => ?_); rfl; rfl) | refine SX.ret ?_ | refine SQ.thenRet ?_)
    refine SQ.body1 rfl rfl (fun w' hl => ⟨none, 0, rfl, World.ownsRow_nil _ _ _ _, hl.mod⟩)
  have e : treeLines l = upLines l l.length := by unfold treeLines; rw [hv]; rfl
  rw [e]
  rw [hv] at hT
  have hln := ok_len hv
  repeat (first | refine SX.seq ?_ | refine SXl.nil ?_ | refine SX.region ?_ | refine SQ.thenNormal ?_ | refine SX.block ?_ | refine SX.skip ?_ | refine SX.condF rfl ?_ | (refine l_call ?_; (refine SXl.v (OpW.call rfl (fun w hl => hT _ hl.mod)) rfl ?_ ?_ ?_); rfl; rfl) | (refine l_load ?_; (first | refine SXl.v (OpW.load 0 rfl rfl rfl) rfl ?_ ?_ ?_ | refine SXl.v (OpW.loadAll 0 rfl rfl rfl) rfl ?_ ?_ ?_); rfl; rfl) | (refine l_fieldAddr ?_; (refine SXl.v (OpW.fieldAddr rfl) rfl ?_ ?_ ?_); rfl; rfl) | (refine l_move ?_; (refine SXl.v (OpW.move rfl) rfl ?_ ?_ ?_); rfl; rfl) | (refine l_assign ?_; (refine SXl.v (OpW.assign rfl) rfl ?_ ?_ ?_); rfl; rfl) | (refine l_len ?_; (refine SXl.v (OpW.len rfl) rfl ?_ ?_ ?_); rfl; rfl) | (refine l_not ?_; (refine SXl.v (OpW.not rfl) rfl ?_ ?_ ?_); rfl; rfl) | (refine l_box ?_; refine SXl.box ?_ ?_ rfl rfl (fun g => ?_); rfl; rfl))
  revert g; intro gt
  refine SX.ownNil 9 1 ?_
  refine SX.loop3 (fun (k : Nat) (_ : Option Addr) (_ : Nat) => k ≤ l.length) (fun k _ _ => l.length - k) (fun _ _ _ => [⟨gt, [.slice a l.length c], 37⟩]) (fun k a' c' => [⟨.slice a' (upLines l k).length c', 9, 1, (upLines l k).length, ((upLines l k).map tcell).flatten⟩]) (fun _ _ _ => []) (fun k a' c' => [(1, .pointer (some ⟨gt, 0, none⟩)), (3, .slice a' (upLines l k).length c'), (13, .slice a l.length c), (14, .int .i64 l.length), (15, .int .i64 k)]) 0 none 0 (Nat.zero_le _) ?_ (fun _ hl => hl) ?_
  · (repeat (first | exact subF_nil _ | (refine subF_cons rfl ?_) | (refine subF_consv rfl (by rfl) ?_)))
  intro k a' c' hk
  by_cases hlt : k < l.length
  rotate_left
  · have hk' : k = l.length := by omega
    subst hk'
    repeat (first | refine SX.seq ?_ | refine SXl.nil ?_ | refine SX.region ?_ | refine SQ.thenNormal ?_ | refine SX.condF rfl ?_ | (refine l_move ?_; (refine SXl.v (OpW.move rfl) rfl ?_ ?_ ?_); rfl; rfl) | (refine l_assign ?_; (refine SXl.v (OpW.assign rfl) rfl ?_ ?_ ?_); rfl; rfl) | (refine l_lss ?_; (refine SXl.v (OpW.lssF rfl rfl (by omega)) rfl ?_ ?_ ?_); rfl; rfl) | refine SX.ret ?_ | refine SX.exit ?_ | refine SQ.thenExit ?_ | refine SQ.blockExit ?_)
    refine SQ.body1 rfl rfl (fun w' hl => ⟨_, _, rfl, (hl.own _ List.mem_cons_self).1, hl.mod⟩)
  obtain ⟨b1, o1, ⟨up, kids, st, me, ru⟩, r1, rfl, hR1, hb1, hxk, hr1, hl1, hc1⟩ := h.get hlt
  obtain ⟨ka, kc, ra, rc, rfl, hk1, ht1, _⟩ := hr1
  replace hxk := hxk.out
  simp only at hc1
  by_cases hup : up = 0
  rotate_left
  · have hS : upLines l (k + 1) = upLines l k := by rw [upLines_succ, rootLines_no hxk hup, List.append_nil]
    repeat (first | refine SX.seq ?_ | refine SXl.nil ?_ | refine SX.region ?_ | refine SQ.thenNormal ?_ | refine SX.block ?_ | refine SX.skip ?_ | refine SX.condT rfl ?_ | (refine l_load ?_; (first | refine SXl.v (OpW.loadRowOld rfl hc1 (nodeRow_len _ _ _ _ _ _ _ _ _) (Nat.succ_pos _) (fun h => h)) rfl ?_ ?_ ?_ | refine SXl.v (OpW.load 0 rfl rfl rfl) rfl ?_ ?_ ?_); rfl; rfl) | (refine l_fieldAddr ?_; (refine SXl.v (OpW.fieldAddr rfl) rfl ?_ ?_ ?_); rfl; rfl) | (refine l_move ?_; (refine SXl.v (OpW.move rfl) rfl ?_ ?_ ?_); rfl; rfl) | (refine l_assign ?_; (refine SXl.v (OpW.assign rfl) rfl ?_ ?_ ?_); rfl; rfl) | (refine l_add ?_; (refine SXl.v (OpW.succ rfl rfl (by omega)) rfl ?_ ?_ ?_); rfl; rfl) | (refine l_lss ?_; (refine SXl.v (OpW.lssT rfl rfl (by omega)) rfl ?_ ?_ ?_); rfl; rfl) | (refine l_neq ?_; (refine SXl.v (OpW.neqT rfl rfl (by omega)) rfl ?_ ?_ ?_); rfl; rfl) | (refine l_indexAddr ?_; (refine SXl.v (OpW.indexAddr (by omega) rfl rfl) rfl ?_ ?_ ?_); rfl; rfl) | (refine l_alloc ?_; refine SXl.alloc ?_ ?_ (fun g => ?_); rfl; rfl) | (refine l_store ?_; first | (refine SXl.storeAll 0 ?_ rfl rfl rfl rfl rfl rfl rfl ?_; rfl; simp only [List.set_cons_zero, List.set_cons_succ]) | (refine SXl.storeAll 1 ?_ rfl rfl rfl rfl rfl rfl rfl ?_; rfl; simp only [List.set_cons_zero, List.set_cons_succ]) | (refine SXl.storeAll 2 ?_ rfl rfl rfl rfl rfl rfl rfl ?_; rfl; simp only [List.set_cons_zero, List.set_cons_succ]) | (refine SXl.storeRow 0 ?_ rfl rfl rfl rfl rfl rfl rfl ?_; rfl; simp only [over, List.set_cons_zero, List.set_cons_succ]) | (refine SXl.storeRow 1 ?_ rfl rfl rfl rfl rfl rfl rfl ?_; rfl; simp only [over, List.set_cons_zero, List.set_cons_succ]) | (refine SXl.storeRow 2 ?_ rfl rfl rfl rfl rfl rfl rfl ?_; rfl; simp only [over, List.set_cons_zero, List.set_cons_succ])) | refine SX.exit ?_ | refine SQ.thenExit ?_ | refine SQ.blockExit ?_)
    refine SQ.round3 (k + 1) a' c' (by omega) (by omega) ?_ (fun w hl => by rw [hS]; exact hl.drop1)
    (repeat (first | exact subF_nil _ | (refine subF_cons rfl ?_) | (refine subF_consv rfl (by rw [hS]) ?_)))
  have hS := partLines_all hxk hup
  have hne := allU_ne hv hxk
  have hUm := fun y hy => allU_mem hv hxk (y := y) hy
  have hUl := allU_len hv hxk
  have hd0 := (ok_node hv hxk).2.1
  have hPl := fun j => partLines_len (j := j) hv hxk
  repeat (first | refine SX.seq ?_ | refine SXl.nil ?_ | refine SX.region ?_ | refine SQ.thenNormal ?_ | refine SX.block ?_ | refine SX.skip ?_ | refine SX.condT rfl ?_ | refine SX.condF rfl ?_ | (refine l_load ?_; (first | refine SXl.v (OpW.loadRowOld rfl hc1 (nodeRow_len _ _ _ _ _ _ _ _ _) (Nat.succ_pos _) (fun h => h)) rfl ?_ ?_ ?_ | refine SXl.v (OpW.load 0 rfl rfl rfl) rfl ?_ ?_ ?_ | refine SXl.v (OpW.loadAll 1 rfl rfl rfl) rfl ?_ ?_ ?_); rfl; rfl) | (refine l_fieldAddr ?_; (refine SXl.v (OpW.fieldAddr rfl) rfl ?_ ?_ ?_); rfl; rfl) | (refine l_move ?_; (refine SXl.v (OpW.move rfl) rfl ?_ ?_ ?_); rfl; rfl) | (refine l_assign ?_; (refine SXl.v (OpW.assign rfl) rfl ?_ ?_ ?_); rfl; rfl) | (refine l_add ?_; (refine SXl.v (OpW.succ rfl rfl (by omega)) rfl ?_ ?_ ?_); rfl; rfl) | (refine l_lss ?_; (refine SXl.v (OpW.lssT rfl rfl (by omega)) rfl ?_ ?_ ?_); rfl; rfl) | (refine l_neq ?_; (refine SXl.v (OpW.neqF rfl rfl (by omega)) rfl ?_ ?_ ?_); rfl; rfl) | (refine l_indexAddr ?_; (refine SXl.v (OpW.indexAddr (by omega) rfl rfl) rfl ?_ ?_ ?_); rfl; rfl) | (refine l_alloc ?_; refine SXl.alloc ?_ ?_ (fun g => ?_); rfl; rfl) | (refine l_store ?_; first | (refine SXl.storeAll 0 ?_ rfl rfl rfl rfl rfl rfl rfl ?_; rfl; simp only [List.set_cons_zero, List.set_cons_succ]) | (refine SXl.storeAll 1 ?_ rfl rfl rfl rfl rfl rfl rfl ?_; rfl; simp only [List.set_cons_zero, List.set_cons_succ]) | (refine SXl.storeAll 2 ?_ rfl rfl rfl rfl rfl rfl rfl ?_; rfl; simp only [List.set_cons_zero, List.set_cons_succ]) | (refine SXl.storeRow 0 ?_ rfl rfl rfl rfl rfl rfl rfl ?_; rfl; simp only [over, List.set_cons_zero, List.set_cons_succ]) | (refine SXl.storeRow 1 ?_ rfl rfl rfl rfl rfl rfl rfl ?_; rfl; simp only [over, List.set_cons_zero, List.set_cons_succ]) | (refine SXl.storeRow 2 ?_ rfl rfl rfl rfl rfl rfl rfl ?_; rfl; simp only [over, List.set_cons_zero, List.set_cons_succ])))
  refine l_call ?_
  refine SXl.calln1 (v := fun p : Nat × Nat => .slice (some ⟨p.1, 0, none⟩) (allU l ((k + 1 : Nat) : Int)).length p.2) (F1 := rowsRes icell 1 (allU l ((k + 1 : Nat) : Int))) rfl rfl rfl (fun w hl => (allUnder_any l o _ c R hv (5 - dep l ((k + 1 : Nat) : Int)).toNat k _ w hxk (by omega) (h.keep hl.mod)).mono fun _ _ h => rows_of hne icell_len h) (fun p => ?_)
  have hP0 : partLines l k 0 = upLines l k := by unfold partLines; simp
  generalize hUe : allU l ((k + 1 : Nat) : Int) = U at hS hne hUm hUl
  repeat (first | refine SXl.nil ?_ | refine SQ.thenNormal ?_ | refine SX.block ?_ | (refine l_move ?_; (refine SXl.v (OpW.move rfl) rfl ?_ ?_ ?_); rfl; rfl) | (refine l_len ?_; (refine SXl.v (OpW.len rfl) rfl ?_ ?_ ?_); rfl; rfl))
  revert g; intro g5
  refine SX.loop3 (fun (j : Nat) (_ : Option Addr) (_ : Nat) => j ≤ U.length) (fun j _ _ => U.length - j) (fun _ _ _ => [⟨g5, nodeRow up ka kids.length kc st me ra ru.length rc, 85⟩, ⟨gt, [.slice (some ⟨b1, o1, none⟩) l.length c], 37⟩]) (fun j a' c' => [⟨.slice a' (partLines l k j).length c', 9, 1, (partLines l k j).length, ((partLines l k j).map tcell).flatten⟩]) (fun _ _ _ => [rowsRes icell 1 U p]) (fun j a' c' => [(1, .pointer (some ⟨gt, 0, none⟩)), (3, .slice a' (partLines l k j).length c'), (13, .slice (some ⟨b1, o1, none⟩) l.length c), (14, .int .i64 l.length), (15, .int .i64 k), (26, .slice (some ⟨p.1, 0, none⟩) U.length p.2), (27, .int .i64 U.length), (28, .int .i64 j)]) 0 a' c' (Nat.zero_le _) ?_ (fun _ hl => by rw [hP0]; exact hl) ?_
  · (repeat (first | exact subF_nil _ | (refine subF_cons rfl ?_) | (refine subF_consv rfl (by rw [hP0]) ?_)))
  clear hP0
  intro j a2 c2 hj
  have hPj := hPl j
  by_cases hjl : j < U.length
  rotate_left
  · have hj' : j = U.length := by omega
    subst hj'
    repeat (first | refine SX.seq ?_ | refine SXl.nil ?_ | refine SX.region ?_ | refine SQ.thenNormal ?_ | refine SX.condF rfl ?_ | (refine l_move ?_; (refine SXl.v (OpW.move rfl) rfl ?_ ?_ ?_); rfl; rfl) | (refine l_add ?_; (refine SXl.v (OpW.succ rfl rfl (by omega)) rfl ?_ ?_ ?_); rfl; rfl) | (refine l_lss ?_; (refine SXl.v (OpW.lssF rfl rfl (by omega)) rfl ?_ ?_ ?_); rfl; rfl) | refine SX.exit ?_ | refine SQ.thenExit ?_ | refine SQ.blockNormal ?_ | refine SQ.blockExit ?_)
    refine SQ.round3 (k + 1) a2 c2 (by omega) (by omega) ?_ (fun w hl => by rw [← hS]; exact hl.dropE.drop1)
    (repeat (first | exact subF_nil _ | (refine subF_cons rfl ?_) | (refine subF_consv rfl (by rw [← hS]) ?_)))
  obtain ⟨y, hy⟩ : ∃ y, U[j]? = some y := ⟨_, List.getElem?_eq_getElem hjl⟩
  obtain ⟨ky, z, rfl, hz⟩ := hUm y (List.mem_of_getElem? hy)
  have hcell := ints_at (p := p) hy
  have hzd := (ok_node hv hz).2.1
  have hky := (List.getElem?_eq_some_iff.1 hz).1
  obtain ⟨b2, o2, z', r2, e2, hR2, hb2, hzk, hr2, hl2, hc2⟩ := h.get hky
  obtain ⟨rfl, rfl⟩ : b1 = b2 ∧ o1 = o2 := by simpa using e2
  obtain rfl : z' = z := Option.some.inj (hzk.out.symm.trans hz)
  obtain ⟨kb, kd, rb, rd, rfl, _, _, _⟩ := hr2
  have hD := fun w' (hm : Mod (fun _ => False) w w') => depthOf_any l ((ky + 1 : Nat) : Int) o _ c R w' (by omega) (h.keep hm)
  rw [show depthF l (l.length + 1) ((ky + 1 : Nat) : Int) 0 = dep l ((ky + 1 : Nat) : Int) from rfl] at hD
  have hRp := fun w => repeat_any (dep l ((ky + 1 : Nat) : Int) - 1).toNat (by omega) w
  rw [show (((dep l ((ky + 1 : Nat) : Int) - 1).toNat : Nat) : Int) = dep l ((ky + 1 : Nat) : Int) - 1 by omega] at hRp
  have hDe := fun w h => decimal_any ((ky + 1 : Nat) : Int) ⟨by omega, by omega⟩ w h
  have hil := Lib.itoa_length_le ((ky + 1 : Nat) : Int) (by omega) (by omega)
  have hnl : nodeLine l ((ky + 1 : Nat) : Int) = (List.replicate (dep l ((ky + 1 : Nat) : Int) - 1).toNat 32 ++ Lib.itoa ((ky + 1 : Nat) : Int)) ++ (if z'.measured then [32, 42] else []) := by unfold nodeLine; rw [nodeAt_of hz]
  have hrl : (List.replicate (dep l ((ky + 1 : Nat) : Int) - 1).toNat (32 : UInt8)).length ≤ 3 := by rw [List.length_replicate]; omega
  rw [← hUe] at hy
  have hS2 := partLines_succ hy
  rw [hUe] at hy
  generalize dep l ((ky + 1 : Nat) : Int) = dd at *
  generalize List.replicate (dd - 1).toNat (32 : UInt8) = bl at *
  cases hme : z'.measured
  · rw [hnl, hme, if_neg (by decide), List.append_nil] at hS2
    repeat (first | refine SX.seq ?_ | refine SXl.nil ?_ | refine SX.region ?_ | refine SQ.thenNormal ?_ | refine SX.block ?_ | refine SX.skip ?_ | refine SX.condT rfl ?_ | refine SX.condF rfl ?_ | (refine l_load ?_; (first | refine SXl.v (OpW.loadRes (F := rowsRes icell 1 U p) (.head _) rfl hcell) rfl ?_ ?_ ?_ | refine SXl.v (OpW.loadAll 1 rfl rfl rfl) rfl ?_ ?_ ?_); rfl; rfl) | (refine l_call ?_; (first | refine SXl.v (OpW.call rfl (fun w hl => hD _ hl.mod)) rfl ?_ ?_ ?_ | refine SXl.v (OpW.call rfl (fun w hl => hRp _)) rfl ?_ ?_ ?_ | refine SXl.v (OpW.call rfl (fun w hl => hDe _ (ht.keep hl.mod))) rfl ?_ ?_ ?_ | refine SXl.v (OpW.call rfl (fun w hl => node_any _ _ _ _ ky _ _ _ _ _ _ _ _ _ w (by omega) hky (fun j v hv => hl.old (hc2 j v hv) (fun h => h)))) rfl ?_ ?_ ?_); rfl; rfl) | (refine l_field ?_; (refine SXl.v (OpW.field rfl ((nodeRow_a62 _ _ _ _ _ _ _ _ _).trans (by rw [hme]))) rfl ?_ ?_ ?_); rfl; rfl) | (refine l_move ?_; (refine SXl.v (OpW.move rfl) rfl ?_ ?_ ?_); rfl; rfl) | (refine l_assign ?_; (refine SXl.v (OpW.assign rfl) rfl ?_ ?_ ?_); rfl; rfl) | (refine l_add ?_; (first | refine SXl.v (OpW.succ rfl rfl (by omega)) rfl ?_ ?_ ?_ | refine SXl.v (OpW.cat rfl rfl (by omega)) rfl ?_ ?_ ?_); rfl; rfl) | (refine l_lss ?_; (refine SXl.v (OpW.lssT rfl rfl (by omega)) rfl ?_ ?_ ?_); rfl; rfl) | (refine l_sub ?_; (refine SXl.v (OpW.subi rfl rfl (by omega) (by omega)) rfl ?_ ?_ ?_); rfl; rfl) | (refine l_indexAddr ?_; (refine SXl.v (OpW.indexAddr1 (by omega) rfl rfl) rfl ?_ ?_ ?_); rfl; rfl) | (refine l_buildSlice ?_; first | (refine SXl.lit1 ?_ ?_ rfl rfl rfl (fun g => ?_); rfl; rfl) | (refine SXl.lit0 ?_ ?_ (fun _ h => h) rfl (fun g => ?_); rfl; rfl)) | (refine l_append ?_; first | (refine SXl.append 0 0 rfl rfl rfl rfl rfl rfl rfl rfl (by omega) (by omega) (fun a c => ?_); simp only [List.set_cons_zero, List.set_cons_succ]) | (refine SXl.append 1 0 rfl rfl rfl rfl rfl rfl rfl rfl (by omega) (by omega) (fun a c => ?_); simp only [List.set_cons_zero, List.set_cons_succ])) | refine SQ.blockNormal ?_)
    refine SQ.round3 (j + 1) _ _ (by omega) (by omega) ?_ (fun w hl => by rw [hS2, List.length_append, List.map_append, List.flatten_append]; exact hl.drop1)
    (repeat (first | exact subF_nil _ | (refine subF_cons rfl ?_) | (refine subF_consv rfl (by rw [hS2, List.length_append]; rfl) ?_)))
  · rw [hnl, hme, if_pos rfl] at hS2
    repeat (first | refine SX.seq ?_ | refine SXl.nil ?_ | refine SX.region ?_ | refine SQ.thenNormal ?_ | refine SX.block ?_ | refine SX.skip ?_ | refine SX.condT rfl ?_ | (refine l_load ?_; (first | refine SXl.v (OpW.loadRes (F := rowsRes icell 1 U p) (.head _) rfl hcell) rfl ?_ ?_ ?_ | refine SXl.v (OpW.loadAll 1 rfl rfl rfl) rfl ?_ ?_ ?_); rfl; rfl) | (refine l_call ?_; (first | refine SXl.v (OpW.call rfl (fun w hl => hD _ hl.mod)) rfl ?_ ?_ ?_ | refine SXl.v (OpW.call rfl (fun w hl => hRp _)) rfl ?_ ?_ ?_ | refine SXl.v (OpW.call rfl (fun w hl => hDe _ (ht.keep hl.mod))) rfl ?_ ?_ ?_ | refine SXl.v (OpW.call rfl (fun w hl => node_any _ _ _ _ ky _ _ _ _ _ _ _ _ _ w (by omega) hky (fun j v hv => hl.old (hc2 j v hv) (fun h => h)))) rfl ?_ ?_ ?_); rfl; rfl) | (refine l_field ?_; (refine SXl.v (OpW.field rfl ((nodeRow_a62 _ _ _ _ _ _ _ _ _).trans (by rw [hme]))) rfl ?_ ?_ ?_); rfl; rfl) | (refine l_add ?_; (first | refine SXl.v ((OpW.cat (b := [32, 42]) rfl rfl (by simp only [List.length_append, List.length_cons, List.length_nil]; omega))) rfl ?_ ?_ ?_ | refine SXl.v (OpW.succ rfl rfl (by omega)) rfl ?_ ?_ ?_ | refine SXl.v (OpW.cat rfl rfl (by omega)) rfl ?_ ?_ ?_); rfl; rfl) | (refine l_move ?_; (refine SXl.v (OpW.move rfl) rfl ?_ ?_ ?_); rfl; rfl) | (refine l_assign ?_; (refine SXl.v (OpW.assign rfl) rfl ?_ ?_ ?_); rfl; rfl) | (refine l_lss ?_; (refine SXl.v (OpW.lssT rfl rfl (by omega)) rfl ?_ ?_ ?_); rfl; rfl) | (refine l_sub ?_; (refine SXl.v (OpW.subi rfl rfl (by omega) (by omega)) rfl ?_ ?_ ?_); rfl; rfl) | (refine l_indexAddr ?_; (refine SXl.v (OpW.indexAddr1 (by omega) rfl rfl) rfl ?_ ?_ ?_); rfl; rfl) | (refine l_buildSlice ?_; first | (refine SXl.lit1 ?_ ?_ rfl rfl rfl (fun g => ?_); rfl; rfl) | (refine SXl.lit0 ?_ ?_ (fun _ h => h) rfl (fun g => ?_); rfl; rfl)) | (refine l_append ?_; first | (refine SXl.append 0 0 rfl rfl rfl rfl rfl rfl rfl rfl (by omega) (by omega) (fun a c => ?_); simp only [List.set_cons_zero, List.set_cons_succ]) | (refine SXl.append 1 0 rfl rfl rfl rfl rfl rfl rfl rfl (by omega) (by omega) (fun a c => ?_); simp only [List.set_cons_zero, List.set_cons_succ])) | refine SQ.blockNormal ?_)
    refine SQ.round3 (j + 1) _ _ (by omega) (by omega) ?_ (fun w hl => by rw [hS2, List.length_append, List.map_append, List.flatten_append]; exact hl.drop1)
    (repeat (first | exact subF_nil _ | (refine subF_cons rfl ?_) | (refine subF_consv rfl (by rw [hS2, List.length_append]; rfl) ?_)))

set_option maxRecDepth 100000 in
set_option maxHeartbeats 16000000 in
theorem streeLines_any (l : List Node) (o : Bool) (a : Option Addr) (c : Nat) (R : Nat → Prop) (w : World) (hlen : l.length ≤ 1048576) (hfit : ∀ x ∈ l, x.fits 1048576) (h : NodeSlice o R w a l) :
    Calls Tryz.prog 16 #[.agg #[.slice a l.length c]] w (NewSlice 9 1 w (treeLines l).length ((treeLines l).map tcell).flatten) := by
  refine calls_sx Tryz.func16 rfl rfl (fun a h1 h2 h3 => ((Fr.nil h1 h2).arg (h3 0 _ rfl))) ?_
  have hT := fun w' (hm : Mod (fun _ => False) w w') => streeOk_any l o a c R w' hlen hfit (h.keep hm)
  cases hv : treeOk l
  · have e : treeLines l = [] := by unfold treeLines; rw [hv]; rfl
    rw [e]
    rw [hv] at hT
    repeat (first | refine SX.seq ?_ | refine SXl.nil ?_ | refine SX.region ?_ | refine SQ.thenNormal ?_ | refine SX.condT rfl ?_ | (refine l_call ?_; (refine SXl.v (OpW.call rfl (fun w hl => hT _ hl.mod)) rfl ?_ ?_ ?_); rfl; rfl) | (refine l_load ?_; (refine SXl.v (OpW.loadAll 0 rfl rfl rfl) rfl ?_ ?_ ?_); rfl; rfl) | (refine l_move ?_; (refine SXl.v (OpW.move rfl) rfl ?_ ?_ ?_); rfl; rfl) | (refine l_assign ?_; (refine SXl.v (OpW.assign rfl) rfl ?_ ?_ ?_); rfl; rfl) | (refine l_not ?_; (refine SXl.v (OpW.not rfl) rfl ?_ ?_ ?_); rfl; rfl) | (refine l_box ?_; refine SXl.box ?_ ?_ rfl rfl (fun g => ?_); rfl; rfl) | (refine l_buildSlice ?_; first | (refine SXl.lit1 ?_ ?_ rfl rfl rfl (fun g => ?_); rfl; rfl) | (refine SXl.lit0 ?_ ?_ (fun _ h => h) rfl (fun g => ?_); rfl; rfl)) | refine SX.ret ?_ | refine SQ.thenRet ?_)
    refine SQ.body1 rfl rfl (fun w' hl => ⟨_, _, rfl, (hl.own _ List.mem_cons_self).1, hl.mod⟩)
  have e : treeLines l = upLines l l.length := by unfold treeLines; rw [hv]; rfl
  rw [e]
  rw [hv] at hT
  have hln := ok_len hv
  repeat (first | refine SX.seq ?_ | refine SXl.nil ?_ | refine SX.region ?_ | refine SQ.thenNormal ?_ | refine SX.block ?_ | refine SX.skip ?_ | refine SX.condF rfl ?_ | (refine l_call ?_; (refine SXl.v (OpW.call rfl (fun w hl => hT _ hl.mod)) rfl ?_ ?_ ?_); rfl; rfl) | (refine l_load ?_; (refine SXl.v (OpW.loadAll 0 rfl rfl rfl) rfl ?_ ?_ ?_); rfl; rfl) | (refine l_assign ?_; (refine SXl.v (OpW.assign rfl) rfl ?_ ?_ ?_); rfl; rfl) | (refine l_not ?_; (refine SXl.v (OpW.not rfl) rfl ?_ ?_ ?_); rfl; rfl) | (refine l_box ?_; refine SXl.box ?_ ?_ rfl rfl (fun g => ?_); rfl; rfl) | (refine l_buildSlice ?_; first | (refine SXl.lit1 ?_ ?_ rfl rfl rfl (fun g => ?_); rfl; rfl) | (refine SXl.lit0 ?_ ?_ (fun _ h => h) rfl (fun g => ?_); rfl; rfl)))
  rename_i gt
  refine SX.loop3 (fun (k : Nat) (_ : Option Addr) (_ : Nat) => k ≤ l.length) (fun k _ _ => l.length - k) (fun _ _ _ => [⟨gt, [.slice a l.length c], 37⟩]) (fun k a' c' => [⟨.slice a' (upLines l k).length c', 9, 1, (upLines l k).length, ((upLines l k).map tcell).flatten⟩]) (fun _ _ _ => []) (fun k a' c' => [(1, .pointer (some ⟨gt, 0, none⟩)), (3, .slice a' (upLines l k).length c'), (4, .int .i64 ((k + 1 : Nat) : Int))]) 0 _ 0 (Nat.zero_le _) ?_ (fun _ hl => hl) ?_
  · (repeat (first | exact subF_nil _ | (refine subF_cons rfl ?_) | (refine subF_consv rfl (by rfl) ?_)))
  intro k a' c' hk
  by_cases hlt : k < l.length
  rotate_left
  · have hk' : k = l.length := by omega
    subst hk'
    repeat (first | refine SX.seq ?_ | refine SXl.nil ?_ | refine SX.region ?_ | refine SQ.thenNormal ?_ | refine SX.condF rfl ?_ | (refine l_load ?_; (refine SXl.v (OpW.load 0 rfl rfl rfl) rfl ?_ ?_ ?_); rfl; rfl) | (refine l_fieldAddr ?_; (refine SXl.v (OpW.fieldAddr rfl) rfl ?_ ?_ ?_); rfl; rfl) | (refine l_move ?_; (refine SXl.v (OpW.move rfl) rfl ?_ ?_ ?_); rfl; rfl) | (refine l_assign ?_; (refine SXl.v (OpW.assign rfl) rfl ?_ ?_ ?_); rfl; rfl) | (refine l_len ?_; (refine SXl.v (OpW.len rfl) rfl ?_ ?_ ?_); rfl; rfl) | (refine l_leq ?_; (refine SXl.v (OpW.leqF rfl rfl (by omega)) rfl ?_ ?_ ?_); rfl; rfl) | refine SX.ret ?_ | refine SX.exit ?_ | refine SQ.thenExit ?_ | refine SQ.blockExit ?_)
    refine SQ.body1 rfl rfl (fun w' hl => ⟨_, _, rfl, (hl.own _ List.mem_cons_self).1, hl.mod⟩)
  obtain ⟨b1, o1, ⟨up, kids, st, me, ru⟩, r1, rfl, hR1, hb1, hxk, hr1, hl1, hc1⟩ := h.get hlt
  obtain ⟨ka, kc, ra, rc, rfl, hk1, ht1, _⟩ := hr1
  replace hxk := hxk.out
  simp only at hc1
  by_cases hup : up = 0
  rotate_left
  · have hS : upLines l (k + 1) = upLines l k := by rw [upLines_succ, rootLines_no hxk hup, List.append_nil]
    repeat (first | refine SX.seq ?_ | refine SXl.nil ?_ | refine SX.region ?_ | refine SQ.thenNormal ?_ | refine SX.block ?_ | refine SX.skip ?_ | refine SX.condT rfl ?_ | (refine l_call ?_; (refine SXl.v (OpW.call rfl (fun w hl => snode_any _ _ _ _ k _ _ _ _ _ _ _ _ _ w (by omega) hlt (fun j v hv => hl.old (hc1 j v hv) (fun h => h)))) rfl ?_ ?_ ?_); rfl; rfl) | (refine l_field ?_; (refine SXl.v (OpW.field rfl (nodeRow_a0 _ _ _ _ _ _ _ _ _)) rfl ?_ ?_ ?_); rfl; rfl) | (refine l_load ?_; (first | refine SXl.v (OpW.load 0 rfl rfl rfl) rfl ?_ ?_ ?_ | refine SXl.v (OpW.loadAll 0 rfl rfl rfl) rfl ?_ ?_ ?_); rfl; rfl) | (refine l_fieldAddr ?_; (refine SXl.v (OpW.fieldAddr rfl) rfl ?_ ?_ ?_); rfl; rfl) | (refine l_move ?_; (refine SXl.v (OpW.move rfl) rfl ?_ ?_ ?_); rfl; rfl) | (refine l_assign ?_; (refine SXl.v (OpW.assign rfl) rfl ?_ ?_ ?_); rfl; rfl) | (refine l_len ?_; (refine SXl.v (OpW.len rfl) rfl ?_ ?_ ?_); rfl; rfl) | (refine l_add ?_; (refine SXl.v (OpW.succ rfl rfl (by omega)) rfl ?_ ?_ ?_); rfl; rfl) | (refine l_leq ?_; (refine SXl.v (OpW.leqT rfl rfl (by omega)) rfl ?_ ?_ ?_); rfl; rfl) | (refine l_neq ?_; (refine SXl.v (OpW.neqT rfl rfl (by omega)) rfl ?_ ?_ ?_); rfl; rfl) | refine SX.exit ?_ | refine SQ.thenExit ?_ | refine SQ.blockExit ?_)
    refine SQ.round3 (k + 1) a' c' (by omega) (by omega) ?_ (fun w hl => by rw [hS]; exact hl)
    (repeat (first | exact subF_nil _ | (refine subF_cons rfl ?_) | (refine subF_consv rfl (by rw [hS]) ?_)))
  have hS := partLines_all hxk hup
  have hne := allU_ne hv hxk
  have hUm := fun y hy => allU_mem hv hxk (y := y) hy
  have hUl := allU_len hv hxk
  have hd0 := (ok_node hv hxk).2.1
  have hPl := fun j => partLines_len (j := j) hv hxk
  repeat (first | refine SX.seq ?_ | refine SXl.nil ?_ | refine SX.region ?_ | refine SQ.thenNormal ?_ | refine SX.block ?_ | refine SX.skip ?_ | refine SX.condT rfl ?_ | refine SX.condF rfl ?_ | (refine l_call ?_; (refine SXl.v (OpW.call rfl (fun w hl => snode_any _ _ _ _ k _ _ _ _ _ _ _ _ _ w (by omega) hlt (fun j v hv => hl.old (hc1 j v hv) (fun h => h)))) rfl ?_ ?_ ?_); rfl; rfl) | (refine l_field ?_; (refine SXl.v (OpW.field rfl (nodeRow_a0 _ _ _ _ _ _ _ _ _)) rfl ?_ ?_ ?_); rfl; rfl) | (refine l_load ?_; (first | refine SXl.v (OpW.load 0 rfl rfl rfl) rfl ?_ ?_ ?_ | refine SXl.v (OpW.loadAll 0 rfl rfl rfl) rfl ?_ ?_ ?_); rfl; rfl) | (refine l_fieldAddr ?_; (refine SXl.v (OpW.fieldAddr rfl) rfl ?_ ?_ ?_); rfl; rfl) | (refine l_move ?_; (refine SXl.v (OpW.move rfl) rfl ?_ ?_ ?_); rfl; rfl) | (refine l_len ?_; (refine SXl.v (OpW.len rfl) rfl ?_ ?_ ?_); rfl; rfl) | (refine l_leq ?_; (refine SXl.v (OpW.leqT rfl rfl (by omega)) rfl ?_ ?_ ?_); rfl; rfl) | (refine l_neq ?_; (refine SXl.v (OpW.neqF rfl rfl (by omega)) rfl ?_ ?_ ?_); rfl; rfl))
  refine l_call ?_
  refine SXl.calln1 (v := fun p : Nat × Nat => .slice (some ⟨p.1, 0, none⟩) (allU l ((k + 1 : Nat) : Int)).length p.2) (F1 := rowsRes icell 1 (allU l ((k + 1 : Nat) : Int))) rfl rfl rfl (fun w hl => (sallUnder_any l o _ c R hv hfit (5 - dep l ((k + 1 : Nat) : Int)).toNat k _ w hxk (by omega) (h.keep hl.mod)).mono fun _ _ h => rows_of hne icell_len h) (fun p => ?_)
  have hP0 : partLines l k 0 = upLines l k := by unfold partLines; simp
  generalize hUe : allU l ((k + 1 : Nat) : Int) = U at hS hne hUm hUl
  repeat (first | refine SX.seq ?_ | refine SXl.nil ?_ | refine SX.region ?_ | refine SQ.thenNormal ?_ | refine SX.block ?_ | (refine l_assign ?_; (refine SXl.v (OpW.assign rfl) rfl ?_ ?_ ?_); rfl; rfl))
  refine SX.loop3 (fun (j : Nat) (_ : Option Addr) (_ : Nat) => j ≤ U.length) (fun j _ _ => U.length - j) (fun _ _ _ => [⟨gt, [.slice (some ⟨b1, o1, none⟩) l.length c], 37⟩]) (fun j a' c' => [⟨.slice a' (partLines l k j).length c', 9, 1, (partLines l k j).length, ((partLines l k j).map tcell).flatten⟩]) (fun _ _ _ => [rowsRes icell 1 U p]) (fun j a' c' => [(1, .pointer (some ⟨gt, 0, none⟩)), (3, .slice a' (partLines l k j).length c'), (4, .int .i64 ((k + 1 : Nat) : Int)), (5, .slice (some ⟨p.1, 0, none⟩) U.length p.2), (6, .int .i64 j)]) 0 a' c' (Nat.zero_le _) ?_ (fun _ hl => by rw [hP0]; exact hl) ?_
  · (repeat (first | exact subF_nil _ | (refine subF_cons rfl ?_) | (refine subF_consv rfl (by rw [hP0]) ?_)))
  clear hP0
  intro j a2 c2 hj
  have hPj := hPl j
  by_cases hjl : j < U.length
  rotate_left
  · have hj' : j = U.length := by omega
    subst hj'
    repeat (first | refine SX.seq ?_ | refine SXl.nil ?_ | refine SX.region ?_ | refine SQ.thenNormal ?_ | refine SX.condF rfl ?_ | (refine l_move ?_; (refine SXl.v (OpW.move rfl) rfl ?_ ?_ ?_); rfl; rfl) | (refine l_assign ?_; (refine SXl.v (OpW.assign rfl) rfl ?_ ?_ ?_); rfl; rfl) | (refine l_len ?_; (refine SXl.v (OpW.len rfl) rfl ?_ ?_ ?_); rfl; rfl) | (refine l_add ?_; (refine SXl.v (OpW.succ rfl rfl (by omega)) rfl ?_ ?_ ?_); rfl; rfl) | (refine l_lss ?_; (refine SXl.v (OpW.lssF rfl rfl (by omega)) rfl ?_ ?_ ?_); rfl; rfl) | refine SX.exit ?_ | refine SQ.thenExit ?_ | refine SQ.blockNormal ?_ | refine SQ.blockExit ?_)
    refine SQ.round3 (k + 1) a2 c2 (by omega) (by omega) ?_ (fun w hl => by rw [← hS]; exact hl.dropE)
    (repeat (first | exact subF_nil _ | (refine subF_cons rfl ?_) | (refine subF_consv rfl (by rw [← hS]) ?_)))
  obtain ⟨y, hy⟩ : ∃ y, U[j]? = some y := ⟨_, List.getElem?_eq_getElem hjl⟩
  obtain ⟨ky, z, rfl, hz⟩ := hUm y (List.mem_of_getElem? hy)
  have hcell := ints_at (p := p) hy
  have hzd := (ok_node hv hz).2.1
  have hky := (List.getElem?_eq_some_iff.1 hz).1
  obtain ⟨b2, o2, z', r2, e2, hR2, hb2, hzk, hr2, hl2, hc2⟩ := h.get hky
  obtain ⟨rfl, rfl⟩ : b1 = b2 ∧ o1 = o2 := by simpa using e2
  obtain rfl : z' = z := Option.some.inj (hzk.out.symm.trans hz)
  obtain ⟨kb, kd, rb, rd, rfl, _, _, _⟩ := hr2
  have hD := fun w' (hm : Mod (fun _ => False) w w') => sdepthOf_any l ((ky + 1 : Nat) : Int) o _ c R w' (by omega) (h.keep hm)
  rw [show depthF l (l.length + 1) ((ky + 1 : Nat) : Int) 0 = dep l ((ky + 1 : Nat) : Int) from rfl] at hD
  have hRp := fun w => l01Long_any (dep l ((ky + 1 : Nat) : Int) - 1).toNat 32 (by omega) w
  rw [show (((dep l ((ky + 1 : Nat) : Int) - 1).toNat : Nat) : Int) = dep l ((ky + 1 : Nat) : Int) - 1 by omega, show (((32 : UInt8).toNat : Nat) : Int) = 32 from rfl] at hRp
  have hDe := fun w => sdecimal_any ((ky + 1 : Nat) : Int) (by omega) (by omega) w
  have hil := Lib.itoa_length_le ((ky + 1 : Nat) : Int) (by omega) (by omega)
  have hnl : nodeLine l ((ky + 1 : Nat) : Int) = (List.replicate (dep l ((ky + 1 : Nat) : Int) - 1).toNat 32 ++ Lib.itoa ((ky + 1 : Nat) : Int)) ++ (if z'.measured then [32, 42] else []) := by unfold nodeLine; rw [nodeAt_of hz]
  have hrl : (List.replicate (dep l ((ky + 1 : Nat) : Int) - 1).toNat (32 : UInt8)).length ≤ 3 := by rw [List.length_replicate]; omega
  rw [← hUe] at hy
  have hS2 := partLines_succ hy
  rw [hUe] at hy
  generalize dep l ((ky + 1 : Nat) : Int) = dd at *
  generalize List.replicate (dd - 1).toNat (32 : UInt8) = bl at *
  cases hme : z'.measured
  · rw [hnl, hme, if_neg (by decide), List.append_nil] at hS2
    repeat (first | refine SX.seq ?_ | refine SXl.nil ?_ | refine SX.region ?_ | refine SQ.thenNormal ?_ | refine SX.block ?_ | refine SX.skip ?_ | refine SX.condT rfl ?_ | refine SX.condF rfl ?_ | (refine l_move ?_; (refine SXl.v (OpW.move rfl) rfl ?_ ?_ ?_); rfl; rfl) | (refine l_assign ?_; (refine SXl.v (OpW.assign rfl) rfl ?_ ?_ ?_); rfl; rfl) | (refine l_len ?_; (refine SXl.v (OpW.len rfl) rfl ?_ ?_ ?_); rfl; rfl) | (refine l_add ?_; (refine SXl.v (OpW.succ rfl rfl (by omega)) rfl ?_ ?_ ?_); rfl; rfl) | (refine l_lss ?_; (refine SXl.v (OpW.lssT rfl rfl (by omega)) rfl ?_ ?_ ?_); rfl; rfl) | refine SX.drawn (by kernel_rfl) (by kernel_rfl) ?_ | refine SXr.nil ?_ | (refine r_load ?_; (first | refine SXr.v (OpW.loadRes (F := rowsRes icell 1 U p) (.head _) rfl hcell) rfl ?_ ?_ ?_ | refine SXr.v (OpW.loadAll 0 rfl rfl rfl) rfl ?_ ?_ ?_); rfl; rfl) | (refine r_call ?_; (first | refine SXr.v (OpW.call rfl (fun w hl => hD _ hl.mod)) rfl ?_ ?_ ?_ | refine SXr.v (OpW.call rfl (fun w hl => hRp _)) rfl ?_ ?_ ?_ | refine SXr.v (OpW.call rfl (fun w hl => hDe _)) rfl ?_ ?_ ?_ | refine SXr.v (OpW.call rfl (fun w hl => snode_any _ _ _ _ ky _ _ _ _ _ _ _ _ _ w (by omega) hky (fun j v hv => hl.old (hc2 j v hv) (fun h => h)))) rfl ?_ ?_ ?_); rfl; rfl) | (refine r_field ?_; (refine SXr.v (OpW.field rfl ((nodeRow_a62 _ _ _ _ _ _ _ _ _).trans (by rw [hme]))) rfl ?_ ?_ ?_); rfl; rfl) | (refine r_move ?_; (refine SXr.v (OpW.move rfl) rfl ?_ ?_ ?_); rfl; rfl) | (refine r_assign ?_; (refine SXr.v (OpW.assign rfl) rfl ?_ ?_ ?_); rfl; rfl) | (refine r_add ?_; (refine SXr.v (OpW.cat rfl rfl (by omega)) rfl ?_ ?_ ?_); rfl; rfl) | (refine r_sub ?_; (refine SXr.v (OpW.subi rfl rfl (by omega) (by omega)) rfl ?_ ?_ ?_); rfl; rfl) | (refine r_indexAddr ?_; (refine SXr.v (OpW.indexAddr1 (by omega) rfl rfl) rfl ?_ ?_ ?_); rfl; rfl) | (refine l_buildSlice ?_; first | (refine SXl.lit1 ?_ ?_ rfl rfl rfl (fun g => ?_); rfl; rfl) | (refine SXl.lit0 ?_ ?_ (fun _ h => h) rfl (fun g => ?_); rfl; rfl)) | (refine l_append ?_; first | (refine SXl.append 0 0 rfl rfl rfl rfl rfl rfl rfl rfl (by omega) (by omega) (fun a c => ?_); simp only [List.set_cons_zero, List.set_cons_succ]) | (refine SXl.append 1 0 rfl rfl rfl rfl rfl rfl rfl rfl (by omega) (by omega) (fun a c => ?_); simp only [List.set_cons_zero, List.set_cons_succ])) | refine SQ.blockNormal ?_)
    refine SQ.round3 (j + 1) _ _ (by omega) (by omega) ?_ (fun w hl => by rw [hS2, List.length_append, List.map_append, List.flatten_append]; exact hl.drop1)
    (repeat (first | exact subF_nil _ | (refine subF_cons rfl ?_) | (refine subF_consv rfl (by rw [hS2, List.length_append]; rfl) ?_)))
  · rw [hnl, hme, if_pos rfl] at hS2
    repeat (first | refine SX.seq ?_ | refine SXl.nil ?_ | refine SX.region ?_ | refine SQ.thenNormal ?_ | refine SX.block ?_ | refine SX.skip ?_ | refine SX.condT rfl ?_ | (refine l_add ?_; (first | refine SXl.v ((OpW.cat (b := [32, 42]) rfl rfl (by simp only [List.length_append, List.length_cons, List.length_nil]; omega))) rfl ?_ ?_ ?_ | refine SXl.v (OpW.succ rfl rfl (by omega)) rfl ?_ ?_ ?_); rfl; rfl) | (refine l_move ?_; (refine SXl.v (OpW.move rfl) rfl ?_ ?_ ?_); rfl; rfl) | (refine l_assign ?_; (refine SXl.v (OpW.assign rfl) rfl ?_ ?_ ?_); rfl; rfl) | (refine l_len ?_; (refine SXl.v (OpW.len rfl) rfl ?_ ?_ ?_); rfl; rfl) | (refine l_lss ?_; (refine SXl.v (OpW.lssT rfl rfl (by omega)) rfl ?_ ?_ ?_); rfl; rfl) | refine SX.drawn (by kernel_rfl) (by kernel_rfl) ?_ | refine SXr.nil ?_ | (refine r_load ?_; (first | refine SXr.v (OpW.loadRes (F := rowsRes icell 1 U p) (.head _) rfl hcell) rfl ?_ ?_ ?_ | refine SXr.v (OpW.loadAll 0 rfl rfl rfl) rfl ?_ ?_ ?_); rfl; rfl) | (refine r_call ?_; (first | refine SXr.v (OpW.call rfl (fun w hl => hD _ hl.mod)) rfl ?_ ?_ ?_ | refine SXr.v (OpW.call rfl (fun w hl => hRp _)) rfl ?_ ?_ ?_ | refine SXr.v (OpW.call rfl (fun w hl => hDe _)) rfl ?_ ?_ ?_ | refine SXr.v (OpW.call rfl (fun w hl => snode_any _ _ _ _ ky _ _ _ _ _ _ _ _ _ w (by omega) hky (fun j v hv => hl.old (hc2 j v hv) (fun h => h)))) rfl ?_ ?_ ?_); rfl; rfl) | (refine r_field ?_; (refine SXr.v (OpW.field rfl ((nodeRow_a62 _ _ _ _ _ _ _ _ _).trans (by rw [hme]))) rfl ?_ ?_ ?_); rfl; rfl) | (refine r_add ?_; (refine SXr.v (OpW.cat rfl rfl (by omega)) rfl ?_ ?_ ?_); rfl; rfl) | (refine r_move ?_; (refine SXr.v (OpW.move rfl) rfl ?_ ?_ ?_); rfl; rfl) | (refine r_assign ?_; (refine SXr.v (OpW.assign rfl) rfl ?_ ?_ ?_); rfl; rfl) | (refine r_sub ?_; (refine SXr.v (OpW.subi rfl rfl (by omega) (by omega)) rfl ?_ ?_ ?_); rfl; rfl) | (refine r_indexAddr ?_; (refine SXr.v (OpW.indexAddr1 (by omega) rfl rfl) rfl ?_ ?_ ?_); rfl; rfl) | (refine l_buildSlice ?_; first | (refine SXl.lit1 ?_ ?_ rfl rfl rfl (fun g => ?_); rfl; rfl) | (refine SXl.lit0 ?_ ?_ (fun _ h => h) rfl (fun g => ?_); rfl; rfl)) | (refine l_append ?_; first | (refine SXl.append 0 0 rfl rfl rfl rfl rfl rfl rfl rfl (by omega) (by omega) (fun a c => ?_); simp only [List.set_cons_zero, List.set_cons_succ]) | (refine SXl.append 1 0 rfl rfl rfl rfl rfl rfl rfl rfl (by omega) (by omega) (fun a c => ?_); simp only [List.set_cons_zero, List.set_cons_succ])) | refine SQ.blockNormal ?_)
    refine SQ.round3 (j + 1) _ _ (by omega) (by omega) ?_ (fun w hl => by rw [hS2, List.length_append, List.map_append, List.flatten_append]; exact hl.drop1)
    (repeat (first | exact subF_nil _ | (refine subF_cons rfl ?_) | (refine subF_consv rfl (by rw [hS2, List.length_append]; rfl) ?_)))
end Go.Proofs.YtpkpkojmaebflaaGreatDoor
namespace Go.Proofs.YtpkpkojmaebflaaGreatDoor
open Go.RowKit

theorem info_Frame : (Tryz.prog.info? 91).map (fun i => (i.zero, i.size, i.bytes)) = some (some (.agg #[.int .i64 0, .int .i64 0, .int .i64 0, .int .i64 0, .int .i64 0]), 5, 40) := by kernel_rfl
set_option maxRecDepth 100000 in
theorem toFrame_any (x : Frame) (w : World) :
    Calls Tryz.prog 50 #[.agg #[.int .i64 x.node, .int .i64 x.x, .int .i64 x.y, .int .i64 x.wide, .int .i64 x.high]] w fun e w' => e = .returned (.agg #[.int .i64 x.node, .int .i64 x.x, .int .i64 x.y, .int .i64 x.wide, .int .i64 x.high]) ∧ Mod (fun _ => False) w w' := by
  go_enter Tryz.func50, Tryz.ntmps50
  go_wp2
  exact bodyPost_ret (v := .agg #[.int .i64 x.node, .int .i64 x.x, .int .i64 x.y, .int .i64 x.wide, .int .i64 x.high]) (by simp [results, Tryz.results50, go_sem]) rfl ⟨rfl, by (repeat (first | with_reducible exact Mod.refl _ _ | with_reducible refine Mod.drewN ?_ _ | with_reducible refine Mod.drew ?_ | with_reducible refine Mod.alloc ?_ _ | ((with_reducible refine Mod.setNew ?_ ?_ _ _ _); (rotate_left; omega)) | with_reducible refine Mod.setAt ?_ _ _ _ ))⟩

set_option maxHeartbeats 1000000 in
theorem eqFrame_any (x y : Frame) (w : World) : Calls Tryz.prog 65 #[.agg #[.int .i64 x.node, .int .i64 x.x, .int .i64 x.y, .int .i64 x.wide, .int .i64 x.high], .agg #[.int .i64 y.node, .int .i64 y.x, .int .i64 y.y, .int .i64 y.wide, .int .i64 y.high]] w fun e w' => e = .returned (.bool (decide (x = y))) ∧ Mod (fun _ => False) w w' := by
  obtain ⟨x0, x1, x2, x3, x4⟩ := x
  obtain ⟨y0, y1, y2, y3, y4⟩ := y
  go_enter Tryz.func65, Tryz.ntmps65
  go_wp2
  all_goals
    go_ret
    refine ⟨ret_bool ?_, by (repeat (first | with_reducible exact Mod.refl _ _ | with_reducible refine Mod.drewN ?_ _ | with_reducible refine Mod.drew ?_ | with_reducible refine Mod.alloc ?_ _ | ((with_reducible refine Mod.setNew ?_ ?_ _ _ _); (rotate_left; omega)) | with_reducible refine Mod.setAt ?_ _ _ _ ))⟩
    simp_all

/-- A frame of machine numbers. -/
def Frame.ok (x : Frame) : Prop := I64 x.node ∧ I64 x.x ∧ I64 x.y ∧ I64 x.wide ∧ I64 x.high
set_option maxRecDepth 100000 in
theorem rd_Frame {w : World} {cs : List Value} (h : Rd Tryz.prog w 106 cs) : ∃ x : Frame, cs = x.cells ∧ x.ok := by
  obtain ⟨hl, hf⟩ := h.struct Tryz.underlying106
  have hl2 : cs.length = 5 := hl.trans (by kernel_rfl)
  have c1 : Tryz.prog.cellsOf 3 = 1 := by kernel_rfl
  match cs, hl2 with
  | [q0, q1, q2, q3, q4], _ =>
    obtain ⟨n0, e0, w0⟩ := (hf 0 _ rfl).int Tryz.underlying3
    obtain ⟨n1, e1, w1⟩ := (hf 1 _ rfl).int Tryz.underlying3
    obtain ⟨n2, e2, w2⟩ := (hf 2 _ rfl).int Tryz.underlying3
    obtain ⟨n3, e3, w3⟩ := (hf 3 _ rfl).int Tryz.underlying3
    obtain ⟨n4, e4, w4⟩ := (hf 4 _ rfl).int Tryz.underlying3
    simp [c1] at e0 e1 e2 e3 e4
    exact ⟨⟨n0, n1, n2, n3, n4⟩, by simp [Frame.cells, e0, e1, e2, e3, e4], wf_i64 w0, wf_i64 w1, wf_i64 w2, wf_i64 w3, wf_i64 w4⟩

end Go.Proofs.YtpkpkojmaebflaaGreatDoor
namespace Go.Proofs.YtpkpkojmaebflaaGreatDoor
open Go.RowKit

theorem szFrameS_any (n c : Nat) (a : Option Addr) (left : Int) (h0 : 0 ≤ left) (h1 : left ≤ 1048576) (hn : n ≤ 9223372036854775807) (w : World) : Calls Tryz.prog 15 #[.slice a n c, .int .i64 left] w fun e w' => e = .returned (.int .i64 (if left < n then -1 else left - n)) ∧ w = w' := by
  by_cases h : left < n
  · rw [if_pos h]
    have h2 : left - n < 0 := by omega
    have h3 : -9223372036854775807 ≤ left - n := by omega
    go_enter Tryz.func15, Tryz.ntmps15
    go_wp2
    go_ret
    exact ⟨rfl, rfl⟩
  · rw [if_neg h]
    have h2 : 0 ≤ left - n := by omega
    go_enter Tryz.func15, Tryz.ntmps15
    go_wp2
    go_ret
    exact ⟨rfl, rfl⟩

set_option maxRecDepth 100000 in
set_option maxHeartbeats 1000000 in
theorem toFrameS_any (l : List Frame) (a : Option Addr) (c : Nat) (R : Nat → Prop) (w : World) (hl : l.length ≤ 1048576) (h : SliceAt (Flat Frame.cells) 5 R w a l) :
    Calls Tryz.prog 22 #[.slice a l.length c] w (NewRows 91 w l.length (l.map Frame.cells).flatten) := by
  have H := hid h
  clear h
  obtain ⟨i0, hi, hz0, hz1, hz2⟩ := info_parts info_Frame
  have hmk : ∀ W : World, (Instr.makeSlice 42 (.int .i64 (l.length : Int)) (.int .i64 (l.length : Int))).run Tryz.prog W = .ok (.slice (some ⟨W.heap.size, 0, none⟩) l.length l.length) (W.alloc (.cells (madeCells (Value.cells (.agg #[.int .i64 0, .int .i64 0, .int .i64 0, .int .i64 0, .int .i64 0])) (l.length * 5)) 91)) := by
    intro W
    have := run_make (P := Tryz.prog) W 42 91 i0 _ Tryz.underlying42 hi hz0 .i64 .i64 l.length l.length (by omega) (by omega) (by rw [hz2]; omega) (by omega)
    simpa [hz1] using this
  clear hz0 hz1 hz2 hi
  go_enter Tryz.func22, Tryz.ntmps22
  go_wp2
  go_loopw [4] (fun i wr => ∃ k : Nat, k ≤ l.length ∧ i = .int .i64 k ∧ Filled w.heap.size 91 (l.length * 5) wr ((l.take k).map Frame.cells).flatten ∧ Mod (fun _ => False) w wr) (fun i _ => l.length - (intOf i).toNat)
  case atStart => exact ⟨0, by omega, rfl, Filled.made w _ _ _ (size_madeCells _ _), (Mod.refl _ w).alloc _⟩
  case round =>
    obtain ⟨k, hk, rfl, hF, hM⟩ := hrel
    clear hmk
    by_cases hlt : k < l.length
    · obtain ⟨b, o, x, r, rfl, hb, hbw, hx, hr, hrl, hc⟩ := (H.out.mod hM (fun _ _ f => f) (fun _ _ h => h)).get hlt
      obtain rfl : r = x.cells := hr
      have c0 : wr.cell? ⟨b, o + k * 5, none⟩ = _ := hc 0 _ rfl
      have c1 : wr.cell? ⟨b, o + k * 5 + 1, none⟩ = _ := hc 1 _ rfl
      have c2 : wr.cell? ⟨b, o + k * 5 + 2, none⟩ = _ := hc 2 _ rfl
      have c3 : wr.cell? ⟨b, o + k * 5 + 3, none⟩ = _ := hc 3 _ rfl
      have c4 : wr.cell? ⟨b, o + k * 5 + 4, none⟩ = _ := hc 4 _ rfl
      clear hc hrl
      go_wp2_with fail
      refine (toFrame_any x _).mono ?_
      rintro e w1 ⟨rfl, hm1⟩
      have hF1 := hF.mod hm1 (fun f => f)
      obtain ⟨v0, d0⟩ := hF1.cell (off := k * 5) (by omega)
      obtain ⟨v1, d1⟩ := hF1.cell (off := k * 5 + 1) (by omega)
      obtain ⟨v2, d2⟩ := hF1.cell (off := k * 5 + 2) (by omega)
      obtain ⟨v3, d3⟩ := hF1.cell (off := k * 5 + 3) (by omega)
      obtain ⟨v4, d4⟩ := hF1.cell (off := k * 5 + 4) (by omega)
      have z0 := hF1.free (k * 5)
      have z1 := hF1.free (k * 5 + 1)
      have z2 := hF1.free (k * 5 + 2)
      have z3 := hF1.free (k * 5 + 3)
      have z4 := hF1.free (k * 5 + 4)
      go_wp2
      go_roundw
      case rel =>
        refine ⟨k + 1, by omega, by go_num, ?_, ?_⟩
        · have hl0 := flat_length (cells := Frame.cells) (sz := 5) (fun _ => rfl) (l.take k)
          rw [take_length_of_lt hk] at hl0
          rw [flat_succ hx]
          have e : ∀ s : List Value, s ++ x.cells = s ++ [.int .i64 x.node] ++ [.int .i64 x.x] ++ [.int .i64 x.y] ++ [.int .i64 x.wide] ++ [.int .i64 x.high] := by intro s; simp [Frame.cells]
          rw [e]
          generalize ((l.take k).map Frame.cells).flatten = s at hF1 hl0
          exact (((((hF1.push (off := k * 5) (by simp [hl0]) (by omega) _).push (off := k * 5 + 1) (by simp [hl0]) (by omega) _).push (off := k * 5 + 2) (by simp [hl0]) (by omega) _).push (off := k * 5 + 3) (by simp [hl0]) (by omega) _).push (off := k * 5 + 4) (by simp [hl0]) (by omega) _)
        · have hM1 := hM.thenNone hm1
          (repeat (first | with_reducible exact Mod.refl _ _ | with_reducible refine Mod.drewN ?_ _ | with_reducible refine Mod.drew ?_ | with_reducible refine Mod.alloc ?_ _ | ((with_reducible refine Mod.setNew ?_ ?_ _ _ _); (rotate_left; omega)) | with_reducible refine Mod.setAt ?_ _ _ _ | with_reducible exact hM1 | with_reducible refine Mod.thenNone ?_ hM1 ))
      case measure => simp [intOf]; omega
    · have hk' : k = l.length := by omega
      subst hk'
      go_wp2
      go_ret
      refine ⟨w.heap.size, rfl, Nat.le_refl _, ?_, hM⟩
      rw [List.take_length] at hF
      exact hF.full (flat_length (cells := Frame.cells) (sz := 5) (fun _ => rfl) l)

set_option maxRecDepth 100000 in
set_option maxHeartbeats 1000000 in
theorem eqFrameS_any (l m : List Frame) (a a' : Option Addr) (c c' : Nat) (R S : Nat → Prop) (w : World) (hl : l.length ≤ 9223372036854775807) (_hm : m.length ≤ 9223372036854775807) (h : SliceAt (Flat Frame.cells) 5 R w a l) (h' : SliceAt (Flat Frame.cells) 5 S w a' m) :
    Calls Tryz.prog 29 #[.slice a l.length c, .slice a' m.length c'] w fun e w' => e = .returned (.bool (decide (l = m))) ∧ Mod (fun _ => False) w w' := by
  have H := hid h
  have H' := hid h'
  clear h h'
  by_cases hlen : l.length = m.length
  · have hn0 : ((l.length : Int) != (m.length : Int)) = false := by simp [hlen]
    have hn1 : l.length ≤ m.length := by omega
    have hn2 : m.length ≤ l.length := by omega
    clear hlen
    go_enter Tryz.func29, Tryz.ntmps29
    go_wp2
    go_loopw [5] (fun i wr => ∃ k : Nat, k ≤ l.length ∧ i = .int .i64 k ∧ SameTo l m k ∧ Mod (fun _ => False) w wr) (fun i _ => l.length - (intOf i).toNat)
    case atStart => exact ⟨0, by omega, rfl, rfl, Mod.refl _ _⟩
    case round =>
      obtain ⟨k, hk, rfl, hsame, hmod⟩ := hrel
      by_cases hlt : k < l.length
      · obtain ⟨b, o, x, r, rfl, hb, hbw, hx, hr, hrl, hc⟩ := (H.out.mod hmod (fun _ _ f => f) (fun _ _ h => h)).get hlt
        obtain rfl : r = x.cells := hr
        obtain ⟨b', o', y, r', rfl, hb', hbw', hy, hr', hrl', hd⟩ := (H'.out.mod hmod (fun _ _ f => f) (fun _ _ h => h)).get (show k < m.length by omega)
        obtain rfl : r' = y.cells := hr'
        have hlt2 : k < m.length := by omega
        have c0 : wr.cell? ⟨b, o + k * 5, none⟩ = _ := hc 0 _ rfl
        have d0 : wr.cell? ⟨b', o' + k * 5, none⟩ = _ := hd 0 _ rfl
        have c1 : wr.cell? ⟨b, o + k * 5 + 1, none⟩ = _ := hc 1 _ rfl
        have d1 : wr.cell? ⟨b', o' + k * 5 + 1, none⟩ = _ := hd 1 _ rfl
        have c2 : wr.cell? ⟨b, o + k * 5 + 2, none⟩ = _ := hc 2 _ rfl
        have d2 : wr.cell? ⟨b', o' + k * 5 + 2, none⟩ = _ := hd 2 _ rfl
        have c3 : wr.cell? ⟨b, o + k * 5 + 3, none⟩ = _ := hc 3 _ rfl
        have d3 : wr.cell? ⟨b', o' + k * 5 + 3, none⟩ = _ := hd 3 _ rfl
        have c4 : wr.cell? ⟨b, o + k * 5 + 4, none⟩ = _ := hc 4 _ rfl
        have d4 : wr.cell? ⟨b', o' + k * 5 + 4, none⟩ = _ := hd 4 _ rfl
        clear hc hd hrl hrl'
        by_cases hxy : x = y
        · have hd : decide (x = y) = true := decide_eq_true hxy
          have Hxy := hid hxy
          clear hxy
          go_wp2
          go_still_tail 8, (by kernel_rfl)
          go_wp2_with fail
          refine (eqFrame_any x y _).mono ?_
          rintro e w1 ⟨rfl, hm1⟩
          go_wp2
          go_roundw
          case rel => exact ⟨k + 1, by omega, by go_num, hsame.succ hx (Hxy.out ▸ hy), hmod.drew.thenNone hm1⟩
          case measure => simp [intOf]; omega
        · have hd : decide (x = y) = false := decide_eq_false hxy
          go_wp2
          go_still_tail 8, (by kernel_rfl)
          go_wp2_with fail
          refine (eqFrame_any x y _).mono ?_
          rintro e w1 ⟨rfl, hm1⟩
          go_wp2
          go_ret
          exact ⟨ret_bool (decide_eq_false (ne_at hx hy hxy)).symm, hmod.drew.thenNone hm1⟩
      · go_wp2
        go_ret
        exact ⟨ret_bool (decide_eq_true (hsame.all (by omega) (by omega))).symm, hmod⟩
  · have hn0 : ((l.length : Int) != (m.length : Int)) = true := by simp; omega
    have hne : l ≠ m := fun h => hlen (by rw [h])
    clear hlen
    go_enter Tryz.func29, Tryz.ntmps29
    go_wp2
    go_ret
    exact ⟨ret_bool (decide_eq_false hne).symm, Mod.refl _ _⟩

/-- A marked element's cells, its first mark q. -/
def Frame.marked (q : Int) : List Value := [.int .i64 (q), .int .i64 (q + 1), .int .i64 (q + 1 + 1), .int .i64 (q + 1 + 1 + 1), .int .i64 (q + 1 + 1 + 1 + 1)]
def Frame.marks (q : Int) : Nat → List Value
  | 0 => []
  | k + 1 => Frame.marks q k ++ Frame.marked (q + k * 5)
theorem Frame.marks_length (q : Int) (k : Nat) : (Frame.marks q k).length = k * 5 := by
  induction k with
  | zero => simp [Frame.marks]
  | succ k ih => simp [Frame.marks, Frame.marked, ih]; omega

set_option maxRecDepth 100000 in
set_option maxHeartbeats 1000000 in
theorem markFrameS_any (n c : Nat) (a : Option Addr) (g N : Nat) (w : World) (q0 : Int) (hq0 : 0 ≤ q0) (hq1 : q0 ≤ 1000000000000000) (hn : n ≤ 1048576) (h : n = 0 ∨ a = some ⟨g, 0, none⟩ ∧ n * 5 ≤ N ∧ Filled g 91 N w []) :
    Calls Tryz.prog 32 #[.slice a n c, .int .i64 q0] w fun e w' => e = .returned (.int .i64 (q0 + n * 5)) ∧ Mod (fun k => k = g) w w' ∧ (n = 0 ∨ Filled g 91 N w' (Frame.marks q0 n)) := by
  have H := hid h
  clear h
  go_enter Tryz.func32, Tryz.ntmps32
  go_wp2
  go_loopw [1, 5] (fun z i wr => ∃ (k : Nat) (q : Int), k ≤ n ∧ z = .int .i64 q ∧ Hid (q = q0 + k * 5) ∧ 0 ≤ q ∧ q ≤ 10000000000000000 ∧ i = .int .i64 k ∧ Mod (fun k => k = g) w wr ∧ (n = 0 ∨ Filled g 91 N wr (Frame.marks q0 k))) (fun _ i _ => n - (intOf i).toNat)
  case atStart =>
    refine ⟨0, q0, by omega, rfl, by show q0 = q0 + _; omega, by omega, by omega, rfl, Mod.refl _ _, ?_⟩
    rcases H.out with h | ⟨_, _, h⟩
    · exact .inl h
    · exact .inr h
  case round =>
    obtain ⟨k, q, hk, rfl, hq, q1, q2, rfl, hM, hF0⟩ := hrel
    by_cases hlt : k < n
    · rcases H.out with h | ⟨rfl, hN, _⟩
      · omega
      have hF := hF0.resolve_left (by omega)
      have hl0 := Frame.marks_length q0 k
      clear hF0
      obtain ⟨v0, d0⟩ := hF.cell (off := k * 5) (by omega)
      have z0 := hF.free (k * 5)
      obtain ⟨v1, d1⟩ := hF.cell (off := k * 5 + 1) (by omega)
      have z1 := hF.free (k * 5 + 1)
      obtain ⟨v2, d2⟩ := hF.cell (off := k * 5 + 2) (by omega)
      have z2 := hF.free (k * 5 + 2)
      obtain ⟨v3, d3⟩ := hF.cell (off := k * 5 + 3) (by omega)
      have z3 := hF.free (k * 5 + 3)
      obtain ⟨v4, d4⟩ := hF.cell (off := k * 5 + 4) (by omega)
      have z4 := hF.free (k * 5 + 4)
      have HF := hid hF
      have Hl0 := hid hl0
      clear hF hl0
      go_wp2
      go_roundw
      case rel =>
        have hF := HF.out
        have hl0 := Hl0.out
        have hq' := hq.out
        refine ⟨k + 1, q + 1 + 1 + 1 + 1 + 1, by omega, rfl, by show q + 1 + 1 + 1 + 1 + 1 = _; omega, by omega, by omega, by go_num, by (repeat (first | with_reducible exact Mod.refl _ _ | with_reducible refine Mod.drewN ?_ _ | with_reducible refine Mod.drew ?_ | with_reducible refine Mod.alloc ?_ _ | ((with_reducible refine Mod.setNew ?_ ?_ _ _ _); (rotate_left; omega)) | with_reducible refine Mod.setAt ?_ _ _ _ | with_reducible exact hM | with_reducible refine Mod.thenNone ?_ hM )), .inr ?_⟩
        have e : Frame.marks q0 (k + 1) = Frame.marks q0 k ++ [.int .i64 (q)] ++ [.int .i64 (q + 1)] ++ [.int .i64 (q + 1 + 1)] ++ [.int .i64 (q + 1 + 1 + 1)] ++ [.int .i64 (q + 1 + 1 + 1 + 1)] := by
          simp [Frame.marks, Frame.marked, ← hq']
        rw [e]
        exact (((((hF.push (off := k * 5) (by simp [hl0]) (by omega) _).push (off := k * 5 + 1) (by simp [hl0]) (by omega) _).push (off := k * 5 + 2) (by simp [hl0]) (by omega) _).push (off := k * 5 + 3) (by simp [hl0]) (by omega) _).push (off := k * 5 + 4) (by simp [hl0]) (by omega) _)
      case measure => simp [intOf]; omega
    · have hk' : k = n := by omega
      subst hk'
      go_wp2
      go_ret
      exact ⟨ret_int hq.out, hM, hF0⟩

theorem Frame.marks_at (q0 : Int) (n k j : Nat) (v : Value) (hk : k < n) (hj : (Frame.marked (q0 + k * 5))[j]? = some v) : (Frame.marks q0 n)[k * 5 + j]? = some v := by
  have hjl : j < 5 := by
    have := (List.getElem?_eq_some_iff.1 hj).1
    simpa [Frame.marked] using this
  induction n with
  | zero => omega
  | succ n ih =>
    have hl := Frame.marks_length q0 n
    unfold Frame.marks
    by_cases e : k = n
    · subst e
      rw [List.getElem?_append_right (by omega), hl, Nat.add_sub_cancel_left]
      exact hj
    · rw [List.getElem?_append_left (by rw [hl]; omega)]
      exact ih (by omega)
end Go.Proofs.YtpkpkojmaebflaaGreatDoor
namespace Go.Proofs.YtpkpkojmaebflaaGreatDoor
open Go.RowKit


set_option maxRecDepth 100000 in
set_option maxHeartbeats 2000000 in
theorem sframeLine_any (x0 x1 x2 x3 x4 : Int) (b0 : I64 x0) (b1 : I64 x1) (b2 : I64 x2) (b3 : I64 x3) (b4 : I64 x4) (w : World) :
    Calls Tryz.prog 43 #[.agg #[.int .i64 x0, .int .i64 x1, .int .i64 x2, .int .i64 x3, .int .i64 x4]] w fun e w' => e = .returned (.string ⟨(spacedOf [x0, x1, x2, x3, x4]).toArray⟩) ∧ Mod (fun _ => False) w w' := by
  have k0 := fun W => sdecimal_any x0 b0.1 b0.2 W
  have k1 := fun W => sdecimal_any x1 b1.1 b1.2 W
  have k2 := fun W => sdecimal_any x2 b2.1 b2.2 W
  have k3 := fun W => sdecimal_any x3 b3.1 b3.2 W
  have k4 := fun W => sdecimal_any x4 b4.1 b4.2 W
  have l0 := Lib.itoa_length_le x0 b0.1 b0.2
  have l1 := Lib.itoa_length_le x1 b1.1 b1.2
  have l2 := Lib.itoa_length_le x2 b2.1 b2.2
  have l3 := Lib.itoa_length_le x3 b3.1 b3.2
  have l4 := Lib.itoa_length_le x4 b4.1 b4.2
  clear b0 b1 b2 b3 b4
  go_enter Tryz.func43, Tryz.ntmps43
  go_wp2
  have hB := heap_alloc_new w (.cells [.int .i64 x0, .int .i64 x1, .int .i64 x2, .int .i64 x3, .int .i64 x4].toArray 91)
  have q0 := hold (blk_cell hB (j := 0) rfl)
  have q1 := hold (blk_cell hB (j := 1) rfl)
  have q2 := hold (blk_cell hB (j := 2) rfl)
  have q3 := hold (blk_cell hB (j := 3) rfl)
  have q4 := hold (blk_cell hB (j := 4) rfl)
  clear hB
  refine wp_region_mod (by kernel_rfl) (by kernel_rfl) ?_
  refine RM.const (v := ?_) (fun _ => rfl) (fun xq wq hSq => ?_) ?_; rotate_left; (focus (go_simp; (first | done | with_reducible rfl | ((split; (exfalso; omega)); with_reducible rfl)))); (try simp only [Act.put, List.setIfInBounds_toArray, List.set_cons_zero, List.set_cons_succ])
  refine RM.const (v := ?_) (fun _ => rfl) (fun xq wq hSq => ?_) ?_; rotate_left; (focus (go_simp; (first | done | with_reducible rfl | ((split; (exfalso; omega)); with_reducible rfl)))); (try simp only [Act.put, List.setIfInBounds_toArray, List.set_cons_zero, List.set_cons_succ])
  refine RM.callc (v := ?_) (f := ?_) (args := ?_) (fun _ => rfl) (fun xq wq hSq => ?_) (fun wq hSq => ?_) ?_; rotate_left 3; (focus (go_simp; (refine ⟨?_, ?_⟩ <;> with_reducible rfl))); (focus (exact k0 _)); (try simp only [Act.put, List.setIfInBounds_toArray, List.set_cons_zero, List.set_cons_succ])
  refine RM.const (v := ?_) (fun _ => rfl) (fun xq wq hSq => ?_) ?_; rotate_left; (focus (go_simp; (first | done | with_reducible rfl | ((split; (exfalso; omega)); with_reducible rfl)))); (try simp only [Act.put, List.setIfInBounds_toArray, List.set_cons_zero, List.set_cons_succ])
  refine RM.const (v := ?_) (fun _ => rfl) (fun xq wq hSq => ?_) ?_; rotate_left; (focus (go_simp; (first | done | with_reducible rfl | ((split; (exfalso; omega)); with_reducible rfl)))); (try simp only [Act.put, List.setIfInBounds_toArray, List.set_cons_zero, List.set_cons_succ])
  refine RM.const (v := ?_) (fun _ => rfl) (fun xq wq hSq => ?_) ?_; rotate_left; (focus (go_simp; (first | done | with_reducible rfl | ((split; (exfalso; omega)); with_reducible rfl)))); (try simp only [Act.put, List.setIfInBounds_toArray, List.set_cons_zero, List.set_cons_succ])
  refine RM.callc (v := ?_) (f := ?_) (args := ?_) (fun _ => rfl) (fun xq wq hSq => ?_) (fun wq hSq => ?_) ?_; rotate_left 3; (focus (go_simp; (refine ⟨?_, ?_⟩ <;> with_reducible rfl))); (focus (exact k1 _)); (try simp only [Act.put, List.setIfInBounds_toArray, List.set_cons_zero, List.set_cons_succ])
  refine RM.const (v := ?_) (fun _ => rfl) (fun xq wq hSq => ?_) ?_; rotate_left; (focus (go_simp; (first | done | with_reducible rfl | ((split; (exfalso; omega)); with_reducible rfl)))); (try simp only [Act.put, List.setIfInBounds_toArray, List.set_cons_zero, List.set_cons_succ])
  refine RM.const (v := ?_) (fun _ => rfl) (fun xq wq hSq => ?_) ?_; rotate_left; (focus (go_simp; (first | done | with_reducible rfl | ((split; (exfalso; omega)); with_reducible rfl)))); (try simp only [Act.put, List.setIfInBounds_toArray, List.set_cons_zero, List.set_cons_succ])
  refine RM.const (v := ?_) (fun _ => rfl) (fun xq wq hSq => ?_) ?_; rotate_left; (focus (go_simp; (first | done | with_reducible rfl | ((split; (exfalso; omega)); with_reducible rfl)))); (try simp only [Act.put, List.setIfInBounds_toArray, List.set_cons_zero, List.set_cons_succ])
  refine RM.const (v := ?_) (fun _ => rfl) (fun xq wq hSq => ?_) ?_; rotate_left; (focus (go_simp; (first | done | with_reducible rfl | ((split; (exfalso; omega)); with_reducible rfl)))); (try simp only [Act.put, List.setIfInBounds_toArray, List.set_cons_zero, List.set_cons_succ])
  refine RM.callc (v := ?_) (f := ?_) (args := ?_) (fun _ => rfl) (fun xq wq hSq => ?_) (fun wq hSq => ?_) ?_; rotate_left 3; (focus (go_simp; (refine ⟨?_, ?_⟩ <;> with_reducible rfl))); (focus (exact k2 _)); (try simp only [Act.put, List.setIfInBounds_toArray, List.set_cons_zero, List.set_cons_succ])
  refine RM.const (v := ?_) (fun _ => rfl) (fun xq wq hSq => ?_) ?_; rotate_left; (focus (go_simp; (first | done | with_reducible rfl | ((split; (exfalso; omega)); with_reducible rfl)))); (try simp only [Act.put, List.setIfInBounds_toArray, List.set_cons_zero, List.set_cons_succ])
  refine RM.const (v := ?_) (fun _ => rfl) (fun xq wq hSq => ?_) ?_; rotate_left; (focus (go_simp; (first | done | with_reducible rfl | ((split; (exfalso; omega)); with_reducible rfl)))); (try simp only [Act.put, List.setIfInBounds_toArray, List.set_cons_zero, List.set_cons_succ])
  refine RM.const (v := ?_) (fun _ => rfl) (fun xq wq hSq => ?_) ?_; rotate_left; (focus (go_simp; (first | done | with_reducible rfl | ((split; (exfalso; omega)); with_reducible rfl)))); (try simp only [Act.put, List.setIfInBounds_toArray, List.set_cons_zero, List.set_cons_succ])
  refine RM.const (v := ?_) (fun _ => rfl) (fun xq wq hSq => ?_) ?_; rotate_left; (focus (go_simp; (first | done | with_reducible rfl | ((split; (exfalso; omega)); with_reducible rfl)))); (try simp only [Act.put, List.setIfInBounds_toArray, List.set_cons_zero, List.set_cons_succ])
  refine RM.callc (v := ?_) (f := ?_) (args := ?_) (fun _ => rfl) (fun xq wq hSq => ?_) (fun wq hSq => ?_) ?_; rotate_left 3; (focus (go_simp; (refine ⟨?_, ?_⟩ <;> with_reducible rfl))); (focus (exact k3 _)); (try simp only [Act.put, List.setIfInBounds_toArray, List.set_cons_zero, List.set_cons_succ])
  refine RM.const (v := ?_) (fun _ => rfl) (fun xq wq hSq => ?_) ?_; rotate_left; (focus (go_simp; (first | done | with_reducible rfl | ((split; (exfalso; omega)); with_reducible rfl)))); (try simp only [Act.put, List.setIfInBounds_toArray, List.set_cons_zero, List.set_cons_succ])
  refine RM.const (v := ?_) (fun _ => rfl) (fun xq wq hSq => ?_) ?_; rotate_left; (focus (go_simp; (first | done | with_reducible rfl | ((split; (exfalso; omega)); with_reducible rfl)))); (try simp only [Act.put, List.setIfInBounds_toArray, List.set_cons_zero, List.set_cons_succ])
  refine RM.const (v := ?_) (fun _ => rfl) (fun xq wq hSq => ?_) ?_; rotate_left; (focus (go_simp; (first | done | with_reducible rfl | ((split; (exfalso; omega)); with_reducible rfl)))); (try simp only [Act.put, List.setIfInBounds_toArray, List.set_cons_zero, List.set_cons_succ])
  refine RM.const (v := ?_) (fun _ => rfl) (fun xq wq hSq => ?_) ?_; rotate_left; (focus (go_simp; (first | done | with_reducible rfl | ((split; (exfalso; omega)); with_reducible rfl)))); (try simp only [Act.put, List.setIfInBounds_toArray, List.set_cons_zero, List.set_cons_succ])
  refine RM.callc (v := ?_) (f := ?_) (args := ?_) (fun _ => rfl) (fun xq wq hSq => ?_) (fun wq hSq => ?_) ?_; rotate_left 3; (focus (go_simp; (refine ⟨?_, ?_⟩ <;> with_reducible rfl))); (focus (exact k4 _)); (try simp only [Act.put, List.setIfInBounds_toArray, List.set_cons_zero, List.set_cons_succ])
  refine RM.const (v := ?_) (fun _ => rfl) (fun xq wq hSq => ?_) ?_; rotate_left; (focus (go_simp; (first | done | with_reducible rfl | ((split; (exfalso; omega)); with_reducible rfl)))); (try simp only [Act.put, List.setIfInBounds_toArray, List.set_cons_zero, List.set_cons_succ])
  refine RM.const (v := ?_) (fun _ => rfl) (fun xq wq hSq => ?_) ?_; rotate_left; (focus (go_simp; (first | done | with_reducible rfl | ((split; (exfalso; omega)); with_reducible rfl)))); (try simp only [Act.put, List.setIfInBounds_toArray, List.set_cons_zero, List.set_cons_succ])
  refine RM.done (fun xq wq hSq hUq => ?_)
  clear q0 q1 q2 q3 q4
  go_wp2
  go_ret
  refine ⟨ret_str ?_, ((Mod.refl _ w).alloc _).thenNone hSq⟩
  simp only [ByteArray.mk_append_mk]
  simp [spacedOf, Lib.join_cons, Lib.joinTail]

/-- A literal of ints reads as its list. -/
theorem lit_ints (w : World) (l : List Int) : IntSlice (fun k => k = w.heap.size) (w.alloc (.cells (l.map (Value.int .i64)).toArray 3)) (some ⟨w.heap.size, 0, none⟩) l := by
  have e : (l.map icell).flatten = l.map (Value.int .i64) := by
    induction l with
    | nil => rfl
    | cons x l ih => simp [icell, ih]
  refine flat_of_blk (e := 3) ?_ (fun _ => rfl)
  rw [e]
  exact heap_alloc_new w _

set_option maxRecDepth 100000 in
set_option maxHeartbeats 2000000 in
theorem frameLine_any (x0 x1 x2 x3 x4 : Int) (b0 : I64 x0) (b1 : I64 x1) (b2 : I64 x2) (b3 : I64 x3) (b4 : I64 x4) (w : World) (ht : Tab w) :
    Calls Tryz.prog 57 #[.agg #[.int .i64 x0, .int .i64 x1, .int .i64 x2, .int .i64 x3, .int .i64 x4]] w fun e w' => e = .returned (.string ⟨(spacedOf [x0, x1, x2, x3, x4]).toArray⟩) ∧ Mod (fun _ => False) w w' := by
  have k := fun W h h' => spaced_any [x0, x1, x2, x3, x4] (some ⟨w.heap.size + 1, 0, none⟩) 5 (fun k => k = w.heap.size + 1) W (by simp) h (by simp; exact ⟨b0, b1, b2, b3, b4⟩) h'
  have hl := lit_ints (w.alloc (.cells #[.int .i64 x0, .int .i64 x1, .int .i64 x2, .int .i64 x3, .int .i64 x4] 91)) [x0, x1, x2, x3, x4]
  simp only [World.size_alloc] at hl
  clear b0 b1 b2 b3 b4
  have Ht := hid ht
  clear ht
  go_enter Tryz.func57, Tryz.ntmps57
  go_wp2_with fail
  refine (k _ hl (Ht.out.keep (((Mod.refl _ w).alloc _).alloc _))).mono ?_
  rintro e w9 ⟨rfl, hm9⟩
  clear k hl
  go_wp2
  go_ret
  exact ⟨rfl, (((Mod.refl _ w).alloc _).alloc _).thenNone hm9⟩

end Go.Proofs.YtpkpkojmaebflaaGreatDoor
namespace Go.Proofs.YtpkpkojmaebflaaGreatDoor
open Go.RowKit

theorem bytes_ne {x y : List UInt8} (h : x ≠ y) : (x == y) = false := by simpa using h

set_option maxRecDepth 100000 in
set_option maxHeartbeats 1000000 in
theorem eqStringS_any (l m : List (List UInt8)) (a a' : Option Addr) (c c' : Nat) (R S : Nat → Prop) (w : World) (hl : l.length ≤ 9223372036854775807) (_hm : m.length ≤ 9223372036854775807) (h : TextSlice R w a l) (h' : TextSlice S w a' m) :
    Calls Tryz.prog 8 #[.slice a l.length c, .slice a' m.length c'] w fun e w' => e = .returned (.bool (decide (l = m))) ∧ Mod (fun _ => False) w w' := by
  have H := hid h
  have H' := hid h'
  clear h h'
  by_cases hlen : l.length = m.length
  · have hn0 : ((l.length : Int) != (m.length : Int)) = false := by simp [hlen]
    have hn1 : l.length ≤ m.length := by omega
    have hn2 : m.length ≤ l.length := by omega
    clear hlen
    go_enter Tryz.func8, Tryz.ntmps8
    go_wp2
    go_loopw [5] (fun i wr => ∃ k : Nat, k ≤ l.length ∧ i = .int .i64 k ∧ SameTo l m k ∧ Mod (fun _ => False) w wr) (fun i _ => l.length - (intOf i).toNat)
    case atStart => exact ⟨0, by omega, rfl, rfl, Mod.refl _ _⟩
    case round =>
      obtain ⟨k, hk, rfl, hsame, hmod⟩ := hrel
      by_cases hlt : k < l.length
      · obtain ⟨b, o, x, rfl, _, hbw, hx, c0⟩ := TextSlice.get (H.out.flatKeep hmod) hlt
        obtain ⟨b', o', y, rfl, _, hbw', hy, d0⟩ := TextSlice.get (H'.out.flatKeep hmod) (show k < m.length by omega)
        have hlt2 : k < m.length := by omega
        have q0 := hold c0
        have q1 := hold d0
        clear c0 d0
        by_cases hxy : x = y
        · subst hxy
          go_wp2
          refine wp_region_mod (by kernel_rfl) (by kernel_rfl) ?_
          refine RM.const (v := ?_) (fun _ => rfl) (fun xq wq hSq => ?_) ?_; rotate_left; (focus (go_simp; (first | done | with_reducible rfl | ((split; (exfalso; omega)); with_reducible rfl)))); (try simp only [Act.put, List.setIfInBounds_toArray, List.set_cons_zero, List.set_cons_succ])
          refine RM.const (v := ?_) (fun _ => rfl) (fun xq wq hSq => ?_) ?_; rotate_left; (focus (go_simp; (first | done | with_reducible rfl | ((split; (exfalso; omega)); with_reducible rfl)))); (try simp only [Act.put, List.setIfInBounds_toArray, List.set_cons_zero, List.set_cons_succ])
          refine RM.const (v := ?_) (fun _ => rfl) (fun xq wq hSq => ?_) ?_; rotate_left; (focus (go_simp; (first | done | with_reducible rfl | ((split; (exfalso; omega)); with_reducible rfl)))); (try simp only [Act.put, List.setIfInBounds_toArray, List.set_cons_zero, List.set_cons_succ])
          refine RM.const (v := ?_) (fun _ => rfl) (fun xq wq hSq => ?_) ?_; rotate_left; (focus (go_simp; (first | done | with_reducible rfl | ((split; (exfalso; omega)); with_reducible rfl)))); (try simp only [Act.put, List.setIfInBounds_toArray, List.set_cons_zero, List.set_cons_succ])
          refine RM.const (v := ?_) (fun _ => rfl) (fun xq wq hSq => ?_) ?_; rotate_left; (focus (go_simp; (first | done | with_reducible rfl | ((split; (exfalso; omega)); with_reducible rfl)))); (try simp only [Act.put, List.setIfInBounds_toArray, List.set_cons_zero, List.set_cons_succ])
          refine RM.const (v := ?_) (fun _ => rfl) (fun xq wq hSq => ?_) ?_; rotate_left; (focus (go_simp; (first | done | with_reducible rfl | ((split; (exfalso; omega)); with_reducible rfl)))); (try simp only [Act.put, List.setIfInBounds_toArray, List.set_cons_zero, List.set_cons_succ])
          refine RM.const (v := ?_) (fun _ => rfl) (fun xq wq hSq => ?_) ?_; rotate_left; (focus (go_simp; (first | done | with_reducible rfl | ((split; (exfalso; omega)); with_reducible rfl)))); (try simp only [Act.put, List.setIfInBounds_toArray, List.set_cons_zero, List.set_cons_succ])
          refine RM.const (v := ?_) (fun _ => rfl) (fun xq wq hSq => ?_) ?_; rotate_left; (focus (go_simp; (first | done | with_reducible rfl | ((split; (exfalso; omega)); with_reducible rfl)))); (try simp only [Act.put, List.setIfInBounds_toArray, List.set_cons_zero, List.set_cons_succ])
          refine RM.const (v := ?_) (fun _ => rfl) (fun xq wq hSq => ?_) ?_; rotate_left; (focus (go_simp; (first | done | with_reducible rfl | ((split; (exfalso; omega)); with_reducible rfl)))); (try simp only [Act.put, List.setIfInBounds_toArray, List.set_cons_zero, List.set_cons_succ])
          refine RM.done (fun xq wq hSq hUq => ?_)
          clear q0 q1
          go_wp2
          go_roundw
          case rel => exact ⟨k + 1, by omega, by go_num, hsame.succ hx hy, hmod.thenNone hSq⟩
          case measure => simp [intOf]; omega
        · have hd := bytes_ne hxy
          have Hxy := hid hxy
          clear hxy
          go_wp2
          refine wp_region_mod (by kernel_rfl) (by kernel_rfl) ?_
          refine RM.const (v := ?_) (fun _ => rfl) (fun xq wq hSq => ?_) ?_; rotate_left; (focus (go_simp; (first | done | with_reducible rfl | ((split; (exfalso; omega)); with_reducible rfl)))); (try simp only [Act.put, List.setIfInBounds_toArray, List.set_cons_zero, List.set_cons_succ])
          refine RM.const (v := ?_) (fun _ => rfl) (fun xq wq hSq => ?_) ?_; rotate_left; (focus (go_simp; (first | done | with_reducible rfl | ((split; (exfalso; omega)); with_reducible rfl)))); (try simp only [Act.put, List.setIfInBounds_toArray, List.set_cons_zero, List.set_cons_succ])
          refine RM.const (v := ?_) (fun _ => rfl) (fun xq wq hSq => ?_) ?_; rotate_left; (focus (go_simp; (first | done | with_reducible rfl | ((split; (exfalso; omega)); with_reducible rfl)))); (try simp only [Act.put, List.setIfInBounds_toArray, List.set_cons_zero, List.set_cons_succ])
          refine RM.const (v := ?_) (fun _ => rfl) (fun xq wq hSq => ?_) ?_; rotate_left; (focus (go_simp; (first | done | with_reducible rfl | ((split; (exfalso; omega)); with_reducible rfl)))); (try simp only [Act.put, List.setIfInBounds_toArray, List.set_cons_zero, List.set_cons_succ])
          refine RM.const (v := ?_) (fun _ => rfl) (fun xq wq hSq => ?_) ?_; rotate_left; (focus (go_simp; (first | done | with_reducible rfl | ((split; (exfalso; omega)); with_reducible rfl)))); (try simp only [Act.put, List.setIfInBounds_toArray, List.set_cons_zero, List.set_cons_succ])
          refine RM.const (v := ?_) (fun _ => rfl) (fun xq wq hSq => ?_) ?_; rotate_left; (focus (go_simp; (first | done | with_reducible rfl | ((split; (exfalso; omega)); with_reducible rfl)))); (try simp only [Act.put, List.setIfInBounds_toArray, List.set_cons_zero, List.set_cons_succ])
          refine RM.const (v := ?_) (fun _ => rfl) (fun xq wq hSq => ?_) ?_; rotate_left; (focus (go_simp; (first | done | with_reducible rfl | ((split; (exfalso; omega)); with_reducible rfl)))); (try simp only [Act.put, List.setIfInBounds_toArray, List.set_cons_zero, List.set_cons_succ])
          refine RM.const (v := ?_) (fun _ => rfl) (fun xq wq hSq => ?_) ?_; rotate_left; (focus (go_simp; (first | done | with_reducible rfl | ((split; (exfalso; omega)); with_reducible rfl)))); (try simp only [Act.put, List.setIfInBounds_toArray, List.set_cons_zero, List.set_cons_succ])
          refine RM.const (v := ?_) (fun _ => rfl) (fun xq wq hSq => ?_) ?_; rotate_left; (focus (go_simp; (first | done | with_reducible rfl | ((split; (exfalso; omega)); with_reducible rfl)))); (try simp only [Act.put, List.setIfInBounds_toArray, List.set_cons_zero, List.set_cons_succ])
          refine RM.done (fun xq wq hSq hUq => ?_)
          clear q0 q1
          go_wp2
          go_ret
          exact ⟨ret_bool (decide_eq_false (ne_at hx hy Hxy.out)).symm, hmod.thenNone hSq⟩
      · go_wp2
        go_ret
        exact ⟨ret_bool (decide_eq_true (hsame.all (by omega) (by omega))).symm, hmod⟩
  · have hn0 : ((l.length : Int) != (m.length : Int)) = true := by simp; omega
    have hne : l ≠ m := fun h => hlen (by rw [h])
    clear hlen
    go_enter Tryz.func8, Tryz.ntmps8
    go_wp2
    go_ret
    exact ⟨ret_bool (decide_eq_false hne).symm, Mod.refl _ _⟩

/-- The mark number k. -/
def markW (k : Int) : List UInt8 := 109 :: Lib.decDigits k.natAbs
set_option maxRecDepth 100000 in
set_option maxHeartbeats 2000000 in
theorem markText_any (n : Int) (h0 : 1 ≤ n) (h1 : n ≤ 10000000000) (w : World) :
    Calls Tryz.prog 33 #[.int .i64 n] w fun e w' => e = .returned (.string ⟨(markW n).toArray⟩) ∧ Mod (fun _ => False) w w' := by
  have hst := DigInv.start n (by omega)
  go_enter Tryz.func33, Tryz.ntmps33
  go_wp2
  go_loopw [0, 3] (fun v s wr => ∃ (k : Nat) (l : List UInt8), k ≤ 10000000000 ∧ v = .int .i64 (k : Int) ∧ s = .string ⟨l.toArray⟩ ∧ DigInv n (k : Int) l ∧ Mod (fun _ => False) w wr) (fun v _ _ => (intOf v).natAbs)
  case atStart => exact ⟨n.natAbs, [], by omega, by rw [show (n.natAbs : Int) = n by omega], rfl, by rw [show (n.natAbs : Int) = n by omega]; exact hst, Mod.refl _ _⟩
  case round =>
    obtain ⟨k, l, hk0, rfl, rfl, hI, hM⟩ := hrel
    clear hst
    have hl20 := hI.short (by omega) (by omega)
    clear h0 h1
    by_cases hm : k = 0
    · subst hm
      have hres := hid hI.done
      clear hI
      have hcat := cat_one 109 l
      go_wp2
      go_ret
      exact ⟨ret_string (by unfold markW; rw [hres.out]), hM⟩
    · have hk1 : 1 ≤ k := by omega
      obtain ⟨d, hd⟩ : ∃ d, d = k % 10 := ⟨_, rfl⟩
      obtain ⟨q, hq⟩ : ∃ q, q = k / 10 := ⟨_, rfl⟩
      have hd10 : d < 10 := by omega
      have hq' : q ≤ 922337203685477580 := by omega
      have hqk : q < k := by omega
      have hstep := hid (digInv_step (q := (q : Int)) hI (by omega) (by omega) (show d = ((k : Int)).natAbs % 10 by omega))
      have hc := conv_digit d hd10
      have hcat := cat_one (digit d) l
      clear hI
      have e3 : (k : Int) % 10 = d := by omega
      have e4 : (k : Int) / 10 = q := by omega
      clear hd hq
      go_wp2
      go_roundw
      case rel => exact ⟨q, digit d :: l, by omega, rfl, rfl, hstep.out, hM.alloc _⟩
      case measure => simp [intOf]; omega

/-- The cells of marks from q on. -/
def Text.marks (q : Int) : Nat → List Value
  | 0 => []
  | k + 1 => Text.marks q k ++ tcell (markW (q + k))
theorem Text.marks_length (q : Int) (k : Nat) : (Text.marks q k).length = k := by
  induction k with
  | zero => simp [Text.marks]
  | succ k ih => simp [Text.marks, tcell, ih]

set_option maxRecDepth 100000 in
set_option maxHeartbeats 1000000 in
theorem markStringS_any (n c : Nat) (a : Option Addr) (g N : Nat) (w : World) (q0 : Int) (hq0 : 1 ≤ q0) (hq1 : q0 ≤ 1000) (hn : n ≤ 2000000) (h : n = 0 ∨ a = some ⟨g, 0, none⟩ ∧ n * 1 ≤ N ∧ Filled g 9 N w []) :
    Calls Tryz.prog 11 #[.slice a n c, .int .i64 q0] w fun e w' => e = .returned (.int .i64 (q0 + n)) ∧ Mod (fun k => k = g) w w' ∧ (n = 0 ∨ Filled g 9 N w' (Text.marks q0 n)) := by
  have H := hid h
  clear h
  have hgs : n = 0 ∨ g < w.heap.size := by
    rcases H.out with h | ⟨_, _, h⟩
    · exact .inl h
    · exact .inr h.size
  go_enter Tryz.func11, Tryz.ntmps11
  go_wp2
  go_loopw [1, 5] (fun z i wr => ∃ (k : Nat) (q : Int), k ≤ n ∧ z = .int .i64 q ∧ Hid (q = q0 + k) ∧ 1 ≤ q ∧ q ≤ 1000000000 ∧ i = .int .i64 k ∧ Mod (fun k => k = g) w wr ∧ (n = 0 ∨ Filled g 9 N wr (Text.marks q0 k))) (fun _ i _ => n - (intOf i).toNat)
  case atStart =>
    refine ⟨0, q0, by omega, rfl, by show q0 = q0 + _; omega, by omega, by omega, rfl, Mod.refl _ _, ?_⟩
    rcases H.out with h | ⟨_, _, h⟩
    · exact .inl h
    · exact .inr h
  case round =>
    obtain ⟨k, q, hk, rfl, hq, q1, q2, rfl, hM, hF0⟩ := hrel
    by_cases hlt : k < n
    · rcases H.out with h | ⟨rfl, hN, _⟩
      · omega
      have hF := hF0.resolve_left (by omega)
      clear hF0
      go_wp2_with fail
      refine (markText_any q q1 (by omega) _).mono ?_
      rintro e w1 ⟨rfl, hm1⟩
      have hF1 := hF.mod hm1 (fun f => f)
      have hM1 := hM.thenNone hm1
      have hl0 := Text.marks_length q0 k
      obtain ⟨v0, d0⟩ := hF1.cell (off := k) (by omega)
      have z0 := hF1.free k
      have HF := hid hF1
      have Hl0 := hid hl0
      clear hF hF1 hl0 hM hm1
      go_wp2
      go_roundw
      case rel =>
        have hq' := hq.out
        refine ⟨k + 1, q + 1, by omega, rfl, by show q + 1 = _; omega, by omega, by omega, by go_num, by (repeat (first | with_reducible exact Mod.refl _ _ | with_reducible refine Mod.drewN ?_ _ | with_reducible refine Mod.drew ?_ | with_reducible refine Mod.alloc ?_ _ | ((with_reducible refine Mod.setNew ?_ ?_ _ _ _); (rotate_left; omega)) | with_reducible refine Mod.setAt ?_ _ _ _ | with_reducible exact hM1 | with_reducible refine Mod.thenNone ?_ hM1 )), .inr ?_⟩
        have e : Text.marks q0 (k + 1) = Text.marks q0 k ++ [.string ⟨(markW q).toArray⟩] := by
          simp [Text.marks, tcell, ← hq']
        rw [e]
        exact HF.out.push (by simp [Hl0.out]) (by omega) _
      case measure => simp [intOf]; omega
    · have hk' : k = n := by omega
      subst hk'
      go_wp2
      go_ret
      exact ⟨ret_int hq.out, hM, hF0⟩

theorem Text.marks_at (q0 : Int) (n k : Nat) (hk : k < n) : (Text.marks q0 n)[k]? = some (.string ⟨(markW (q0 + k)).toArray⟩) := by
  induction n with
  | zero => omega
  | succ n ih =>
    have hl := Text.marks_length q0 n
    unfold Text.marks
    by_cases e : k = n
    · subst e
      rw [List.getElem?_append_right (by omega), hl, Nat.sub_self]
      rfl
    · rw [List.getElem?_append_left (by rw [hl]; omega)]
      exact ih (by omega)

set_option maxRecDepth 100000 in
set_option maxHeartbeats 1000000 in
theorem heldStringS_any (n c : Nat) (a : Option Addr) (g N : Nat) (w : World) (q0 : Int) (hq0 : 1 ≤ q0) (hq1 : q0 ≤ 1000) (hn : n ≤ 2000000) (h : n = 0 ∨ a = some ⟨g, 0, none⟩ ∧ n * 1 ≤ N ∧ Filled g 9 N w (Text.marks q0 n)) :
    Calls Tryz.prog 12 #[.slice a n c, .int .i64 q0] w fun e w' => e = .returned (.int .i64 (q0 + n)) ∧ Mod (fun _ => False) w w' := by
  have H := hid h
  clear h
  go_enter Tryz.func12, Tryz.ntmps12
  go_wp2
  go_loopw [1, 5] (fun z i wr => ∃ (k : Nat) (q : Int), k ≤ n ∧ z = .int .i64 q ∧ Hid (q = q0 + k) ∧ 1 ≤ q ∧ q ≤ 1000000000 ∧ i = .int .i64 k ∧ Mod (fun _ => False) w wr) (fun _ i _ => n - (intOf i).toNat)
  case atStart => exact ⟨0, q0, by omega, rfl, by show q0 = q0 + _; omega, by omega, by omega, rfl, Mod.refl _ _⟩
  case round =>
    obtain ⟨k, q, hk, rfl, hq, q1, q2, rfl, hM⟩ := hrel
    by_cases hlt : k < n
    · rcases H.out with h | ⟨rfl, hN, hF⟩
      · omega
      have hc := (hF.mod hM (fun f => f)).read (Text.marks_at q0 n k hlt)
      rw [← hq.out] at hc
      have p0 := hold hc
      clear hF hc
      go_wp2
      refine wp_region_mod (by kernel_rfl) (by kernel_rfl) ?_
      refine RM.const (v := ?_) (fun _ => rfl) (fun xq wq hSq => ?_) ?_; rotate_left; (focus (go_simp; (first | done | with_reducible rfl | ((split; (exfalso; omega)); with_reducible rfl)))); (try simp only [Act.put, List.setIfInBounds_toArray, List.set_cons_zero, List.set_cons_succ])
      refine RM.const (v := ?_) (fun _ => rfl) (fun xq wq hSq => ?_) ?_; rotate_left; (focus (go_simp; (first | done | with_reducible rfl | ((split; (exfalso; omega)); with_reducible rfl)))); (try simp only [Act.put, List.setIfInBounds_toArray, List.set_cons_zero, List.set_cons_succ])
      refine RM.const (v := ?_) (fun _ => rfl) (fun xq wq hSq => ?_) ?_; rotate_left; (focus (go_simp; (first | done | with_reducible rfl | ((split; (exfalso; omega)); with_reducible rfl)))); (try simp only [Act.put, List.setIfInBounds_toArray, List.set_cons_zero, List.set_cons_succ])
      refine RM.const (v := ?_) (fun _ => rfl) (fun xq wq hSq => ?_) ?_; rotate_left; (focus (go_simp; (first | done | with_reducible rfl | ((split; (exfalso; omega)); with_reducible rfl)))); (try simp only [Act.put, List.setIfInBounds_toArray, List.set_cons_zero, List.set_cons_succ])
      refine RM.const (v := ?_) (fun _ => rfl) (fun xq wq hSq => ?_) ?_; rotate_left; (focus (go_simp; (first | done | with_reducible rfl | ((split; (exfalso; omega)); with_reducible rfl)))); (try simp only [Act.put, List.setIfInBounds_toArray, List.set_cons_zero, List.set_cons_succ])
      refine RM.callc (v := ?_) (f := ?_) (args := ?_) (fun _ => rfl) (fun xq wq hSq => ?_) (fun wq hSq => ?_) ?_; rotate_left 3; (focus (go_simp; (refine ⟨?_, ?_⟩ <;> with_reducible rfl))); (focus (exact markText_any q q1 (by omega) _)); (try simp only [Act.put, List.setIfInBounds_toArray, List.set_cons_zero, List.set_cons_succ])
      refine RM.const (v := ?_) (fun _ => rfl) (fun xq wq hSq => ?_) ?_; rotate_left; (focus (go_simp; (first | done | with_reducible rfl | ((split; (exfalso; omega)); with_reducible rfl)))); (try simp only [Act.put, List.setIfInBounds_toArray, List.set_cons_zero, List.set_cons_succ])
      refine RM.done (fun xq wq hSq hUq => ?_)
      clear p0
      go_wp2
      go_roundw
      case rel => exact ⟨k + 1, q + 1, by omega, rfl, by have := hq.out; show q + 1 = _; omega, by omega, by have := hq.out; omega, by go_num, hM.thenNone hSq⟩
      case measure => simp [intOf]; omega
    · have hk' : k = n := by omega
      subst hk'
      go_wp2
      go_ret
      exact ⟨ret_int hq.out, hM⟩

end Go.Proofs.YtpkpkojmaebflaaGreatDoor
namespace Go.Proofs.YtpkpkojmaebflaaGreatDoor
open Go.RowKit

/-- The text of a frame. -/
def frameW (x : Frame) : List UInt8 := spacedOf [x.node, x.x, x.y, x.wide, x.high]

set_option maxRecDepth 100000 in
set_option maxHeartbeats 4000000 in
theorem sframeLines_any  (l : List Frame) (a : Option Addr) (c : Nat) (R : Nat → Prop) (w : World) (hl : l.length ≤ 1048576) (h : SliceAt (Flat Frame.cells) 5 R w a l) (hb : ∀ x ∈ l, x.ok):
    Calls Tryz.prog 17 #[.slice a l.length c] w (NewSlice 9 1 w (l.map frameW).length ((l.map frameW).map tcell).flatten) := by
  have H := hid h
  clear h
  obtain ⟨i0, hi, hz0, hz1, hz2⟩ := info_parts info_string
  have Hi := hid hi
  have Hz0 := hid hz0
  have Hz1 := hid hz1
  have Hz2 := hid hz2
  clear hi hz0 hz1 hz2
  rw [show l.map frameW = l.filterMap (fun x => some (frameW x)) from map_fm _ _]
  have Hb := hid hb
  clear hb
  go_enter Tryz.func17, Tryz.ntmps17
  go_wp2_with fail
  go_loopw [3, 4] (fun v i wr => ∃ (k : Nat) (a' : Option Addr) (c' : Nat), k ≤ l.length ∧ i = .int .i64 k ∧ v = .slice a' ((l.take k).filterMap (fun x => some (frameW x))).length c' ∧ wr.ownsRow w.heap.size 9 1 (.slice a' ((l.take k).filterMap (fun x => some (frameW x))).length c') ((l.take k).filterMap (fun x => some (frameW x))).length (((l.take k).filterMap (fun x => some (frameW x))).map tcell).flatten ∧ Mod (fun _ => False) w wr) (fun _ i _ => l.length - (intOf i).toNat)
  case atStart =>
    exact ⟨0, _, _, by omega, rfl, rfl, World.ownsRow_made w #[] 0 (Nat.le_refl _) (by unfold maxLen; omega) rfl, (Mod.refl _ w).alloc _⟩
  case round =>
    obtain ⟨k, a', c', hk, rfl, rfl, hO, hM⟩ := hrel
    have hFl : ((l.take k).filterMap (fun x => some (frameW x))).length ≤ k := fm_len _ _ _
    by_cases hlt : k < l.length
    · obtain ⟨b, o, x, r, rfl, hb, hbw, hx, hr, hrl, hc⟩ := (H.out.flatKeep hM).get hlt
      obtain rfl : r = x.cells := hr
      have c0 := hc 0 _ rfl
      have c1 := hc 1 _ rfl
      have c2 := hc 2 _ rfl
      have c3 := hc 3 _ rfl
      have c4 := hc 4 _ rfl
      simp only [Nat.add_zero] at c0
      clear hc hrl
      obtain ⟨b0, b1, b2, b3, b4⟩ := Hb.out x (List.mem_of_getElem? hx.out)
      go_wp2_with fail
      refine (sframeLine_any _ _ _ _ _ b0 b1 b2 b3 b4 _).mono ?_
      rintro e w1 ⟨rfl, hm1⟩
      have hM1 := hM.thenNone hm1
      have hO1 := own_mod hO hm1 (fun _ _ f => f)
      clear hm1 b0 b1 b2 b3 b4
      have hg : (fun x => some (frameW x)) x = some (frameW x) := rfl
      have He := hid (fm_some (fun x => some (frameW x)) hx hg)
      generalize ((l.take k).filterMap (fun x => some (frameW x))) = F at He hFl hO hO1
      have h3 : F.length + 1 ≤ maxLen := by unfold maxLen; omega
      have h4 : (F.length + 1) * 16 ≤ 140737488355328 := by omega
      go_wp2_with (first | (at_builtin; refine wpList_append_own _ rfl _ _ 33 rfl w.heap.size 9 i0 _ 1 16 Tryz.underlying33 Hi.out Hz0.out Hz1.out Hz2.out rfl (by decide) _ _ _ rfl (hO1.alloc _) ⟨w1.heap.size, 0, none⟩ 1 1 [.string ⟨(frameW x).toArray⟩] rfl rfl (cells_new _ _ _) (ones_of rfl) h3 h4 (own_room hM1 _) ?_) | fail)
      intro v' w9 hown1 hgrow _
      obtain ⟨a1, c1', hv⟩ := own_form hown1
      rw [hv] at hown1 ⊢
      have hM1 := hM1.appended hO1 (Nat.le_refl _) hgrow
      clear hv hgrow h3 h4
      go_wp2_with fail
      go_roundw
      case rel =>
        refine ⟨k + 1, a1, c1', by omega, by go_num, ?_, ?_, hM1⟩
        · rw [He.out, List.length_append]; rfl
        · rw [He.out, List.length_append, List.map_append, List.flatten_append]
          simpa [tcell] using hown1
      case measure => simp [intOf]; omega
    · have hk' : k = l.length := by omega
      subst hk'
      rw [List.take_length] at hO
      go_wp2
      go_ret
      rw [List.take_length]
      exact ⟨a', c', rfl, hO, hM⟩

set_option maxRecDepth 100000 in
set_option maxHeartbeats 4000000 in
theorem frameLines_any  (l : List Frame) (a : Option Addr) (c : Nat) (R : Nat → Prop) (w : World) (hl : l.length ≤ 1048576) (h : SliceAt (Flat Frame.cells) 5 R w a l) (hb : ∀ x ∈ l, x.ok) (ht : Tab w):
    Calls Tryz.prog 24 #[.slice a l.length c] w (NewSlice 9 1 w (l.map frameW).length ((l.map frameW).map tcell).flatten) := by
  have H := hid h
  clear h
  obtain ⟨i0, hi, hz0, hz1, hz2⟩ := info_parts info_string
  have Hi := hid hi
  have Hz0 := hid hz0
  have Hz1 := hid hz1
  have Hz2 := hid hz2
  clear hi hz0 hz1 hz2
  rw [show l.map frameW = l.filterMap (fun x => some (frameW x)) from map_fm _ _]
  have Hb := hid hb
  have Ht := hid ht
  clear hb ht
  go_enter Tryz.func24, Tryz.ntmps24
  go_wp2_with fail
  go_loopw [3, 8] (fun v i wr => ∃ (k : Nat) (a' : Option Addr) (c' : Nat), k ≤ l.length ∧ i = .int .i64 k ∧ v = .slice a' ((l.take k).filterMap (fun x => some (frameW x))).length c' ∧ wr.ownsRow w.heap.size 9 1 (.slice a' ((l.take k).filterMap (fun x => some (frameW x))).length c') ((l.take k).filterMap (fun x => some (frameW x))).length (((l.take k).filterMap (fun x => some (frameW x))).map tcell).flatten ∧ Mod (fun _ => False) w wr) (fun _ i _ => l.length - (intOf i).toNat)
  case atStart =>
    exact ⟨0, _, _, by omega, rfl, rfl, World.ownsRow_nil _ _ _ _, Mod.refl _ _⟩
  case round =>
    obtain ⟨k, a', c', hk, rfl, rfl, hO, hM⟩ := hrel
    have hFl : ((l.take k).filterMap (fun x => some (frameW x))).length ≤ k := fm_len _ _ _
    by_cases hlt : k < l.length
    · obtain ⟨b, o, x, r, rfl, hb, hbw, hx, hr, hrl, hc⟩ := (H.out.flatKeep hM).get hlt
      obtain rfl : r = x.cells := hr
      have c0 := hc 0 _ rfl
      have c1 := hc 1 _ rfl
      have c2 := hc 2 _ rfl
      have c3 := hc 3 _ rfl
      have c4 := hc 4 _ rfl
      simp only [Nat.add_zero] at c0
      clear hc hrl
      obtain ⟨b0, b1, b2, b3, b4⟩ := Hb.out x (List.mem_of_getElem? hx.out)
      go_wp2_with fail
      refine (frameLine_any _ _ _ _ _ b0 b1 b2 b3 b4 _ (Ht.out.keep (hM.alloc _))).mono ?_
      rintro e w1 ⟨rfl, hm1⟩
      have hM1 := (hM.alloc _).thenNone hm1
      have hO1 := own_mod (hO.alloc _) hm1 (fun _ _ f => f)
      clear hm1 b0 b1 b2 b3 b4
      have hg : (fun x => some (frameW x)) x = some (frameW x) := rfl
      have He := hid (fm_some (fun x => some (frameW x)) hx hg)
      generalize ((l.take k).filterMap (fun x => some (frameW x))) = F at He hFl hO hO1
      have h3 : F.length + 1 ≤ maxLen := by unfold maxLen; omega
      have h4 : (F.length + 1) * 16 ≤ 140737488355328 := by omega
      go_wp2_with (first | (at_builtin; refine wpList_append_own _ rfl _ _ 33 rfl w.heap.size 9 i0 _ 1 16 Tryz.underlying33 Hi.out Hz0.out Hz1.out Hz2.out rfl (by decide) _ _ _ rfl (hO1.alloc _) ⟨w1.heap.size, 0, none⟩ 1 1 [.string ⟨(frameW x).toArray⟩] rfl rfl (cells_new _ _ _) (ones_of rfl) h3 h4 (own_room hM1 _) ?_) | fail)
      intro v' w9 hown1 hgrow _
      obtain ⟨a1, c1', hv⟩ := own_form hown1
      rw [hv] at hown1 ⊢
      have hM1 := hM1.appended hO1 (Nat.le_refl _) hgrow
      clear hv hgrow h3 h4
      go_wp2_with fail
      go_roundw
      case rel =>
        refine ⟨k + 1, a1, c1', by omega, by go_num, ?_, ?_, hM1⟩
        · rw [He.out, List.length_append]; rfl
        · rw [He.out, List.length_append, List.map_append, List.flatten_append]
          simpa [tcell] using hown1
      case measure => simp [intOf]; omega
    · have hk' : k = l.length := by omega
      subst hk'
      rw [List.take_length] at hO
      go_wp2
      go_ret
      rw [List.take_length]
      exact ⟨a', c', rfl, hO, hM⟩

end Go.Proofs.YtpkpkojmaebflaaGreatDoor
namespace Go.Proofs.YtpkpkojmaebflaaGreatDoor
open Go.RowKit

theorem toSpace_any (x : Space) (w : World) : Calls Tryz.prog 109 #[.agg #[.int .i64 x.mode, .int .i64 x.n]] w fun e w' => e = .returned (.agg #[.int .i64 x.mode, .int .i64 x.n]) ∧ Mod (fun _ => False) w w' := by
  go_enter Tryz.func109, Tryz.ntmps109
  go_wp2
  refine bodyPost_ret (v := .agg #[.int .i64 x.mode, .int .i64 x.n]) (by simp [results, Tryz.results109, go_sem]) rfl ⟨rfl, by (repeat (first | with_reducible exact Mod.refl _ _ | with_reducible refine Mod.drewN ?_ _ | with_reducible refine Mod.drew ?_ | with_reducible refine Mod.alloc ?_ _ | ((with_reducible refine Mod.setNew ?_ ?_ _ _ _); (rotate_left; omega)) | with_reducible refine Mod.setAt ?_ _ _ _ ))⟩

theorem eqSpace_any (x y : Space) (w : World) : Calls Tryz.prog 124 #[.agg #[.int .i64 x.mode, .int .i64 x.n], .agg #[.int .i64 y.mode, .int .i64 y.n]] w fun e w' => e = .returned (.bool (decide (x = y))) ∧ Mod (fun _ => False) w w' := by
  obtain ⟨x0, x1⟩ := x
  obtain ⟨y0, y1⟩ := y
  go_enter Tryz.func124, Tryz.ntmps124
  go_wp2
  all_goals
    go_ret
    refine ⟨ret_bool ?_, by (repeat (first | with_reducible exact Mod.refl _ _ | with_reducible refine Mod.drewN ?_ _ | with_reducible refine Mod.drew ?_ | with_reducible refine Mod.alloc ?_ _ | ((with_reducible refine Mod.setNew ?_ ?_ _ _ _); (rotate_left; omega)) | with_reducible refine Mod.setAt ?_ _ _ _ ))⟩
    simp_all

end Go.Proofs.YtpkpkojmaebflaaGreatDoor
namespace Go.Proofs.YtpkpkojmaebflaaGreatDoor
open Go.RowKit

/-- What holds after a struct with one new slice of frames was made. -/
def NewFrames (l : List Frame) (v : Nat → Value) (w : World) (en : Ending) (w' : World) : Prop :=
  ∃ g, en = .returned (v g) ∧ w.heap.size ≤ g ∧ w'.heap[g]? = some (.cells (l.map Frame.cells).flatten.toArray 91 (0, 0)) ∧ Mod (fun _ => False) w w'

set_option maxHeartbeats 1000000 in
theorem toBox_any (x : Memo) (a : Option Addr) (c : Nat) (R : Nat → Prop) (w : World) (hl : x.frames.length ≤ 1048576) (h : SliceAt (Flat Frame.cells) 5 R w a x.frames) :
    Calls Tryz.prog 110 #[.agg #[.int .i64 x.bw, .int .i64 x.bh, .int .i64 x.bb, .slice a x.frames.length c]] w (NewFrames x.frames (fun g => .agg #[.int .i64 x.bw, .int .i64 x.bh, .int .i64 x.bb, .slice (some ⟨g, 0, none⟩) x.frames.length x.frames.length]) w) := by
  have H := hid h
  clear h
  go_enter Tryz.func110, Tryz.ntmps110
  go_wp2_with fail
  refine (toFrameS_any x.frames _ _ R _ hl ?_).mono ?_
  · refine H.out.flatKeep ?_
    (repeat (first | with_reducible exact Mod.refl _ _ | with_reducible refine Mod.drewN ?_ _ | with_reducible refine Mod.drew ?_ | with_reducible refine Mod.alloc ?_ _ | ((with_reducible refine Mod.setNew ?_ ?_ _ _ _); (rotate_left; omega)) | with_reducible refine Mod.setAt ?_ _ _ _ ))
  rintro e w1 ⟨g, rfl, hg, hb, hm1⟩
  obtain ⟨hq1, hz1⟩ := mcell hm1
  have hs1 := hm1.size
  repeat (rw [World.size_alloc] at hs1)
  have hr1_0 : w.heap.size < w1.heap.size := by omega
  have hr1_1 : w.heap.size + 1 < w1.heap.size := by omega
  have hr1_2 : w.heap.size + 1 + 1 < w1.heap.size := by omega
  simp only [World.size_alloc, World.size_setCell] at hg
  have hne : g ≠ w.heap.size + 1 + 1 := by omega
  have hne' : g ≠ w.heap.size + 1 := by omega
  have Hb := hid hb
  clear hb
  go_wp2
  refine bodyPost_ret (v := .agg #[.int .i64 x.bw, .int .i64 x.bh, .int .i64 x.bb, .slice (some ⟨g, 0, none⟩) x.frames.length x.frames.length]) ?_ rfl ⟨g, rfl, by omega, ?_, ?_⟩
  · simp [results, Tryz.results110, go_sem, *]
  · simp only [blk_far hne, blk_far hne']
    exact Hb.out
  · (repeat (first | with_reducible exact Mod.refl _ _ | with_reducible refine Mod.drewN ?_ _ | with_reducible refine Mod.drew ?_ | with_reducible refine Mod.alloc ?_ _ | ((with_reducible refine Mod.setNew ?_ ?_ _ _ _); (rotate_left; omega)) | with_reducible refine Mod.setAt ?_ _ _ _ | with_reducible exact hm1 | with_reducible refine Mod.thenNone ?_ hm1 ))

set_option maxRecDepth 100000 in
set_option maxHeartbeats 2000000 in
theorem toMemo_any (x : Memo) (a : Option Addr) (c : Nat) (R : Nat → Prop) (w : World) (hl : x.frames.length ≤ 1048576) (h : SliceAt (Flat Frame.cells) 5 R w a x.frames) :
    Calls Tryz.prog 78 #[.agg #[.int .i64 x.node, .int .i64 x.wide.mode, .int .i64 x.wide.n, .int .i64 x.high.mode, .int .i64 x.high.n, .bool x.rtl, .int .i64 x.bw, .int .i64 x.bh, .int .i64 x.bb, .slice a x.frames.length c]] w (NewFrames x.frames (fun g => .agg #[.int .i64 x.node, .int .i64 x.wide.mode, .int .i64 x.wide.n, .int .i64 x.high.mode, .int .i64 x.high.n, .bool x.rtl, .int .i64 x.bw, .int .i64 x.bh, .int .i64 x.bb, .slice (some ⟨g, 0, none⟩) x.frames.length x.frames.length]) w) := by
  have H := hid h
  clear h
  go_enter Tryz.func78, Tryz.ntmps78
  go_wp2_with fail
  refine (toSpace_any x.wide _).mono ?_
  rintro e w1 ⟨rfl, hm1⟩
  obtain ⟨hq1, hz1⟩ := mcell hm1
  have hs1 := hm1.size
  repeat (rw [World.size_alloc] at hs1)
  have hr1_0 : w.heap.size < w1.heap.size := by omega
  have hr1_1 : w.heap.size + 1 < w1.heap.size := by omega
  have hr1_2 : w.heap.size + 1 + 1 < w1.heap.size := by omega
  have hM1 : Mod (fun _ => False) w w1 := by (repeat (first | with_reducible exact Mod.refl _ _ | with_reducible refine Mod.drewN ?_ _ | with_reducible refine Mod.drew ?_ | with_reducible refine Mod.alloc ?_ _ | ((with_reducible refine Mod.setNew ?_ ?_ _ _ _); (rotate_left; omega)) | with_reducible refine Mod.setAt ?_ _ _ _ | with_reducible exact hm1 | with_reducible refine Mod.thenNone ?_ hm1 ))
  go_wp2_with fail
  refine (toSpace_any x.high _).mono ?_
  rintro e w2 ⟨rfl, hm2⟩
  obtain ⟨hq2, hz2⟩ := mcell hm2
  have hs2 := hm2.size
  repeat (rw [World.size_setCell] at hs2)
  have hr2_0 : w.heap.size < w2.heap.size := by omega
  have hr2_1 : w.heap.size + 1 < w2.heap.size := by omega
  have hr2_2 : w.heap.size + 1 + 1 < w2.heap.size := by omega
  have hM2 : Mod (fun _ => False) w w2 := by (repeat (first | with_reducible exact Mod.refl _ _ | with_reducible refine Mod.drewN ?_ _ | with_reducible refine Mod.drew ?_ | with_reducible refine Mod.alloc ?_ _ | ((with_reducible refine Mod.setNew ?_ ?_ _ _ _); (rotate_left; omega)) | with_reducible refine Mod.setAt ?_ _ _ _ | with_reducible exact hm2 | with_reducible refine Mod.thenNone ?_ hm2 | with_reducible exact hM1 | with_reducible refine Mod.thenNone ?_ hM1 ))
  go_wp2_with fail
  refine (toBox_any x _ _ R _ hl ?_).mono ?_
  · refine H.out.flatKeep ?_
    (repeat (first | with_reducible exact Mod.refl _ _ | with_reducible refine Mod.drewN ?_ _ | with_reducible refine Mod.drew ?_ | with_reducible refine Mod.alloc ?_ _ | ((with_reducible refine Mod.setNew ?_ ?_ _ _ _); (rotate_left; omega)) | with_reducible refine Mod.setAt ?_ _ _ _ | with_reducible exact hM2 | with_reducible refine Mod.thenNone ?_ hM2 ))
  rintro e w3 ⟨g, rfl, hg, hb, hm3⟩
  obtain ⟨hq3, hz3⟩ := mcell hm3
  have hs3 := hm3.size
  repeat (rw [World.size_setCell] at hs3)
  have hr3_0 : w.heap.size < w3.heap.size := by omega
  have hr3_1 : w.heap.size + 1 < w3.heap.size := by omega
  have hr3_2 : w.heap.size + 1 + 1 < w3.heap.size := by omega
  simp only [World.size_alloc, World.size_setCell] at hg
  have hne : g ≠ w.heap.size + 1 + 1 := by omega
  have hne' : g ≠ w.heap.size + 1 := by omega
  have Hb := hid hb
  have hM3 : Mod (fun _ => False) w w3 := by (repeat (first | with_reducible exact Mod.refl _ _ | with_reducible refine Mod.drewN ?_ _ | with_reducible refine Mod.drew ?_ | with_reducible refine Mod.alloc ?_ _ | ((with_reducible refine Mod.setNew ?_ ?_ _ _ _); (rotate_left; omega)) | with_reducible refine Mod.setAt ?_ _ _ _ | with_reducible exact hm3 | with_reducible refine Mod.thenNone ?_ hm3 | with_reducible exact hM2 | with_reducible refine Mod.thenNone ?_ hM2 ))
  clear hb hm1 hm2 hm3 hM1 hM2
  go_wp2
  refine bodyPost_ret (v := .agg #[.int .i64 x.node, .int .i64 x.wide.mode, .int .i64 x.wide.n, .int .i64 x.high.mode, .int .i64 x.high.n, .bool x.rtl, .int .i64 x.bw, .int .i64 x.bh, .int .i64 x.bb, .slice (some ⟨g, 0, none⟩) x.frames.length x.frames.length]) ?_ rfl ⟨g, rfl, by omega, ?_, ?_⟩
  · simp [results, Tryz.results78, go_sem, *]
  · simp only [blk_far hne, blk_far hne']
    exact Hb.out
  · (repeat (first | with_reducible exact Mod.refl _ _ | with_reducible refine Mod.drewN ?_ _ | with_reducible refine Mod.drew ?_ | with_reducible refine Mod.alloc ?_ _ | ((with_reducible refine Mod.setNew ?_ ?_ _ _ _); (rotate_left; omega)) | with_reducible refine Mod.setAt ?_ _ _ _ | with_reducible exact hM3 | with_reducible refine Mod.thenNone ?_ hM3 ))

set_option maxHeartbeats 1000000 in
theorem eqBox_any (x : Memo) (a a' : Option Addr) (c c' : Nat) (R S : Nat → Prop) (w : World) (hl : x.frames.length ≤ 1048576) (h : SliceAt (Flat Frame.cells) 5 R w a x.frames) (h' : SliceAt (Flat Frame.cells) 5 S w a' x.frames) :
    Calls Tryz.prog 125 #[.agg #[.int .i64 x.bw, .int .i64 x.bh, .int .i64 x.bb, .slice a x.frames.length c], .agg #[.int .i64 x.bw, .int .i64 x.bh, .int .i64 x.bb, .slice a' x.frames.length c']] w fun e w' => e = .returned (.bool true) ∧ Mod (fun _ => False) w w' := by
  have H := hid h
  have H' := hid h'
  clear h h'
  go_enter Tryz.func125, Tryz.ntmps125
  go_wp2_with fail
  refine (eqFrameS_any x.frames x.frames _ _ _ _ _ _ _ (by omega) (by omega) (H.out.flatKeep (by (repeat (first | with_reducible exact Mod.refl _ _ | with_reducible refine Mod.drewN ?_ _ | with_reducible refine Mod.drew ?_ | with_reducible refine Mod.alloc ?_ _ | ((with_reducible refine Mod.setNew ?_ ?_ _ _ _); (rotate_left; omega)) | with_reducible refine Mod.setAt ?_ _ _ _ )))) (H'.out.flatKeep (by (repeat (first | with_reducible exact Mod.refl _ _ | with_reducible refine Mod.drewN ?_ _ | with_reducible refine Mod.drew ?_ | with_reducible refine Mod.alloc ?_ _ | ((with_reducible refine Mod.setNew ?_ ?_ _ _ _); (rotate_left; omega)) | with_reducible refine Mod.setAt ?_ _ _ _ ))))).mono ?_
  rintro e w1 ⟨rfl, hm1⟩
  rw [decide_eq_true rfl]
  go_wp2
  go_ret
  exact ⟨rfl, by (repeat (first | with_reducible exact Mod.refl _ _ | with_reducible refine Mod.drewN ?_ _ | with_reducible refine Mod.drew ?_ | with_reducible refine Mod.alloc ?_ _ | ((with_reducible refine Mod.setNew ?_ ?_ _ _ _); (rotate_left; omega)) | with_reducible refine Mod.setAt ?_ _ _ _ | with_reducible exact hm1 | with_reducible refine Mod.thenNone ?_ hm1 ))⟩

set_option maxHeartbeats 1000000 in
theorem eqMemo_any (x : Memo) (a a' : Option Addr) (c c' : Nat) (R S : Nat → Prop) (w : World) (hl : x.frames.length ≤ 1048576) (h : SliceAt (Flat Frame.cells) 5 R w a x.frames) (h' : SliceAt (Flat Frame.cells) 5 S w a' x.frames) :
    Calls Tryz.prog 95 #[.agg #[.int .i64 x.node, .int .i64 x.wide.mode, .int .i64 x.wide.n, .int .i64 x.high.mode, .int .i64 x.high.n, .bool x.rtl, .int .i64 x.bw, .int .i64 x.bh, .int .i64 x.bb, .slice a x.frames.length c], .agg #[.int .i64 x.node, .int .i64 x.wide.mode, .int .i64 x.wide.n, .int .i64 x.high.mode, .int .i64 x.high.n, .bool x.rtl, .int .i64 x.bw, .int .i64 x.bh, .int .i64 x.bb, .slice a' x.frames.length c']] w fun e w' => e = .returned (.bool true) ∧ Mod (fun _ => False) w w' := by
  have H := hid h
  have H' := hid h'
  clear h h'
  go_enter Tryz.func95, Tryz.ntmps95
  go_wp2_with fail
  refine (eqSpace_any x.wide x.wide _).mono ?_
  rintro e w1 ⟨rfl, hm1⟩
  rw [decide_eq_true rfl]
  obtain ⟨hq1, hz1⟩ := mcell hm1
  have hs1 := hm1.size
  repeat (rw [World.size_alloc] at hs1)
  have hr1_0 : w.heap.size < w1.heap.size := by omega
  have hr1_1 : w.heap.size + 1 < w1.heap.size := by omega
  have hM1 : Mod (fun _ => False) w w1 := by (repeat (first | with_reducible exact Mod.refl _ _ | with_reducible refine Mod.drewN ?_ _ | with_reducible refine Mod.drew ?_ | with_reducible refine Mod.alloc ?_ _ | ((with_reducible refine Mod.setNew ?_ ?_ _ _ _); (rotate_left; omega)) | with_reducible refine Mod.setAt ?_ _ _ _ | with_reducible exact hm1 | with_reducible refine Mod.thenNone ?_ hm1 ))
  go_wp2_with fail
  refine (eqSpace_any x.high x.high _).mono ?_
  rintro e w2 ⟨rfl, hm2⟩
  rw [decide_eq_true rfl]
  obtain ⟨hq2, hz2⟩ := mcell hm2
  have hs2 := hm2.size
  repeat (unfold World.drewN at hs2)
  have hr2_0 : w.heap.size < w2.heap.size := by omega
  have hr2_1 : w.heap.size + 1 < w2.heap.size := by omega
  have hM2 : Mod (fun _ => False) w w2 := by (repeat (first | with_reducible exact Mod.refl _ _ | with_reducible refine Mod.drewN ?_ _ | with_reducible refine Mod.drew ?_ | with_reducible refine Mod.alloc ?_ _ | ((with_reducible refine Mod.setNew ?_ ?_ _ _ _); (rotate_left; omega)) | with_reducible refine Mod.setAt ?_ _ _ _ | with_reducible exact hm2 | with_reducible refine Mod.thenNone ?_ hm2 | with_reducible exact hM1 | with_reducible refine Mod.thenNone ?_ hM1 ))
  go_wp2_with fail
  refine (eqBox_any x _ _ _ _ R S _ hl (H.out.flatKeep hM2) (H'.out.flatKeep hM2)).mono ?_
  rintro e w3 ⟨rfl, hm3⟩
  go_wp2
  go_ret
  exact ⟨rfl, by (repeat (first | with_reducible exact Mod.refl _ _ | with_reducible refine Mod.drewN ?_ _ | with_reducible refine Mod.drew ?_ | with_reducible refine Mod.alloc ?_ _ | ((with_reducible refine Mod.setNew ?_ ?_ _ _ _); (rotate_left; omega)) | with_reducible refine Mod.setAt ?_ _ _ _ | with_reducible exact hm3 | with_reducible refine Mod.thenNone ?_ hm3 | with_reducible exact hM2 | with_reducible refine Mod.thenNone ?_ hM2 ))⟩

theorem szBox_any (x0 x1 x2 : Int) (n c : Nat) (a : Option Addr) (left : Int) (h0 : 0 ≤ left) (h1 : left ≤ 1048576) (hn : n ≤ 9223372036854775807) (w : World) : Calls Tryz.prog 101 #[.agg #[.int .i64 x0, .int .i64 x1, .int .i64 x2, .slice a n c], .int .i64 left] w fun e w' => e = .returned (.int .i64 (if left < n then -1 else left - n)) ∧ Mod (fun _ => False) w w' := by
  by_cases h : left < n
  · rw [if_pos h]
    go_enter Tryz.func101, Tryz.ntmps101
    go_wp2_with fail
    refine (szFrameS_any _ _ _ _ h0 h1 hn _).mono ?_
    rintro e w' ⟨rfl, rfl⟩
    rw [if_pos h]
    go_wp2
    go_ret
    exact ⟨rfl, by (repeat (first | with_reducible exact Mod.refl _ _ | with_reducible refine Mod.drewN ?_ _ | with_reducible refine Mod.drew ?_ | with_reducible refine Mod.alloc ?_ _ | ((with_reducible refine Mod.setNew ?_ ?_ _ _ _); (rotate_left; omega)) | with_reducible refine Mod.setAt ?_ _ _ _ ))⟩
  · rw [if_neg h]
    have h2 : 0 ≤ left - n := by omega
    go_enter Tryz.func101, Tryz.ntmps101
    go_wp2_with fail
    refine (szFrameS_any _ _ _ _ h0 h1 hn _).mono ?_
    rintro e w' ⟨rfl, rfl⟩
    rw [if_neg (by omega)]
    go_wp2
    go_ret
    exact ⟨rfl, by (repeat (first | with_reducible exact Mod.refl _ _ | with_reducible refine Mod.drewN ?_ _ | with_reducible refine Mod.drew ?_ | with_reducible refine Mod.alloc ?_ _ | ((with_reducible refine Mod.setNew ?_ ?_ _ _ _); (rotate_left; omega)) | with_reducible refine Mod.setAt ?_ _ _ _ ))⟩
theorem szMemo_any (x : Memo) (n c : Nat) (a : Option Addr) (left : Int) (h0 : 0 ≤ left) (h1 : left ≤ 1048576) (hn : n ≤ 9223372036854775807) (w : World) : Calls Tryz.prog 70 #[.agg #[.int .i64 x.node, .int .i64 x.wide.mode, .int .i64 x.wide.n, .int .i64 x.high.mode, .int .i64 x.high.n, .bool x.rtl, .int .i64 x.bw, .int .i64 x.bh, .int .i64 x.bb, .slice a n c], .int .i64 left] w fun e w' => e = .returned (.int .i64 (if left < n then -1 else left - n)) ∧ Mod (fun _ => False) w w' := by
  by_cases h : left < n
  · rw [if_pos h]
    go_enter Tryz.func70, Tryz.ntmps70
    go_wp2_with fail
    refine (szBox_any _ _ _ _ _ _ _ h0 h1 hn _).mono ?_
    rintro e w1 ⟨rfl, hm1⟩
    rw [if_pos h]
    go_wp2
    go_ret
    exact ⟨rfl, by (repeat (first | with_reducible exact Mod.refl _ _ | with_reducible refine Mod.drewN ?_ _ | with_reducible refine Mod.drew ?_ | with_reducible refine Mod.alloc ?_ _ | ((with_reducible refine Mod.setNew ?_ ?_ _ _ _); (rotate_left; omega)) | with_reducible refine Mod.setAt ?_ _ _ _ | with_reducible exact hm1 | with_reducible refine Mod.thenNone ?_ hm1 ))⟩
  · rw [if_neg h]
    have h2 : 0 ≤ left - n := by omega
    go_enter Tryz.func70, Tryz.ntmps70
    go_wp2_with fail
    refine (szBox_any _ _ _ _ _ _ _ h0 h1 hn _).mono ?_
    rintro e w1 ⟨rfl, hm1⟩
    rw [if_neg (by omega)]
    go_wp2
    go_ret
    exact ⟨rfl, by (repeat (first | with_reducible exact Mod.refl _ _ | with_reducible refine Mod.drewN ?_ _ | with_reducible refine Mod.drew ?_ | with_reducible refine Mod.alloc ?_ _ | ((with_reducible refine Mod.setNew ?_ ?_ _ _ _); (rotate_left; omega)) | with_reducible refine Mod.setAt ?_ _ _ _ | with_reducible exact hm1 | with_reducible refine Mod.thenNone ?_ hm1 ))⟩

/-- A memo of machine numbers. -/
def Memo.ok (x : Memo) : Prop := I64 x.node ∧ I64 x.bw ∧ I64 x.bh ∧ ∀ f ∈ x.frames, f.ok
set_option maxRecDepth 100000 in
theorem rd_Space {w : World} {cs : List Value} (h : Rd Tryz.prog w 131 cs) : ∃ x : Space, cs = x.cells := by
  obtain ⟨hl, hf⟩ := h.struct Tryz.underlying131
  have hl2 : cs.length = 2 := hl.trans (by kernel_rfl)
  have c1 : Tryz.prog.cellsOf 3 = 1 := by kernel_rfl
  match cs, hl2 with
  | [c0, c1'], _ =>
    obtain ⟨n0, e0, _⟩ := (hf 0 _ rfl).int Tryz.underlying3
    obtain ⟨n1, e1, _⟩ := (hf 1 _ rfl).int Tryz.underlying3
    simp [c1] at e0 e1
    exact ⟨⟨n0, n1⟩, by simp [Space.cells, e0, e1]⟩
set_option maxRecDepth 100000 in
theorem rd_Box {w : World} {cs : List Value} (h : Rd Tryz.prog w 133 cs) : ∃ (x0 x1 x2 : Int) (a : Option Addr) (l : List Frame) (c : Nat), cs = [.int .i64 x0, .int .i64 x1, .int .i64 x2, .slice a l.length c] ∧ I64 x0 ∧ I64 x1 ∧ l.length ≤ 9223372036854775807 ∧ SliceAt (Flat Frame.cells) 5 (fun k => k < w.heap.size) w a l ∧ ∀ f ∈ l, f.ok := by
  obtain ⟨hl, hf⟩ := h.struct Tryz.underlying133
  have hl2 : cs.length = 4 := hl.trans (by kernel_rfl)
  have c1 : Tryz.prog.cellsOf 3 = 1 := by kernel_rfl
  have c2 : Tryz.prog.cellsOf 29 = 1 := by kernel_rfl
  match cs, hl2 with
  | [q0, q1, q2, q3], _ =>
    obtain ⟨n0, e0, w0⟩ := (hf 0 _ rfl).int Tryz.underlying3
    obtain ⟨n1, e1, w1⟩ := (hf 1 _ rfl).int Tryz.underlying3
    obtain ⟨n2, e2, w2⟩ := (hf 2 _ rfl).int Tryz.underlying3
    obtain ⟨a, l, c, e, h1, h2, h3⟩ := (hf 3 _ rfl).list (rep := fun _ r x => r = Frame.cells x ∧ x.ok) (sz := 5) Tryz.underlying29 (by kernel_rfl) (by decide) (fun cs h => rd_Frame h)
    simp [c1, c2] at e0 e1 e2 e
    unfold maxLen at h2
    obtain ⟨h4, h5⟩ := h3.split
    exact ⟨n0, n1, n2, a, l, c, by simp [e0, e1, e2, e], wf_i64 w0, wf_i64 w1, by omega, h4, h5⟩
set_option maxRecDepth 100000 in
theorem rd_Memo {w : World} {cs : List Value} (h : Rd Tryz.prog w 135 cs) : ∃ (x : Memo) (a : Option Addr) (c : Nat), cs = [.int .i64 x.node, .int .i64 x.wide.mode, .int .i64 x.wide.n, .int .i64 x.high.mode, .int .i64 x.high.n, .bool x.rtl, .int .i64 x.bw, .int .i64 x.bh, .int .i64 x.bb, .slice a x.frames.length c] ∧ x.ok ∧ x.frames.length ≤ 9223372036854775807 ∧ SliceAt (Flat Frame.cells) 5 (fun k => k < w.heap.size) w a x.frames := by
  obtain ⟨hl, hf⟩ := h.struct Tryz.underlying135
  have hl2 : cs.length = 10 := hl.trans (by kernel_rfl)
  have c1 : Tryz.prog.cellsOf 3 = 1 := by kernel_rfl
  have c2 : Tryz.prog.cellsOf 4 = 1 := by kernel_rfl
  have c3 : Tryz.prog.cellsOf 131 = 2 := by kernel_rfl
  have c4 : Tryz.prog.cellsOf 133 = 4 := by kernel_rfl
  match cs, hl2 with
  | [q0, q1, q2, q3, q4, q5, q6, q7, q8, q9], _ =>
    obtain ⟨n0, e0, w0⟩ := (hf 0 _ rfl).int Tryz.underlying3
    obtain ⟨x1, e1⟩ := rd_Space (hf 1 _ rfl)
    obtain ⟨x2, e2⟩ := rd_Space (hf 2 _ rfl)
    obtain ⟨b3, e3⟩ := (hf 3 _ rfl).bool Tryz.underlying4
    obtain ⟨y0, y1, y2, a, l, c, e4, i0, i1, hn, hs, hk⟩ := rd_Box (hf 4 _ rfl)
    simp [c1, c2, c3, c4, Space.cells] at e0 e1 e2 e3 e4
    exact ⟨⟨n0, x1, x2, b3, y0, y1, y2, l⟩, a, c, by simp [e0, e1, e2, e3, e4], ⟨wf_i64 w0, i0, i1, hk⟩, hn, hs⟩

/-- A memo's value reads as the memo. -/
def MemoAt (x : Memo) (w : World) (v : Value) : Prop := ∃ a c, v = .agg #[.int .i64 x.node, .int .i64 x.wide.mode, .int .i64 x.wide.n, .int .i64 x.high.mode, .int .i64 x.high.n, .bool x.rtl, .int .i64 x.bw, .int .i64 x.bh, .int .i64 x.bb, .slice a x.frames.length c] ∧ ∃ R, SliceAt (Flat Frame.cells) 5 R w a x.frames
theorem MemoAt.keep {x : Memo} {w w' : World} {v : Value} (h : MemoAt x w v) (hm : Mod (fun _ => False) w w') : MemoAt x w' v := by
  obtain ⟨a, c, h1, R, h2⟩ := h
  exact ⟨a, c, h1, R, h2.flatKeep hm⟩
theorem NewFrames.at {w w' : World} {x : Memo} {en : Ending} (h : NewFrames x.frames (fun g => .agg #[.int .i64 x.node, .int .i64 x.wide.mode, .int .i64 x.wide.n, .int .i64 x.high.mode, .int .i64 x.high.n, .bool x.rtl, .int .i64 x.bw, .int .i64 x.bh, .int .i64 x.bb, .slice (some ⟨g, 0, none⟩) x.frames.length x.frames.length]) w en w') :
    ∃ v, en = .returned v ∧ MemoAt x w' v ∧ Mod (fun _ => False) w w' := by
  obtain ⟨g, he, hg, hb, hm⟩ := h
  exact ⟨_, he, ⟨_, _, rfl, _, flat_of_blk hb (fun _ => rfl)⟩, hm⟩

end Go.Proofs.YtpkpkojmaebflaaGreatDoor
namespace Go.Proofs.YtpkpkojmaebflaaGreatDoor
open Go.RowKit

def spaceOk (s : Space) : Bool := (s.mode == 1 && s.n == 0) || ((s.mode == 2 || s.mode == 3) && inB s.n 0 1048576)
/-- The text of a space. -/
def spaceW (s : Space) : List UInt8 := if spaceOk s then (if s.mode = 2 then [109, 111, 115, 116, 32] ++ Lib.itoa s.n else if s.mode = 3 then [101, 120, 97, 99, 116, 32] ++ Lib.itoa s.n else [102, 114, 101, 101]) else [63]
theorem spaceOk_1 {m n : Int} (h : m = 1) : spaceOk ⟨m, n⟩ = (n == 0) := by subst h; simp [spaceOk]
theorem spaceOk_23 {m n : Int} (h : m = 2 ∨ m = 3) : spaceOk ⟨m, n⟩ = inB n 0 1048576 := by rcases h with rfl | rfl <;> simp [spaceOk]
theorem spaceOk_no {m n : Int} (h1 : m ≠ 1) (h2 : m ≠ 2) (h3 : m ≠ 3) : spaceOk ⟨m, n⟩ = false := by simp [spaceOk, h1, h2, h3]
theorem spaceOk_bound {m n : Int} (h : spaceOk ⟨m, n⟩ = true) : 0 ≤ n ∧ n ≤ 1048576 := by
  simp [spaceOk, inB] at h
  omega

theorem spaceOk_any (m n : Int) (w : World) : Calls Tryz.prog 120 #[.agg #[.int .i64 m, .int .i64 n]] w fun e w' => e = .returned (.bool (spaceOk ⟨m, n⟩)) ∧ Mod (fun _ => False) w w' := by
  by_cases h1 : m = 1
  · rw [spaceOk_1 h1]
    subst h1
    go_enter Tryz.func120, Tryz.ntmps120
    go_wp2_with (go_at_call 81; refine (in_any _ _ _ _).mono ?_; rintro e w' ⟨rfl, rfl⟩)
    go_ret
    exact ⟨rfl, by (repeat (first | with_reducible exact Mod.refl _ _ | with_reducible refine Mod.drewN ?_ _ | with_reducible refine Mod.drew ?_ | with_reducible refine Mod.alloc ?_ _ | ((with_reducible refine Mod.setNew ?_ ?_ _ _ _); (rotate_left; omega)) | with_reducible refine Mod.setAt ?_ _ _ _ ))⟩
  · by_cases h23 : m = 2 ∨ m = 3
    · rw [spaceOk_23 h23]
      rcases h23 with rfl | rfl
      · go_enter Tryz.func120, Tryz.ntmps120
        go_wp2_with (go_at_call 81; refine (in_any _ _ _ _).mono ?_; rintro e w' ⟨rfl, rfl⟩)
        go_ret
        exact ⟨rfl, by (repeat (first | with_reducible exact Mod.refl _ _ | with_reducible refine Mod.drewN ?_ _ | with_reducible refine Mod.drew ?_ | with_reducible refine Mod.alloc ?_ _ | ((with_reducible refine Mod.setNew ?_ ?_ _ _ _); (rotate_left; omega)) | with_reducible refine Mod.setAt ?_ _ _ _ ))⟩
      · go_enter Tryz.func120, Tryz.ntmps120
        go_wp2_with (go_at_call 81; refine (in_any _ _ _ _).mono ?_; rintro e w' ⟨rfl, rfl⟩)
        go_ret
        exact ⟨rfl, by (repeat (first | with_reducible exact Mod.refl _ _ | with_reducible refine Mod.drewN ?_ _ | with_reducible refine Mod.drew ?_ | with_reducible refine Mod.alloc ?_ _ | ((with_reducible refine Mod.setNew ?_ ?_ _ _ _); (rotate_left; omega)) | with_reducible refine Mod.setAt ?_ _ _ _ ))⟩
    · rw [spaceOk_no h1 (by omega) (by omega)]
      have h2 : m ≠ 2 := by omega
      have h3 : m ≠ 3 := by omega
      clear h23
      go_enter Tryz.func120, Tryz.ntmps120
      go_wp2_with (go_at_call 81; refine (in_any _ _ _ _).mono ?_; rintro e w' ⟨rfl, rfl⟩)
      go_ret
      exact ⟨rfl, by (repeat (first | with_reducible exact Mod.refl _ _ | with_reducible refine Mod.drewN ?_ _ | with_reducible refine Mod.drew ?_ | with_reducible refine Mod.alloc ?_ _ | ((with_reducible refine Mod.setNew ?_ ?_ _ _ _); (rotate_left; omega)) | with_reducible refine Mod.setAt ?_ _ _ _ ))⟩

theorem sspaceOk_any (m n : Int) (w : World) : Calls Tryz.prog 105 #[.agg #[.int .i64 m, .int .i64 n]] w fun e w' => e = .returned (.bool (spaceOk ⟨m, n⟩)) ∧ Mod (fun _ => False) w w' := by
  by_cases h1 : m = 1
  · rw [spaceOk_1 h1]
    subst h1
    go_enter Tryz.func105, Tryz.ntmps105
    go_wp2_with (go_at_call 72; refine (l01In_any _ _ _ _).mono ?_; rintro e w' ⟨rfl, rfl⟩)
    go_ret
    exact ⟨rfl, by (repeat (first | with_reducible exact Mod.refl _ _ | with_reducible refine Mod.drewN ?_ _ | with_reducible refine Mod.drew ?_ | with_reducible refine Mod.alloc ?_ _ | ((with_reducible refine Mod.setNew ?_ ?_ _ _ _); (rotate_left; omega)) | with_reducible refine Mod.setAt ?_ _ _ _ ))⟩
  · have e : spaceOk ⟨m, n⟩ = (inB m 2 3 && inB n 0 1048576) := by
      by_cases h23 : m = 2 ∨ m = 3
      · rw [spaceOk_23 h23]; rcases h23 with rfl | rfl <;> simp [inB]
      · rw [spaceOk_no h1 (by omega) (by omega)]
        have : inB m 2 3 = false := by simp [inB]; omega
        rw [this, Bool.false_and]
    rw [e]
    clear e
    cases h : inB m 2 3
    · go_enter Tryz.func105, Tryz.ntmps105
      go_wp2_with (go_at_call 72; refine (l01In_any _ _ _ _).mono ?_; rintro e w' ⟨rfl, rfl⟩)
      go_ret
      exact ⟨rfl, by (repeat (first | with_reducible exact Mod.refl _ _ | with_reducible refine Mod.drewN ?_ _ | with_reducible refine Mod.drew ?_ | with_reducible refine Mod.alloc ?_ _ | ((with_reducible refine Mod.setNew ?_ ?_ _ _ _); (rotate_left; omega)) | with_reducible refine Mod.setAt ?_ _ _ _ ))⟩
    · go_enter Tryz.func105, Tryz.ntmps105
      go_wp2_with (go_at_call 72; refine (l01In_any _ _ _ _).mono ?_; rintro e w' ⟨rfl, rfl⟩)
      go_ret
      exact ⟨rfl, by (repeat (first | with_reducible exact Mod.refl _ _ | with_reducible refine Mod.drewN ?_ _ | with_reducible refine Mod.drew ?_ | with_reducible refine Mod.alloc ?_ _ | ((with_reducible refine Mod.setNew ?_ ?_ _ _ _); (rotate_left; omega)) | with_reducible refine Mod.setAt ?_ _ _ _ ))⟩

theorem spaceW_no {m n : Int} (h : spaceOk ⟨m, n⟩ = false) : spaceW ⟨m, n⟩ = [63] := by unfold spaceW; rw [h]; rfl
theorem spaceW_2 {m n : Int} (h : spaceOk ⟨m, n⟩ = true) (h2 : m = 2) : spaceW ⟨m, n⟩ = [109, 111, 115, 116, 32] ++ Lib.itoa n := by unfold spaceW; rw [h]; simp [h2]
theorem spaceW_3 {m n : Int} (h : spaceOk ⟨m, n⟩ = true) (h2 : m = 3) : spaceW ⟨m, n⟩ = [101, 120, 97, 99, 116, 32] ++ Lib.itoa n := by unfold spaceW; rw [h]; simp [h2]
theorem spaceW_1 {m n : Int} (h : spaceOk ⟨m, n⟩ = true) (h2 : m ≠ 2) (h3 : m ≠ 3) : spaceW ⟨m, n⟩ = [102, 114, 101, 101] := by unfold spaceW; rw [h]; simp [h2, h3]
theorem spaceW_short (s : Space) : (spaceW s).length ≤ 30 := by
  obtain ⟨m, n⟩ := s
  cases h : spaceOk ⟨m, n⟩
  · rw [spaceW_no h]; decide
  · have hb := spaceOk_bound h
    have hl := Lib.itoa_length_le n (by omega) (by omega)
    by_cases h2 : m = 2
    · rw [spaceW_2 h h2]; simp; omega
    · by_cases h3 : m = 3
      · rw [spaceW_3 h h3]; simp; omega
      · rw [spaceW_1 h h2 h3]; decide

set_option maxHeartbeats 1000000 in
theorem spaceText_any (m n : Int) (w : World) (ht : Tab w) : Calls Tryz.prog 92 #[.agg #[.int .i64 m, .int .i64 n]] w fun e w' => e = .returned (.string ⟨(spaceW ⟨m, n⟩).toArray⟩) ∧ Mod (fun _ => False) w w' := by
  have k := fun W => spaceOk_any m n W
  have Ht := hid ht
  clear ht
  have hx := heap_alloc_new w (.cells [.int .i64 m, .int .i64 n].toArray 97)
  cases h : spaceOk ⟨m, n⟩
  · rw [h] at k
    rw [spaceW_no h]
    clear h
    go_enter Tryz.func92, Tryz.ntmps92
    go_wp2_with fail
    refine (k _).mono ?_
    rintro e w1 ⟨rfl, hm1⟩
    go_wp2
    go_ret
    exact ⟨rfl, ((Mod.refl _ w).alloc _).thenNone hm1⟩
  · rw [h] at k
    have hb := spaceOk_bound h
    by_cases h2 : m = 2
    · rw [spaceW_2 h h2]
      subst h2
      clear h
      go_enter Tryz.func92, Tryz.ntmps92
      go_wp2_with fail
      refine (k _).mono ?_
      rintro e w1 ⟨rfl, hm1⟩
      have hM1 : Mod (fun _ => False) w w1 := ((Mod.refl _ w).alloc _).thenNone hm1
      have hB1 := hm1.blk hx (fun f => f)
      have sc0 := blk_cell hB1 (j := 0) rfl
      have sz0 := blk_free hB1 0
      have sc1 := blk_cell hB1 (j := 1) rfl
      have sz1 := blk_free hB1 1
      clear hx hm1
      go_wp2_with fail
      refine (decimal_any n (by omega) _ (Ht.out.keep hM1)).mono ?_
      rintro e w2 ⟨rfl, hm2⟩
      have hl := Lib.itoa_length_le n (by omega) (by omega)
      go_wp2
      go_ret
      exact ⟨rfl, hM1.thenNone hm2⟩
    · by_cases h3 : m = 3
      · rw [spaceW_3 h h3]
        subst h3
        clear h
        go_enter Tryz.func92, Tryz.ntmps92
        go_wp2_with fail
        refine (k _).mono ?_
        rintro e w1 ⟨rfl, hm1⟩
        have hM1 : Mod (fun _ => False) w w1 := ((Mod.refl _ w).alloc _).thenNone hm1
        have hB1 := hm1.blk hx (fun f => f)
        have sc0 := blk_cell hB1 (j := 0) rfl
        have sz0 := blk_free hB1 0
        have sc1 := blk_cell hB1 (j := 1) rfl
        have sz1 := blk_free hB1 1
        clear hx hm1
        go_wp2_with fail
        refine (decimal_any n (by omega) _ (Ht.out.keep hM1)).mono ?_
        rintro e w2 ⟨rfl, hm2⟩
        have hl := Lib.itoa_length_le n (by omega) (by omega)
        go_wp2
        go_ret
        exact ⟨rfl, hM1.thenNone hm2⟩
      · rw [spaceW_1 h h2 h3]
        clear h
        go_enter Tryz.func92, Tryz.ntmps92
        go_wp2_with fail
        refine (k _).mono ?_
        rintro e w1 ⟨rfl, hm1⟩
        have hM1 : Mod (fun _ => False) w w1 := ((Mod.refl _ w).alloc _).thenNone hm1
        have hB1 := hm1.blk hx (fun f => f)
        have sc0 := blk_cell hB1 (j := 0) rfl
        have sz0 := blk_free hB1 0
        have sc1 := blk_cell hB1 (j := 1) rfl
        have sz1 := blk_free hB1 1
        clear hx hm1
        go_wp2
        go_ret
        exact ⟨rfl, hM1⟩

set_option maxHeartbeats 1000000 in
theorem sspaceText_any (m n : Int) (w : World) : Calls Tryz.prog 76 #[.agg #[.int .i64 m, .int .i64 n]] w fun e w' => e = .returned (.string ⟨(spaceW ⟨m, n⟩).toArray⟩) ∧ Mod (fun _ => False) w w' := by
  have k := fun W => sspaceOk_any m n W
  have hx := heap_alloc_new w (.cells [.int .i64 m, .int .i64 n].toArray 97)
  cases h : spaceOk ⟨m, n⟩
  · rw [h] at k
    rw [spaceW_no h]
    clear h
    go_enter Tryz.func76, Tryz.ntmps76
    go_wp2_with fail
    refine (k _).mono ?_
    rintro e w1 ⟨rfl, hm1⟩
    go_wp2
    go_ret
    exact ⟨rfl, ((Mod.refl _ w).alloc _).thenNone hm1⟩
  · rw [h] at k
    have hb := spaceOk_bound h
    by_cases h2 : m = 2
    · rw [spaceW_2 h h2]
      subst h2
      clear h
      go_enter Tryz.func76, Tryz.ntmps76
      go_wp2_with fail
      refine (k _).mono ?_
      rintro e w1 ⟨rfl, hm1⟩
      have hM1 : Mod (fun _ => False) w w1 := ((Mod.refl _ w).alloc _).thenNone hm1
      have hB1 := hm1.blk hx (fun f => f)
      have sc0 := blk_cell hB1 (j := 0) rfl
      have sz0 := blk_free hB1 0
      have sc1 := blk_cell hB1 (j := 1) rfl
      have sz1 := blk_free hB1 1
      clear hx hm1
      go_wp2_with fail
      refine (sdecimal_any n (by omega) (by omega) _).mono ?_
      rintro e w2 ⟨rfl, hm2⟩
      have hl := Lib.itoa_length_le n (by omega) (by omega)
      go_wp2
      go_ret
      exact ⟨rfl, hM1.thenNone hm2⟩
    · by_cases h3 : m = 3
      · rw [spaceW_3 h h3]
        subst h3
        clear h
        go_enter Tryz.func76, Tryz.ntmps76
        go_wp2_with fail
        refine (k _).mono ?_
        rintro e w1 ⟨rfl, hm1⟩
        have hM1 : Mod (fun _ => False) w w1 := ((Mod.refl _ w).alloc _).thenNone hm1
        have hB1 := hm1.blk hx (fun f => f)
        have sc0 := blk_cell hB1 (j := 0) rfl
        have sz0 := blk_free hB1 0
        have sc1 := blk_cell hB1 (j := 1) rfl
        have sz1 := blk_free hB1 1
        clear hx hm1
        go_wp2_with fail
        refine (sdecimal_any n (by omega) (by omega) _).mono ?_
        rintro e w2 ⟨rfl, hm2⟩
        have hl := Lib.itoa_length_le n (by omega) (by omega)
        go_wp2
        go_ret
        exact ⟨rfl, hM1.thenNone hm2⟩
      · rw [spaceW_1 h h2 h3]
        clear h
        go_enter Tryz.func76, Tryz.ntmps76
        go_wp2_with fail
        refine (k _).mono ?_
        rintro e w1 ⟨rfl, hm1⟩
        have hM1 : Mod (fun _ => False) w w1 := ((Mod.refl _ w).alloc _).thenNone hm1
        have hB1 := hm1.blk hx (fun f => f)
        have sc0 := blk_cell hB1 (j := 0) rfl
        have sz0 := blk_free hB1 0
        have sc1 := blk_cell hB1 (j := 1) rfl
        have sz1 := blk_free hB1 1
        clear hx hm1
        go_wp2
        go_ret
        exact ⟨rfl, hM1⟩

end Go.Proofs.YtpkpkojmaebflaaGreatDoor
namespace Go.Proofs.YtpkpkojmaebflaaGreatDoor
open Go.RowKit

def wayW (b : Bool) : List UInt8 := if b then [114, 116, 108] else [108, 116, 114]
/-- The text of a memo. -/
def memoW (x : Memo) : List UInt8 := Lib.join [Lib.itoa x.node, spaceW x.wide, spaceW x.high, wayW x.rtl, spacedOf [x.bw, x.bh]] [32]
theorem memoW_eq (x : Memo) : memoW x = Lib.itoa x.node ++ [32] ++ spaceW x.wide ++ [32] ++ spaceW x.high ++ ([32] ++ wayW x.rtl ++ [32]) ++ Lib.itoa x.bw ++ [32] ++ Lib.itoa x.bh := by
  simp [memoW, spacedOf, Lib.join_cons, Lib.joinTail]
theorem memoW_short (x : Memo) (h : x.ok) : (memoW x).length ≤ 1000 := by
  obtain ⟨h0, h1, h2, _⟩ := h
  have l0 := Lib.itoa_length_le _ h0.1 h0.2
  have l1 := Lib.itoa_length_le _ h1.1 h1.2
  have l2 := Lib.itoa_length_le _ h2.1 h2.2
  have l3 := spaceW_short x.wide
  have l4 := spaceW_short x.high
  have l5 : (wayW x.rtl).length = 3 := by cases x.rtl <;> rfl
  rw [memoW_eq]
  simp only [List.length_append, List.length_cons, List.length_nil]
  omega
theorem dirWord_any (b : Bool) (w : World) : Calls Tryz.prog 93 #[.bool b] w fun e w' => e = .returned (.string ⟨(wayW b).toArray⟩) ∧ Mod (fun _ => False) w w' := by
  cases b
  all_goals
    go_enter Tryz.func93, Tryz.ntmps93
    go_wp2
    go_ret
    exact ⟨rfl, Mod.refl _ _⟩

/-- What the program's Join gives of a literal of texts. -/
theorem join_lit {w : World} {g n : Nat} {l : List (List UInt8)} (sep : List UInt8) (hb : w.heap[g]? = some (.cells (l.map tcell).flatten.toArray 9 (0, 0))) (hn : n = l.length) (hl : l.length ≤ 1048576) (hj : (Lib.join l sep).length ≤ 140737488355328) :
    Calls Tryz.prog 91 #[.slice (some ⟨g, 0, none⟩) n n, .string ⟨sep.toArray⟩] w fun e w' => e = .returned (.string ⟨(Lib.join l sep).toArray⟩) ∧ Mod (fun _ => False) w w' := by
  have hfl := flat_length (cells := tcell) (sz := 1) (fun _ => rfl) l
  refine join_own (base := g) sep ⟨by rw [hfl, hn], .inr ⟨g, n, _, rfl, Nat.le_refl _, hb, Nat.le_refl _, by unfold maxLen; omega, by rw [List.size_toArray, hfl, hn], ?_⟩⟩ hn hl hj
  exact List.take_of_length_le (by show (l.map tcell).flatten.length ≤ n * 1; omega)
theorem lit_two {w : World} {g : Nat} {x y : Int} (hb : w.heap[g]? = some (.cells #[.int .i64 x, .int .i64 y] 3 (0, 0))) : IntSlice (fun k => k = g) w (some ⟨g, 0, none⟩) [x, y] :=
  flat_of_blk (e := 3) hb (fun _ => rfl)

set_option maxRecDepth 100000 in
set_option maxHeartbeats 4000000 in
theorem smemoLine_any (x : Memo) (hx : x.ok) (v : Value) (w : World) :
    Calls Tryz.prog 46 #[.agg #[.int .i64 x.node, .int .i64 x.wide.mode, .int .i64 x.wide.n, .int .i64 x.high.mode, .int .i64 x.high.n, .bool x.rtl, .int .i64 x.bw, .int .i64 x.bh, .int .i64 x.bb, v]] w fun e w' => e = .returned (.string ⟨(memoW x).toArray⟩) ∧ Mod (fun _ => False) w w' := by
  have hsh := memoW_short x hx
  obtain ⟨b0, b1, b2, _⟩ := hx
  have hE := memoW_eq x
  obtain ⟨x0, ⟨x1, x2⟩, ⟨x3, x4⟩, x5, x6, x7, x8, xl⟩ := x
  simp only at b0 b1 b2 hE ⊢
  have HE := hid hE
  clear hE
  have k0 := fun W => sdecimal_any x0 b0.1 b0.2 W
  have k1 := fun W => sdecimal_any x6 b1.1 b1.2 W
  have k2 := fun W => sdecimal_any x7 b2.1 b2.2 W
  have k3 := fun W => sspaceText_any x1 x2 W
  have k4 := fun W => sspaceText_any x3 x4 W
  have l0 := Lib.itoa_length_le x0 b0.1 b0.2
  have l1 := Lib.itoa_length_le x6 b1.1 b1.2
  have l2 := Lib.itoa_length_le x7 b2.1 b2.2
  have l3 := spaceW_short ⟨x1, x2⟩
  have l4 := spaceW_short ⟨x3, x4⟩
  clear b0 b1 b2
  have hB := heap_alloc_new w (.cells [.int .i64 x0, .int .i64 x1, .int .i64 x2, .int .i64 x3, .int .i64 x4, .bool x5, .int .i64 x6, .int .i64 x7, .int .i64 x8, v].toArray 101)
  have q0 := hold (blk_cell hB (j := 0) rfl)
  have q1 := hold (blk_cell hB (j := 1) rfl)
  have q2 := hold (blk_cell hB (j := 2) rfl)
  have q3 := hold (blk_cell hB (j := 3) rfl)
  have q4 := hold (blk_cell hB (j := 4) rfl)
  have q6 := hold (blk_cell hB (j := 6) rfl)
  have q7 := hold (blk_cell hB (j := 7) rfl)
  clear hB
  cases x5
  all_goals
    go_enter Tryz.func46, Tryz.ntmps46
    go_wp2
    refine wp_region_mod (by kernel_rfl) (by kernel_rfl) ?_
    refine RM.const (v := ?_) (fun _ => rfl) (fun xq wq hSq => ?_) ?_; rotate_left; (focus (go_simp; (first | done | with_reducible rfl | ((split; (exfalso; omega)); with_reducible rfl)))); (try simp only [Act.put, List.setIfInBounds_toArray, List.set_cons_zero, List.set_cons_succ])
    refine RM.const (v := ?_) (fun _ => rfl) (fun xq wq hSq => ?_) ?_; rotate_left; (focus (go_simp; (first | done | with_reducible rfl | ((split; (exfalso; omega)); with_reducible rfl)))); (try simp only [Act.put, List.setIfInBounds_toArray, List.set_cons_zero, List.set_cons_succ])
    refine RM.callc (v := ?_) (f := ?_) (args := ?_) (fun _ => rfl) (fun xq wq hSq => ?_) (fun wq hSq => ?_) ?_; rotate_left 3; (focus (go_simp; (refine ⟨?_, ?_⟩ <;> with_reducible rfl))); (focus (exact k0 _)); (try simp only [Act.put, List.setIfInBounds_toArray, List.set_cons_zero, List.set_cons_succ])
    refine RM.const (v := ?_) (fun _ => rfl) (fun xq wq hSq => ?_) ?_; rotate_left; (focus (go_simp; (first | done | with_reducible rfl | ((split; (exfalso; omega)); with_reducible rfl)))); (try simp only [Act.put, List.setIfInBounds_toArray, List.set_cons_zero, List.set_cons_succ])
    refine RM.const (v := ?_) (fun _ => rfl) (fun xq wq hSq => ?_) ?_; rotate_left; (focus (go_simp; (first | done | with_reducible rfl | ((split; (exfalso; omega)); with_reducible rfl)))); (try simp only [Act.put, List.setIfInBounds_toArray, List.set_cons_zero, List.set_cons_succ])
    refine RM.const (v := ?_) (fun _ => rfl) (fun xq wq hSq => ?_) ?_; rotate_left; (focus (go_simp; (first | done | with_reducible rfl | ((split; (exfalso; omega)); with_reducible rfl)))); (try simp only [Act.put, List.setIfInBounds_toArray, List.set_cons_zero, List.set_cons_succ])
    refine RM.callc (v := ?_) (f := ?_) (args := ?_) (fun _ => rfl) (fun xq wq hSq => ?_) (fun wq hSq => ?_) ?_; rotate_left 3; (focus (go_simp; (refine ⟨?_, ?_⟩ <;> with_reducible rfl))); (focus (exact k3 _)); (try simp only [Act.put, List.setIfInBounds_toArray, List.set_cons_zero, List.set_cons_succ])
    refine RM.const (v := ?_) (fun _ => rfl) (fun xq wq hSq => ?_) ?_; rotate_left; (focus (go_simp; (first | done | with_reducible rfl | ((split; (exfalso; omega)); with_reducible rfl)))); (try simp only [Act.put, List.setIfInBounds_toArray, List.set_cons_zero, List.set_cons_succ])
    refine RM.const (v := ?_) (fun _ => rfl) (fun xq wq hSq => ?_) ?_; rotate_left; (focus (go_simp; (first | done | with_reducible rfl | ((split; (exfalso; omega)); with_reducible rfl)))); (try simp only [Act.put, List.setIfInBounds_toArray, List.set_cons_zero, List.set_cons_succ])
    refine RM.const (v := ?_) (fun _ => rfl) (fun xq wq hSq => ?_) ?_; rotate_left; (focus (go_simp; (first | done | with_reducible rfl | ((split; (exfalso; omega)); with_reducible rfl)))); (try simp only [Act.put, List.setIfInBounds_toArray, List.set_cons_zero, List.set_cons_succ])
    refine RM.const (v := ?_) (fun _ => rfl) (fun xq wq hSq => ?_) ?_; rotate_left; (focus (go_simp; (first | done | with_reducible rfl | ((split; (exfalso; omega)); with_reducible rfl)))); (try simp only [Act.put, List.setIfInBounds_toArray, List.set_cons_zero, List.set_cons_succ])
    refine RM.callc (v := ?_) (f := ?_) (args := ?_) (fun _ => rfl) (fun xq wq hSq => ?_) (fun wq hSq => ?_) ?_; rotate_left 3; (focus (go_simp; (refine ⟨?_, ?_⟩ <;> with_reducible rfl))); (focus (exact k4 _)); (try simp only [Act.put, List.setIfInBounds_toArray, List.set_cons_zero, List.set_cons_succ])
    refine RM.const (v := ?_) (fun _ => rfl) (fun xq wq hSq => ?_) ?_; rotate_left; (focus (go_simp; (first | done | with_reducible rfl | ((split; (exfalso; omega)); with_reducible rfl)))); (try simp only [Act.put, List.setIfInBounds_toArray, List.set_cons_zero, List.set_cons_succ])
    refine RM.const (v := ?_) (fun _ => rfl) (fun xq wq hSq => ?_) ?_; rotate_left; (focus (go_simp; (first | done | with_reducible rfl | ((split; (exfalso; omega)); with_reducible rfl)))); (try simp only [Act.put, List.setIfInBounds_toArray, List.set_cons_zero, List.set_cons_succ])
    refine RM.const (v := ?_) (fun _ => rfl) (fun xq wq hSq => ?_) ?_; rotate_left; (focus (go_simp; (first | done | with_reducible rfl | ((split; (exfalso; omega)); with_reducible rfl)))); (try simp only [Act.put, List.setIfInBounds_toArray, List.set_cons_zero, List.set_cons_succ])
    refine RM.const (v := ?_) (fun _ => rfl) (fun xq wq hSq => ?_) ?_; rotate_left; (focus (go_simp; (first | done | with_reducible rfl | ((split; (exfalso; omega)); with_reducible rfl)))); (try simp only [Act.put, List.setIfInBounds_toArray, List.set_cons_zero, List.set_cons_succ])
    refine RM.const (v := ?_) (fun _ => rfl) (fun xq wq hSq => ?_) ?_; rotate_left; (focus (go_simp; (first | done | with_reducible rfl | ((split; (exfalso; omega)); with_reducible rfl)))); (try simp only [Act.put, List.setIfInBounds_toArray, List.set_cons_zero, List.set_cons_succ])
    refine RM.const (v := ?_) (fun _ => rfl) (fun xq wq hSq => ?_) ?_; rotate_left; (focus (go_simp; (first | done | with_reducible rfl | ((split; (exfalso; omega)); with_reducible rfl)))); (try simp only [Act.put, List.setIfInBounds_toArray, List.set_cons_zero, List.set_cons_succ])
    refine RM.callc (v := ?_) (f := ?_) (args := ?_) (fun _ => rfl) (fun xq wq hSq => ?_) (fun wq hSq => ?_) ?_; rotate_left 3; (focus (go_simp; (refine ⟨?_, ?_⟩ <;> with_reducible rfl))); (focus (exact k1 _)); (try simp only [Act.put, List.setIfInBounds_toArray, List.set_cons_zero, List.set_cons_succ])
    refine RM.const (v := ?_) (fun _ => rfl) (fun xq wq hSq => ?_) ?_; rotate_left; (focus (go_simp; (first | done | with_reducible rfl | ((split; (exfalso; omega)); with_reducible rfl)))); (try simp only [Act.put, List.setIfInBounds_toArray, List.set_cons_zero, List.set_cons_succ])
    refine RM.const (v := ?_) (fun _ => rfl) (fun xq wq hSq => ?_) ?_; rotate_left; (focus (go_simp; (first | done | with_reducible rfl | ((split; (exfalso; omega)); with_reducible rfl)))); (try simp only [Act.put, List.setIfInBounds_toArray, List.set_cons_zero, List.set_cons_succ])
    refine RM.const (v := ?_) (fun _ => rfl) (fun xq wq hSq => ?_) ?_; rotate_left; (focus (go_simp; (first | done | with_reducible rfl | ((split; (exfalso; omega)); with_reducible rfl)))); (try simp only [Act.put, List.setIfInBounds_toArray, List.set_cons_zero, List.set_cons_succ])
    refine RM.const (v := ?_) (fun _ => rfl) (fun xq wq hSq => ?_) ?_; rotate_left; (focus (go_simp; (first | done | with_reducible rfl | ((split; (exfalso; omega)); with_reducible rfl)))); (try simp only [Act.put, List.setIfInBounds_toArray, List.set_cons_zero, List.set_cons_succ])
    refine RM.const (v := ?_) (fun _ => rfl) (fun xq wq hSq => ?_) ?_; rotate_left; (focus (go_simp; (first | done | with_reducible rfl | ((split; (exfalso; omega)); with_reducible rfl)))); (try simp only [Act.put, List.setIfInBounds_toArray, List.set_cons_zero, List.set_cons_succ])
    refine RM.callc (v := ?_) (f := ?_) (args := ?_) (fun _ => rfl) (fun xq wq hSq => ?_) (fun wq hSq => ?_) ?_; rotate_left 3; (focus (go_simp; (refine ⟨?_, ?_⟩ <;> with_reducible rfl))); (focus (exact k2 _)); (try simp only [Act.put, List.setIfInBounds_toArray, List.set_cons_zero, List.set_cons_succ])
    refine RM.const (v := ?_) (fun _ => rfl) (fun xq wq hSq => ?_) ?_; rotate_left; (focus (go_simp; (first | done | with_reducible rfl | ((split; (exfalso; omega)); with_reducible rfl)))); (try simp only [Act.put, List.setIfInBounds_toArray, List.set_cons_zero, List.set_cons_succ])
    refine RM.const (v := ?_) (fun _ => rfl) (fun xq wq hSq => ?_) ?_; rotate_left; (focus (go_simp; (first | done | with_reducible rfl | ((split; (exfalso; omega)); with_reducible rfl)))); (try simp only [Act.put, List.setIfInBounds_toArray, List.set_cons_zero, List.set_cons_succ])
    refine RM.done (fun xq wq hSq hUq => ?_)
    clear q0 q1 q2 q3 q4 q6 q7
    go_wp2
    go_ret
    refine ⟨?_, ((Mod.refl _ w).alloc _).thenNone hSq⟩
    rw [HE.out]
    refine ret_str ?_
    simp only [ByteArray.mk_append_mk]
    simp [wayW]

set_option maxRecDepth 100000 in
set_option maxHeartbeats 4000000 in
theorem memoLine_any (x : Memo) (hx : x.ok) (v : Value) (w : World) (ht : Tab w) :
    Calls Tryz.prog 61 #[.agg #[.int .i64 x.node, .int .i64 x.wide.mode, .int .i64 x.wide.n, .int .i64 x.high.mode, .int .i64 x.high.n, .bool x.rtl, .int .i64 x.bw, .int .i64 x.bh, .int .i64 x.bb, v]] w fun e w' => e = .returned (.string ⟨(memoW x).toArray⟩) ∧ Mod (fun _ => False) w w' := by
  have hsh := memoW_short x hx
  obtain ⟨b0, b1, b2, _⟩ := hx
  obtain ⟨x0, ⟨x1, x2⟩, ⟨x3, x4⟩, x5, x6, x7, x8, xl⟩ := x
  have hE : Hid (memoW ⟨x0, ⟨x1, x2⟩, ⟨x3, x4⟩, x5, x6, x7, x8, xl⟩ = Lib.join [Lib.itoa x0, spaceW ⟨x1, x2⟩, spaceW ⟨x3, x4⟩, wayW x5, spacedOf [x6, x7]] [32]) := rfl
  simp only at b0 b1 b2 ⊢
  have Ht2 := hid (ht.keep ((Mod.refl (fun _ => False) w).alloc (.cells #[.int .i64 x0, .int .i64 x1, .int .i64 x2, .int .i64 x3, .int .i64 x4, .bool x5, .int .i64 x6, .int .i64 x7, .int .i64 x8, v] 101)))
  clear ht
  have k0 := fun W h => decimal_any x0 b0 W h
  have k3 := fun W h => spaceText_any x1 x2 W h
  have k4 := fun W h => spaceText_any x3 x4 W h
  have k5 := fun W => dirWord_any x5 W
  have k6 := fun W a h h' => spaced_any [x6, x7] (some ⟨a, 0, none⟩) 2 (fun k => k = a) W (by simp) h (by simp; exact ⟨b1, b2⟩) h'
  have k7 := fun W g h => join_lit (w := W) (g := g) (n := 5) (l := [Lib.itoa x0, spaceW ⟨x1, x2⟩, spaceW ⟨x3, x4⟩, wayW x5, spacedOf [x6, x7]]) [32] h rfl (by simp) (by rw [← hE.out]; omega)
  clear b0 b1 b2 hsh
  have hB := heap_alloc_new w (.cells [.int .i64 x0, .int .i64 x1, .int .i64 x2, .int .i64 x3, .int .i64 x4, .bool x5, .int .i64 x6, .int .i64 x7, .int .i64 x8, v].toArray 101)
  have q0 := hold (blk_cell hB (j := 0) rfl)
  have q1 := hold (blk_cell hB (j := 1) rfl)
  have q2 := hold (blk_cell hB (j := 2) rfl)
  have q3 := hold (blk_cell hB (j := 3) rfl)
  have q4 := hold (blk_cell hB (j := 4) rfl)
  have q5 := hold (blk_cell hB (j := 5) rfl)
  have q6 := hold (blk_cell hB (j := 6) rfl)
  have q7 := hold (blk_cell hB (j := 7) rfl)
  clear hB
  go_enter Tryz.func61, Tryz.ntmps61
  go_wp2
  refine wp_region_mod (by kernel_rfl) (by kernel_rfl) ?_
  refine RM.const (v := ?_) (fun _ => rfl) (fun xq wq hSq => ?_) ?_; rotate_left; (focus (go_simp; (first | done | with_reducible rfl | ((split; (exfalso; omega)); with_reducible rfl)))); (try simp only [Act.put, List.setIfInBounds_toArray, List.set_cons_zero, List.set_cons_succ])
  refine RM.const (v := ?_) (fun _ => rfl) (fun xq wq hSq => ?_) ?_; rotate_left; (focus (go_simp; (first | done | with_reducible rfl | ((split; (exfalso; omega)); with_reducible rfl)))); (try simp only [Act.put, List.setIfInBounds_toArray, List.set_cons_zero, List.set_cons_succ])
  refine RM.callc (v := ?_) (f := ?_) (args := ?_) (fun _ => rfl) (fun xq wq hSq => ?_) (fun wq hSq => ?_) ?_; rotate_left 3; (focus (go_simp; (refine ⟨?_, ?_⟩ <;> with_reducible rfl))); (focus (exact k0 _ (Ht2.out.keep hSq))); (try simp only [Act.put, List.setIfInBounds_toArray, List.set_cons_zero, List.set_cons_succ])
  refine RM.const (v := ?_) (fun _ => rfl) (fun xq wq hSq => ?_) ?_; rotate_left; (focus (go_simp; (first | done | with_reducible rfl | ((split; (exfalso; omega)); with_reducible rfl)))); (try simp only [Act.put, List.setIfInBounds_toArray, List.set_cons_zero, List.set_cons_succ])
  refine RM.const (v := ?_) (fun _ => rfl) (fun xq wq hSq => ?_) ?_; rotate_left; (focus (go_simp; (first | done | with_reducible rfl | ((split; (exfalso; omega)); with_reducible rfl)))); (try simp only [Act.put, List.setIfInBounds_toArray, List.set_cons_zero, List.set_cons_succ])
  refine RM.callc (v := ?_) (f := ?_) (args := ?_) (fun _ => rfl) (fun xq wq hSq => ?_) (fun wq hSq => ?_) ?_; rotate_left 3; (focus (go_simp; (refine ⟨?_, ?_⟩ <;> with_reducible rfl))); (focus (exact k3 _ (Ht2.out.keep hSq))); (try simp only [Act.put, List.setIfInBounds_toArray, List.set_cons_zero, List.set_cons_succ])
  refine RM.const (v := ?_) (fun _ => rfl) (fun xq wq hSq => ?_) ?_; rotate_left; (focus (go_simp; (first | done | with_reducible rfl | ((split; (exfalso; omega)); with_reducible rfl)))); (try simp only [Act.put, List.setIfInBounds_toArray, List.set_cons_zero, List.set_cons_succ])
  refine RM.const (v := ?_) (fun _ => rfl) (fun xq wq hSq => ?_) ?_; rotate_left; (focus (go_simp; (first | done | with_reducible rfl | ((split; (exfalso; omega)); with_reducible rfl)))); (try simp only [Act.put, List.setIfInBounds_toArray, List.set_cons_zero, List.set_cons_succ])
  refine RM.callc (v := ?_) (f := ?_) (args := ?_) (fun _ => rfl) (fun xq wq hSq => ?_) (fun wq hSq => ?_) ?_; rotate_left 3; (focus (go_simp; (refine ⟨?_, ?_⟩ <;> with_reducible rfl))); (focus (exact k4 _ (Ht2.out.keep hSq))); (try simp only [Act.put, List.setIfInBounds_toArray, List.set_cons_zero, List.set_cons_succ])
  refine RM.const (v := ?_) (fun _ => rfl) (fun xq wq hSq => ?_) ?_; rotate_left; (focus (go_simp; (first | done | with_reducible rfl | ((split; (exfalso; omega)); with_reducible rfl)))); (try simp only [Act.put, List.setIfInBounds_toArray, List.set_cons_zero, List.set_cons_succ])
  refine RM.const (v := ?_) (fun _ => rfl) (fun xq wq hSq => ?_) ?_; rotate_left; (focus (go_simp; (first | done | with_reducible rfl | ((split; (exfalso; omega)); with_reducible rfl)))); (try simp only [Act.put, List.setIfInBounds_toArray, List.set_cons_zero, List.set_cons_succ])
  refine RM.callc (v := ?_) (f := ?_) (args := ?_) (fun _ => rfl) (fun xq wq hSq => ?_) (fun wq hSq => ?_) ?_; rotate_left 3; (focus (go_simp; (refine ⟨?_, ?_⟩ <;> with_reducible rfl))); (focus (exact k5 _)); (try simp only [Act.put, List.setIfInBounds_toArray, List.set_cons_zero, List.set_cons_succ])
  refine RM.const (v := ?_) (fun _ => rfl) (fun xq wq hSq => ?_) ?_; rotate_left; (focus (go_simp; (first | done | with_reducible rfl | ((split; (exfalso; omega)); with_reducible rfl)))); (try simp only [Act.put, List.setIfInBounds_toArray, List.set_cons_zero, List.set_cons_succ])
  refine RM.const (v := ?_) (fun _ => rfl) (fun xq wq hSq => ?_) ?_; rotate_left; (focus (go_simp; (first | done | with_reducible rfl | ((split; (exfalso; omega)); with_reducible rfl)))); (try simp only [Act.put, List.setIfInBounds_toArray, List.set_cons_zero, List.set_cons_succ])
  refine RM.const (v := ?_) (fun _ => rfl) (fun xq wq hSq => ?_) ?_; rotate_left; (focus (go_simp; (first | done | with_reducible rfl | ((split; (exfalso; omega)); with_reducible rfl)))); (try simp only [Act.put, List.setIfInBounds_toArray, List.set_cons_zero, List.set_cons_succ])
  refine RM.const (v := ?_) (fun _ => rfl) (fun xq wq hSq => ?_) ?_; rotate_left; (focus (go_simp; (first | done | with_reducible rfl | ((split; (exfalso; omega)); with_reducible rfl)))); (try simp only [Act.put, List.setIfInBounds_toArray, List.set_cons_zero, List.set_cons_succ])
  refine RM.const (v := ?_) (fun _ => rfl) (fun xq wq hSq => ?_) ?_; rotate_left; (focus (go_simp; (first | done | with_reducible rfl | ((split; (exfalso; omega)); with_reducible rfl)))); (try simp only [Act.put, List.setIfInBounds_toArray, List.set_cons_zero, List.set_cons_succ])
  refine RM.const (v := ?_) (fun _ => rfl) (fun xq wq hSq => ?_) ?_; rotate_left; (focus (go_simp; (first | done | with_reducible rfl | ((split; (exfalso; omega)); with_reducible rfl)))); (try simp only [Act.put, List.setIfInBounds_toArray, List.set_cons_zero, List.set_cons_succ])
  refine RM.lit (n := ?_) (vals := ?_) (e := ?_) (fun _ => rfl) (fun xq wq hSq => ?_) ?_; rotate_left 3; (focus (go_simp; (first | done | with_reducible rfl | (refine ⟨?_, ?_⟩ <;> with_reducible rfl)))); (try simp only [Act.put, List.setIfInBounds_toArray, List.set_cons_zero, List.set_cons_succ])
  refine RM.call (v := ?_) (f := ?_) (args := ?_) [18] (by kernel_rfl) (fun _ => rfl) (fun xq wq hSq => ?_) (fun xq wq hSq hKq => ?_) ?_; rotate_left 3; (focus (go_simp; (refine ⟨?_, ?_⟩ <;> with_reducible rfl))); (focus (obtain ⟨g, hv, _, hb⟩ := hKq _ List.mem_cons_self (by simp); simp only at hv; simp only [hv]; exact k6 _ g (lit_two hb) (Ht2.out.keep hSq))); (try simp only [Act.put, List.setIfInBounds_toArray, List.set_cons_zero, List.set_cons_succ])
  refine RM.lit (n := ?_) (vals := ?_) (e := ?_) (fun _ => rfl) (fun xq wq hSq => ?_) ?_; rotate_left 3; (focus (go_simp; (first | done | with_reducible rfl | (refine ⟨?_, ?_⟩ <;> with_reducible rfl)))); (try simp only [Act.put, List.setIfInBounds_toArray, List.set_cons_zero, List.set_cons_succ])
  refine RM.call (v := ?_) (f := ?_) (args := ?_) [20] (by kernel_rfl) (fun _ => rfl) (fun xq wq hSq => ?_) (fun xq wq hSq hKq => ?_) ?_; rotate_left 3; (focus (go_simp; (refine ⟨?_, ?_⟩ <;> with_reducible rfl))); (focus (obtain ⟨g, hv, _, hb⟩ := hKq _ List.mem_cons_self (by simp); simp only at hv; simp only [hv]; exact k7 _ g hb)); (try simp only [Act.put, List.setIfInBounds_toArray, List.set_cons_zero, List.set_cons_succ])
  refine RM.const (v := ?_) (fun _ => rfl) (fun xq wq hSq => ?_) ?_; rotate_left; (focus (go_simp; (first | done | with_reducible rfl | ((split; (exfalso; omega)); with_reducible rfl)))); (try simp only [Act.put, List.setIfInBounds_toArray, List.set_cons_zero, List.set_cons_succ])
  refine RM.done (fun xq wq hSq hUq => ?_)
  clear q0 q1 q2 q3 q4 q5 q6 q7
  go_wp2
  go_ret
  refine ⟨?_, ((Mod.refl _ w).alloc _).thenNone hSq⟩
  rw [hE.out]
  rfl

end Go.Proofs.YtpkpkojmaebflaaGreatDoor
namespace Go.Proofs.YtpkpkojmaebflaaGreatDoor
open Go.RowKit

/-- A memo's cells, its frames' slice among them. -/
def memoRow (x : Memo) (a : Option Addr) (c : Nat) : List Value := [.int .i64 x.node, .int .i64 x.wide.mode, .int .i64 x.wide.n, .int .i64 x.high.mode, .int .i64 x.high.n, .bool x.rtl, .int .i64 x.bw, .int .i64 x.bh, .int .i64 x.bb, .slice a x.frames.length c]
/-- A memo's cells read as the memo; o: its frames may be written. -/
def MemoIn (o : Bool) (R : Nat → Prop) (w : World) (cs : List Value) (x : Memo) : Prop :=
  ∃ a c, cs = memoRow x a c ∧ SliceAt (Flat Frame.cells) 5 R w a x.frames ∧ (o = true → Wr 91 5 R w a x.frames.length)
theorem MemoIn.mod {o : Bool} {R S : Nat → Prop} {w w' : World} {cs : List Value} {x : Memo} (h : MemoIn o R w cs x) (hm : Mod S w w') (hs : ∀ k, R k → ¬ S k) : MemoIn o R w' cs x := by
  obtain ⟨a, c, h1, h2, h3⟩ := h
  exact ⟨a, c, h1, h2.flatMod hm hs, fun ho => (h3 ho).mod hm hs⟩
theorem MemoIn.keep {o : Bool} {R : Nat → Prop} {w w' : World} {cs : List Value} {x : Memo} (h : MemoIn o R w cs x) (hm : Mod (fun _ => False) w w') : MemoIn o R w' cs x := h.mod hm fun _ _ f => f
theorem MemoIn.wide {o : Bool} {R S : Nat → Prop} {w : World} {cs : List Value} {x : Memo} (h : MemoIn o R w cs x) (hs : ∀ k, k < w.heap.size → R k → S k) : MemoIn o S w cs x := by
  obtain ⟨a, c, h1, h2, h3⟩ := h
  exact ⟨a, c, h1, SliceAt.wide h2 hs, fun ho => (h3 ho).weaken hs⟩
abbrev MemoSlice (o : Bool) (R : Nat → Prop) (w : World) (a : Option Addr) (l : List Memo) : Prop := SliceAt (MemoIn o R) 10 R w a l
theorem MemoSlice.mod {o : Bool} {R S : Nat → Prop} {w w' : World} {a : Option Addr} {l : List Memo} (h : MemoSlice o R w a l) (hm : Mod S w w') (hs : ∀ k, R k → ¬ S k) : MemoSlice o R w' a l := SliceAt.mod h hm hs fun _ _ hx => hx.mod hm hs
theorem MemoSlice.keep {o : Bool} {R : Nat → Prop} {w w' : World} {a : Option Addr} {l : List Memo} (h : MemoSlice o R w a l) (hm : Mod (fun _ => False) w w') : MemoSlice o R w' a l := h.mod hm fun _ _ f => f

theorem info_Memo : (Tryz.prog.info? 101).map (fun i => (i.zero, i.size, i.bytes)) = some (some (.agg #[.int .i64 0, .int .i64 0, .int .i64 0, .int .i64 0, .int .i64 0, .bool false, .int .i64 0, .int .i64 0, .int .i64 0, .slice none 0 0]), 10, 96) := by kernel_rfl

set_option maxRecDepth 100000 in
set_option maxHeartbeats 4000000 in
theorem toMemoS_any (l : List Memo) (o : Bool) (a : Option Addr) (c : Nat) (R : Nat → Prop) (w : World) (hl : l.length ≤ 1048576) (hf : ∀ x ∈ l, x.frames.length ≤ 1048576) (h : MemoSlice o R w a l) :
    Calls Tryz.prog 48 #[.slice a l.length c] w (NewNest (MemoIn true) 101 10 w l) := by
  have H := hid h
  have HF := hid hf
  clear h hf
  obtain ⟨i0, hi, hz0, hz1, hz2⟩ := info_parts info_Memo
  have hmk : ∀ W : World, (Instr.makeSlice 38 (.int .i64 (l.length : Int)) (.int .i64 (l.length : Int))).run Tryz.prog W = .ok (.slice (some ⟨W.heap.size, 0, none⟩) l.length l.length) (W.alloc (.cells (madeCells (Value.cells (.agg #[.int .i64 0, .int .i64 0, .int .i64 0, .int .i64 0, .int .i64 0, .bool false, .int .i64 0, .int .i64 0, .int .i64 0, .slice none 0 0])) (l.length * 10)) 101)) := by
    intro W
    have := run_make (P := Tryz.prog) W 38 101 i0 _ Tryz.underlying38 hi hz0 .i64 .i64 l.length l.length (by omega) (by omega) (by rw [hz2]; omega) (by omega)
    simpa [hz1] using this
  clear hz0 hz1 hz2 hi
  go_enter Tryz.func48, Tryz.ntmps48
  go_wp2
  go_loopw [4] (fun i wr => ∃ (k : Nat) (rows : List (List Value)), k ≤ l.length ∧ i = .int .i64 k ∧ Hid (rows.length = k ∧ (∀ r ∈ rows, r.length = 10) ∧ (∀ (i : Nat) (r : List Value) (x : Memo), rows[i]? = some r → l[i]? = some x → MemoIn true (fun b => w.heap.size < b) wr r x)) ∧ Filled w.heap.size 101 (l.length * 10) wr rows.flatten ∧ Mod (fun _ => False) w wr) (fun i _ => l.length - (intOf i).toNat)
  case atStart => exact ⟨0, [], by omega, rfl, hid ⟨rfl, (fun _ h => by simp at h), (fun _ _ _ h => by simp at h)⟩, Filled.made w _ _ _ (size_madeCells _ _), (Mod.refl _ w).alloc _⟩
  case round =>
    obtain ⟨k, rows, hk, rfl, HR, hF, hM⟩ := hrel
    clear hmk
    by_cases hlt : k < l.length
    · obtain ⟨b, o', x, r, rfl, hb, hbw, hx, ⟨fa, fc, rfl, hfs, _⟩, hrl', hc⟩ := (H.out.keep hM).get hlt
      have hxl := HF.out x (List.mem_of_getElem? hx.out)
      have c0 : wr.cell? ⟨b, o' + k * 10, none⟩ = _ := hc 0 _ rfl
      have c1 : wr.cell? ⟨b, o' + k * 10 + 1, none⟩ = _ := hc 1 _ rfl
      have c2 : wr.cell? ⟨b, o' + k * 10 + 2, none⟩ = _ := hc 2 _ rfl
      have c3 : wr.cell? ⟨b, o' + k * 10 + 3, none⟩ = _ := hc 3 _ rfl
      have c4 : wr.cell? ⟨b, o' + k * 10 + 4, none⟩ = _ := hc 4 _ rfl
      have c5 : wr.cell? ⟨b, o' + k * 10 + 5, none⟩ = _ := hc 5 _ rfl
      have c6 : wr.cell? ⟨b, o' + k * 10 + 6, none⟩ = _ := hc 6 _ rfl
      have c7 : wr.cell? ⟨b, o' + k * 10 + 7, none⟩ = _ := hc 7 _ rfl
      have c8 : wr.cell? ⟨b, o' + k * 10 + 8, none⟩ = _ := hc 8 _ rfl
      have c9 : wr.cell? ⟨b, o' + k * 10 + 9, none⟩ = _ := hc 9 _ rfl
      clear hc hrl'
      have Hfs := hid hfs
      have hF0 := hF.size
      clear hfs
      go_wp2_with fail
      refine (toMemo_any x fa fc R _ hxl (Hfs.out.flatKeep (by (repeat (first | with_reducible exact Mod.refl _ _ | with_reducible refine Mod.drewN ?_ _ | with_reducible refine Mod.drew ?_ | with_reducible refine Mod.alloc ?_ _ | ((with_reducible refine Mod.setNew ?_ ?_ _ _ _); (rotate_left; omega)) | with_reducible refine Mod.setAt ?_ _ _ _ ))))).mono ?_
      rintro e w1 ⟨g, rfl, hg, hb1, hm1⟩
      have hm1' : Mod (fun _ => False) wr w1 := by (repeat (first | with_reducible exact Mod.refl _ _ | with_reducible refine Mod.drewN ?_ _ | with_reducible refine Mod.drew ?_ | with_reducible refine Mod.alloc ?_ _ | ((with_reducible refine Mod.setNew ?_ ?_ _ _ _); (rotate_left; omega)) | with_reducible refine Mod.setAt ?_ _ _ _ | with_reducible exact hm1 | with_reducible refine Mod.thenNone ?_ hm1 ))
      have hgw : w.heap.size < g := by
        have h1 : wr.heap.size ≤ g := by simpa using hg
        omega
      have hF1 := hF.mod hm1' (fun f => f)
      obtain ⟨v0, d0⟩ := hF1.cell (off := k * 10) (by omega)
      have z0 := hF1.free (k * 10)
      obtain ⟨v1, d1⟩ := hF1.cell (off := k * 10 + 1) (by omega)
      have z1 := hF1.free (k * 10 + 1)
      obtain ⟨v2, d2⟩ := hF1.cell (off := k * 10 + 2) (by omega)
      have z2 := hF1.free (k * 10 + 2)
      obtain ⟨v3, d3⟩ := hF1.cell (off := k * 10 + 3) (by omega)
      have z3 := hF1.free (k * 10 + 3)
      obtain ⟨v4, d4⟩ := hF1.cell (off := k * 10 + 4) (by omega)
      have z4 := hF1.free (k * 10 + 4)
      obtain ⟨v5, d5⟩ := hF1.cell (off := k * 10 + 5) (by omega)
      have z5 := hF1.free (k * 10 + 5)
      obtain ⟨v6, d6⟩ := hF1.cell (off := k * 10 + 6) (by omega)
      have z6 := hF1.free (k * 10 + 6)
      obtain ⟨v7, d7⟩ := hF1.cell (off := k * 10 + 7) (by omega)
      have z7 := hF1.free (k * 10 + 7)
      obtain ⟨v8, d8⟩ := hF1.cell (off := k * 10 + 8) (by omega)
      have z8 := hF1.free (k * 10 + 8)
      obtain ⟨v9, d9⟩ := hF1.cell (off := k * 10 + 9) (by omega)
      have z9 := hF1.free (k * 10 + 9)
      have HF1 := hid hF1
      have Hb1 := hid hb1
      have Hm1 := hid hm1'
      have HM1 := hid (hM.thenNone hm1')
      clear hF hF1 hb1 hm1 hm1' hg
      go_wp2
      go_roundw
      case rel =>
        obtain ⟨hrl, hrs, hrep⟩ := HR.out
        have hne : g ≠ w.heap.size := by omega
        refine ⟨k + 1, rows ++ [memoRow x (some ⟨g, 0, none⟩) x.frames.length], by omega, by go_num, hid ⟨by simp [hrl], lens_succ hrs rfl, ?_⟩, ?_, ?_⟩
        · refine rows_succ hx hrl (rows_map hrep fun r x hq => hq.mod (S := fun k => k = w.heap.size) ?_ (fun k hk e => by omega)) ⟨_, _, rfl, SliceAt.wide (flat_of_blk (e := 91) (sz := 5) ?_ (fun _ => rfl)) (fun k _ hk => by omega), fun _ => wr_of_blk (xs := (x.frames.map Frame.cells).flatten) ?_ (flat_length (cells := Frame.cells) (sz := 5) (fun _ => rfl) _) hgw⟩
          · iterate 10 refine Mod.setAt ?_ _ _ _
            exact Hm1.out.mono (fun _ _ f => f.elim)
          · iterate 10 refine set_far ?_ hne
            exact Hb1.out
          · iterate 10 refine set_far ?_ hne
            exact Hb1.out
        · have hl0 := flatten_length hrs
          rw [hrl] at hl0
          have e : (rows ++ [memoRow x (some ⟨g, 0, none⟩) x.frames.length]).flatten = rows.flatten ++ [.int .i64 x.node] ++ [.int .i64 x.wide.mode] ++ [.int .i64 x.wide.n] ++ [.int .i64 x.high.mode] ++ [.int .i64 x.high.n] ++ [.bool x.rtl] ++ [.int .i64 x.bw] ++ [.int .i64 x.bh] ++ [.int .i64 x.bb] ++ [.slice (some ⟨g, 0, none⟩) x.frames.length x.frames.length] := by simp [memoRow]
          rw [e]
          have hF1 := HF1.out
          generalize rows.flatten = s at hF1 hl0
          exact ((((((((((hF1.push (off := k * 10) (by simp [hl0]) (by omega) _).push (off := k * 10 + 1) (by simp [hl0]) (by omega) _).push (off := k * 10 + 2) (by simp [hl0]) (by omega) _).push (off := k * 10 + 3) (by simp [hl0]) (by omega) _).push (off := k * 10 + 4) (by simp [hl0]) (by omega) _).push (off := k * 10 + 5) (by simp [hl0]) (by omega) _).push (off := k * 10 + 6) (by simp [hl0]) (by omega) _).push (off := k * 10 + 7) (by simp [hl0]) (by omega) _).push (off := k * 10 + 8) (by simp [hl0]) (by omega) _).push (off := k * 10 + 9) (by simp [hl0]) (by omega) _)
        · have hM1 := HM1.out
          (repeat (first | with_reducible exact Mod.refl _ _ | with_reducible refine Mod.drewN ?_ _ | with_reducible refine Mod.drew ?_ | with_reducible refine Mod.alloc ?_ _ | ((with_reducible refine Mod.setNew ?_ ?_ _ _ _); (rotate_left; omega)) | with_reducible refine Mod.setAt ?_ _ _ _ | with_reducible exact hM1 | with_reducible refine Mod.thenNone ?_ hM1 ))
      case measure => simp [intOf]; omega
    · have hk' : k = l.length := by omega
      subst hk'
      obtain ⟨hrl, hrs, hrep⟩ := HR.out
      go_wp2
      go_ret
      refine ⟨w.heap.size, rows, rfl, Nat.le_refl _, ?_, hrl, hrs, rows_map hrep fun r x hq => hq.wide fun _ _ hk => Nat.le_of_lt hk, hM⟩
      exact hF.full (by rw [flatten_length hrs, hrl])

set_option maxRecDepth 100000 in
set_option maxHeartbeats 4000000 in
theorem eqMemoS_same (l : List Memo) (o o' : Bool) (a a' : Option Addr) (c c' : Nat) (R S : Nat → Prop) (w : World) (hl : l.length ≤ 1048576) (hf : ∀ x ∈ l, x.frames.length ≤ 1048576) (h : MemoSlice o R w a l) (h' : MemoSlice o' S w a' l) :
    Calls Tryz.prog 63 #[.slice a l.length c, .slice a' l.length c'] w fun e w' => e = .returned (.bool true) ∧ Mod (fun _ => False) w w' := by
  have H := hid h
  have H' := hid h'
  have HF := hid hf
  clear h h' hf
  have hn0 : ((l.length : Int) != (l.length : Int)) = false := by simp
  go_enter Tryz.func63, Tryz.ntmps63
  go_wp2
  go_loopw [5] (fun i wr => ∃ k : Nat, k ≤ l.length ∧ i = .int .i64 k ∧ Mod (fun _ => False) w wr) (fun i _ => l.length - (intOf i).toNat)
  case atStart => exact ⟨0, by omega, rfl, Mod.refl _ _⟩
  case round =>
    obtain ⟨k, hk, rfl, hM⟩ := hrel
    by_cases hlt : k < l.length
    · obtain ⟨b, o1, x, r, rfl, hb, hbw, hx, ⟨fa, fc, rfl, hfs, _⟩, hrl, hc⟩ := (H.out.keep hM).get hlt
      obtain ⟨b', o2, y, r', rfl, hb', hbw', hy, ⟨fa', fc', rfl, hfs', _⟩, hrl', hd⟩ := (H'.out.keep hM).get hlt
      obtain rfl : x = y := Option.some.inj (hx.out.symm.trans hy.out)
      have hxl := HF.out x (List.mem_of_getElem? hx.out)
      have c0 : wr.cell? ⟨b, o1 + k * 10, none⟩ = _ := hc 0 _ rfl
      have d0 : wr.cell? ⟨b', o2 + k * 10, none⟩ = _ := hd 0 _ rfl
      have c1 : wr.cell? ⟨b, o1 + k * 10 + 1, none⟩ = _ := hc 1 _ rfl
      have d1 : wr.cell? ⟨b', o2 + k * 10 + 1, none⟩ = _ := hd 1 _ rfl
      have c2 : wr.cell? ⟨b, o1 + k * 10 + 2, none⟩ = _ := hc 2 _ rfl
      have d2 : wr.cell? ⟨b', o2 + k * 10 + 2, none⟩ = _ := hd 2 _ rfl
      have c3 : wr.cell? ⟨b, o1 + k * 10 + 3, none⟩ = _ := hc 3 _ rfl
      have d3 : wr.cell? ⟨b', o2 + k * 10 + 3, none⟩ = _ := hd 3 _ rfl
      have c4 : wr.cell? ⟨b, o1 + k * 10 + 4, none⟩ = _ := hc 4 _ rfl
      have d4 : wr.cell? ⟨b', o2 + k * 10 + 4, none⟩ = _ := hd 4 _ rfl
      have c5 : wr.cell? ⟨b, o1 + k * 10 + 5, none⟩ = _ := hc 5 _ rfl
      have d5 : wr.cell? ⟨b', o2 + k * 10 + 5, none⟩ = _ := hd 5 _ rfl
      have c6 : wr.cell? ⟨b, o1 + k * 10 + 6, none⟩ = _ := hc 6 _ rfl
      have d6 : wr.cell? ⟨b', o2 + k * 10 + 6, none⟩ = _ := hd 6 _ rfl
      have c7 : wr.cell? ⟨b, o1 + k * 10 + 7, none⟩ = _ := hc 7 _ rfl
      have d7 : wr.cell? ⟨b', o2 + k * 10 + 7, none⟩ = _ := hd 7 _ rfl
      have c8 : wr.cell? ⟨b, o1 + k * 10 + 8, none⟩ = _ := hc 8 _ rfl
      have d8 : wr.cell? ⟨b', o2 + k * 10 + 8, none⟩ = _ := hd 8 _ rfl
      have c9 : wr.cell? ⟨b, o1 + k * 10 + 9, none⟩ = _ := hc 9 _ rfl
      have d9 : wr.cell? ⟨b', o2 + k * 10 + 9, none⟩ = _ := hd 9 _ rfl
      clear hc hd hrl hrl'
      have Hfs := hid hfs
      have Hfs' := hid hfs'
      clear hfs hfs'
      go_wp2
      go_still_tail 8, (by kernel_rfl)
      go_wp2_with fail
      refine (eqMemo_any x fa fa' fc fc' R S _ hxl (Hfs.out.flatKeep (by (repeat (first | with_reducible exact Mod.refl _ _ | with_reducible refine Mod.drewN ?_ _ | with_reducible refine Mod.drew ?_ | with_reducible refine Mod.alloc ?_ _ | ((with_reducible refine Mod.setNew ?_ ?_ _ _ _); (rotate_left; omega)) | with_reducible refine Mod.setAt ?_ _ _ _ )))) (Hfs'.out.flatKeep (by (repeat (first | with_reducible exact Mod.refl _ _ | with_reducible refine Mod.drewN ?_ _ | with_reducible refine Mod.drew ?_ | with_reducible refine Mod.alloc ?_ _ | ((with_reducible refine Mod.setNew ?_ ?_ _ _ _); (rotate_left; omega)) | with_reducible refine Mod.setAt ?_ _ _ _ ))))).mono ?_
      rintro e w1 ⟨rfl, hm1⟩
      go_wp2
      go_roundw
      case rel => exact ⟨k + 1, by omega, by go_num, hM.drew.thenNone hm1⟩
      case measure => simp [intOf]; omega
    · go_wp2
      go_ret
      exact ⟨rfl, hM⟩

/-- What a memo counts besides itself. -/
def Memo.cost (x : Memo) : Nat := x.frames.length
end Go.Proofs.YtpkpkojmaebflaaGreatDoor
