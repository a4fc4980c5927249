/-
  PROVED: contracts of functions and words on memory, several texts put together: what each says stands at its theorems. Conditions: as told there.
-/
import Derived.Test.YthffgbhphjkdeaaDoorMBe
import Derived.Test.YthffgbhphjkdeaaDoorRows
import Derived.Test.YthffgbhphjkdeaaDoorCards
import Derived.Test.YthffgbhphjkdeaaDoorTie
import Derived.ProofKit
import Derived.OpenShut
import Derived.ShutString
import Derived.ChangeOld
import Derived.LaidMore
import Derived.Lay
import Derived.MakeChecks
import Derived.SevenTiedAt
import Derived.Stop.Joined
import Derived.Stop.LaidErr
import Derived.Deep.DeepHandedRow
namespace Go.Proofs.YthffgbhphjkdeaaDoor
open Go.RowKit
set_option linter.unusedVariables false
set_option linter.unusedSimpArgs false

instance tfvMeas : TFv Tryd.prog 144 3 62 := ⟨_, _, _, Tryd.underlying144, rfl, rfl, Tryd.underlying4, rfl⟩
theorem ints_at {l : List Int} {p : Nat × Nat} {i : Nat} {x : Int} (hi : l[i]? = some x) : ∀ w, (rowsRes icell 1 l p).says w → w.cell? ⟨p.1, 0 + i, none⟩ = some (.int .i64 x) := fun w h => by
  have := h.h i x 0 _ hi rfl
  rw [Nat.zero_add]
  simpa using this
theorem allU_ne {l : List Node} (hv : treeOk l = true) {k : Nat} {x : Node} (hx : l[k]? = some x) : allU l ((k + 1 : Nat) : Int) ≠ [] := by
  rw [allU_eq hv hx]; simp

set_option maxRecDepth 100000 in
set_option maxHeartbeats 16000000 in
theorem treeLines_any (l : List Node) (o : Bool) (a : Option Addr) (c : Nat) (R : Nat → Prop) (w : World) (hlen : l.length ≤ 1048576) (hfit : ∀ x ∈ l, x.fits 1048576) (h : NodeSlice o R w a l) (ht : Tab w) :
    Calls Tryd.prog 41 #[.agg #[.slice a l.length c]] w (NewSlice 9 1 w (treeLines l).length ((treeLines l).map tcell).flatten) := by
  refine calls_sx Tryd.func41 rfl rfl (fun a h1 h2 h3 => ((Fr.nil h1 h2).arg (h3 0 _ rfl))) ?_
  have hT := fun w' (hm : Mod (fun _ => False) w w') => treeOk_any l o a c R w' hlen hfit (h.keep hm)
  cases hv : treeOk l
  · have e : treeLines l = [] := by unfold treeLines; rw [hv]; rfl
    rw [e]
    rw [hv] at hT
    repeat (first | refine qaL ?_ | refine qaA ?_ | refine qau ?_ | refine qah ?_ | refine SX.block ?_ | refine qaB ?_ | refine qaw rfl ?_ | refine qax rfl ?_ | (refine qaR ?_; (first | refine qaa (qak rfl (fun w hl => hT _ hl.mod)) rfl ?_ ?_ ?_); rfl; rfl) | (refine qaN ?_; (first | refine qaa (qad 0 rfl rfl rfl) rfl ?_ ?_ ?_ | refine qaa (qad 1 rfl rfl rfl) rfl ?_ ?_ ?_ | refine qaa (qad 2 rfl rfl rfl) rfl ?_ ?_ ?_ | refine qaa (qad 3 rfl rfl rfl) rfl ?_ ?_ ?_ | refine qaa (qap rfl (by assumption) (fun h => h)) rfl ?_ ?_ ?_ | refine qaa (qac 0 rfl rfl rfl) rfl ?_ ?_ ?_ | refine qaa (qac 1 rfl rfl rfl) rfl ?_ ?_ ?_ | refine qaa (qac 2 rfl rfl rfl) rfl ?_ ?_ ?_ | refine qaa (qac 3 rfl rfl rfl) rfl ?_ ?_ ?_ | refine qaa (qab 0 rfl rfl rfl rfl) rfl ?_ ?_ ?_ | refine qaa (qab 1 rfl rfl rfl rfl) rfl ?_ ?_ ?_ | refine qaa (qab 2 rfl rfl rfl rfl) rfl ?_ ?_ ?_ | refine qaa (qab 3 rfl rfl rfl rfl) rfl ?_ ?_ ?_); rfl; rfl) | (refine qas ?_; (first | refine qaa (qaj rfl) rfl ?_ ?_ ?_); rfl; rfl) | (refine qaP ?_; (first | refine qaa (qav rfl) rfl ?_ ?_ ?_); rfl; rfl) | (refine qay ?_; (first | refine qaa (qao rfl) rfl ?_ ?_ ?_); rfl; rfl) | (refine l_len ?_; (first | refine qaa (qaQ rfl) rfl ?_ ?_ ?_); rfl; rfl) | (refine l_add ?_; (first | refine qaa (OpW.succ rfl rfl (by omega)) rfl ?_ ?_ ?_ | refine qaa (qaI rfl rfl (by omega) (by omega)) rfl ?_ ?_ ?_ | refine qaa (OpW.add rfl rfl) rfl ?_ ?_ ?_ | refine qaa (OpW.cat rfl rfl (by omega)) rfl ?_ ?_ ?_); rfl; rfl) | (refine l_lss ?_; (first | refine qaa (qaG rfl rfl (by omega)) rfl ?_ ?_ ?_ | refine qaa (qaH rfl rfl (by omega)) rfl ?_ ?_ ?_ | refine qaa (qaO rfl rfl) rfl ?_ ?_ ?_); rfl; rfl) | (refine l_neq ?_; (first | refine qaa (qaS rfl rfl (by omega)) rfl ?_ ?_ ?_ | refine qaa (qaT rfl rfl (by omega)) rfl ?_ ?_ ?_ | refine qaa (qba rfl rfl) rfl ?_ ?_ ?_); rfl; rfl) | (refine l_not ?_; (first | refine qaa (qaK rfl) rfl ?_ ?_ ?_); rfl; rfl) | (refine l_sub ?_; (first | refine qaa (OpW.subi rfl rfl (by omega) (by omega)) rfl ?_ ?_ ?_ | refine qaa (OpW.sub rfl rfl) rfl ?_ ?_ ?_); rfl; rfl) | (refine qaz ?_; (first | refine qaa (qaq (by omega) rfl rfl) rfl ?_ ?_ ?_ | refine qaa (qat (by omega) rfl rfl) rfl ?_ ?_ ?_); rfl; rfl) | (refine qaZ ?_; refine SXl.alloc ?_ ?_ (fun g => ?_); rfl; rfl) | (refine qbb ?_; refine qaF ?_ ?_ rfl rfl (fun g => ?_); rfl; rfl) | (refine qaU ?_; first | ((first | refine qaf 0 ?_ rfl rfl rfl rfl rfl rfl rfl ?_ | refine qaf 1 ?_ rfl rfl rfl rfl rfl rfl rfl ?_ | refine qaf 2 ?_ rfl rfl rfl rfl rfl rfl rfl ?_); rfl; simp only [List.set_cons_zero, List.set_cons_succ]) | ((first | refine qae 0 ?_ rfl rfl rfl rfl rfl rfl rfl ?_ | refine qae 1 ?_ rfl rfl rfl rfl rfl rfl rfl ?_ | refine qae 2 ?_ rfl rfl rfl rfl rfl rfl rfl ?_); rfl; simp only [over, List.set_cons_zero, List.set_cons_succ])) | (refine qaY ?_; first | (refine SXl.lit1 ?_ ?_ rfl rfl rfl (fun g => ?_); rfl; rfl) | (refine SXl.lit0 ?_ ?_ (fun _ h => h) rfl (fun g => ?_); rfl; rfl)) | (refine l_append ?_; first | (refine qbc 0 0 rfl rfl rfl rfl rfl rfl rfl rfl (by omega) (by omega) (fun a c => ?_); simp only [List.set_cons_zero, List.set_cons_succ]) | (refine qbc 1 0 rfl rfl rfl rfl rfl rfl rfl rfl (by omega) (by omega) (fun a c => ?_); simp only [List.set_cons_zero, List.set_cons_succ])) | refine qaM ?_ | refine qaC ?_ | refine qar ?_ | refine qam ?_ | refine qag ?_ | refine qan ?_ | refine qal ?_ | refine qai rfl ?_)
    refine qaJ rfl rfl (fun w' hl => ⟨none, 0, rfl, World.ownsRow_nil _ _ _ _, hl.mod⟩)
  have e : treeLines l = upLines l l.length := by unfold treeLines; rw [hv]; rfl
  rw [e]
  rw [hv] at hT
  have hln := ok_len hv
  repeat (first | refine qaL ?_ | refine qaA ?_ | refine qau ?_ | refine qah ?_ | refine SX.block ?_ | refine qaB ?_ | refine qaw rfl ?_ | refine qax rfl ?_ | (refine qaR ?_; (first | refine qaa (qak rfl (fun w hl => hT _ hl.mod)) rfl ?_ ?_ ?_); rfl; rfl) | (refine qaN ?_; (first | refine qaa (qad 0 rfl rfl rfl) rfl ?_ ?_ ?_ | refine qaa (qad 1 rfl rfl rfl) rfl ?_ ?_ ?_ | refine qaa (qad 2 rfl rfl rfl) rfl ?_ ?_ ?_ | refine qaa (qad 3 rfl rfl rfl) rfl ?_ ?_ ?_ | refine qaa (qap rfl (by assumption) (fun h => h)) rfl ?_ ?_ ?_ | refine qaa (qac 0 rfl rfl rfl) rfl ?_ ?_ ?_ | refine qaa (qac 1 rfl rfl rfl) rfl ?_ ?_ ?_ | refine qaa (qac 2 rfl rfl rfl) rfl ?_ ?_ ?_ | refine qaa (qac 3 rfl rfl rfl) rfl ?_ ?_ ?_ | refine qaa (qab 0 rfl rfl rfl rfl) rfl ?_ ?_ ?_ | refine qaa (qab 1 rfl rfl rfl rfl) rfl ?_ ?_ ?_ | refine qaa (qab 2 rfl rfl rfl rfl) rfl ?_ ?_ ?_ | refine qaa (qab 3 rfl rfl rfl rfl) rfl ?_ ?_ ?_); rfl; rfl) | (refine qas ?_; (first | refine qaa (qaj rfl) rfl ?_ ?_ ?_); rfl; rfl) | (refine qaP ?_; (first | refine qaa (qav rfl) rfl ?_ ?_ ?_); rfl; rfl) | (refine qay ?_; (first | refine qaa (qao rfl) rfl ?_ ?_ ?_); rfl; rfl) | (refine l_len ?_; (first | refine qaa (qaQ rfl) rfl ?_ ?_ ?_); rfl; rfl) | (refine l_add ?_; (first | refine qaa (OpW.succ rfl rfl (by omega)) rfl ?_ ?_ ?_ | refine qaa (qaI rfl rfl (by omega) (by omega)) rfl ?_ ?_ ?_ | refine qaa (OpW.add rfl rfl) rfl ?_ ?_ ?_ | refine qaa (OpW.cat rfl rfl (by omega)) rfl ?_ ?_ ?_); rfl; rfl) | (refine l_lss ?_; (first | refine qaa (qaG rfl rfl (by omega)) rfl ?_ ?_ ?_ | refine qaa (qaH rfl rfl (by omega)) rfl ?_ ?_ ?_ | refine qaa (qaO rfl rfl) rfl ?_ ?_ ?_); rfl; rfl) | (refine l_neq ?_; (first | refine qaa (qaS rfl rfl (by omega)) rfl ?_ ?_ ?_ | refine qaa (qaT rfl rfl (by omega)) rfl ?_ ?_ ?_ | refine qaa (qba rfl rfl) rfl ?_ ?_ ?_); rfl; rfl) | (refine l_not ?_; (first | refine qaa (qaK rfl) rfl ?_ ?_ ?_); rfl; rfl) | (refine l_sub ?_; (first | refine qaa (OpW.subi rfl rfl (by omega) (by omega)) rfl ?_ ?_ ?_ | refine qaa (OpW.sub rfl rfl) rfl ?_ ?_ ?_); rfl; rfl) | (refine qaz ?_; (first | refine qaa (qaq (by omega) rfl rfl) rfl ?_ ?_ ?_ | refine qaa (qat (by omega) rfl rfl) rfl ?_ ?_ ?_); rfl; rfl) | (refine qaZ ?_; refine SXl.alloc ?_ ?_ (fun g => ?_); rfl; rfl) | (refine qbb ?_; refine qaF ?_ ?_ rfl rfl (fun g => ?_); rfl; rfl) | (refine qaU ?_; first | ((first | refine qaf 0 ?_ rfl rfl rfl rfl rfl rfl rfl ?_ | refine qaf 1 ?_ rfl rfl rfl rfl rfl rfl rfl ?_ | refine qaf 2 ?_ rfl rfl rfl rfl rfl rfl rfl ?_); rfl; simp only [List.set_cons_zero, List.set_cons_succ]) | ((first | refine qae 0 ?_ rfl rfl rfl rfl rfl rfl rfl ?_ | refine qae 1 ?_ rfl rfl rfl rfl rfl rfl rfl ?_ | refine qae 2 ?_ rfl rfl rfl rfl rfl rfl rfl ?_); rfl; simp only [over, List.set_cons_zero, List.set_cons_succ])) | (refine qaY ?_; first | (refine SXl.lit1 ?_ ?_ rfl rfl rfl (fun g => ?_); rfl; rfl) | (refine SXl.lit0 ?_ ?_ (fun _ h => h) rfl (fun g => ?_); rfl; rfl)) | (refine l_append ?_; first | (refine qbc 0 0 rfl rfl rfl rfl rfl rfl rfl rfl (by omega) (by omega) (fun a c => ?_); simp only [List.set_cons_zero, List.set_cons_succ]) | (refine qbc 1 0 rfl rfl rfl rfl rfl rfl rfl rfl (by omega) (by omega) (fun a c => ?_); simp only [List.set_cons_zero, List.set_cons_succ])) | refine qaM ?_ | refine qaC ?_ | refine qar ?_ | refine qam ?_ | refine qag ?_ | refine qan ?_ | refine qal ?_ | refine qai rfl ?_)
  revert g; intro gt
  refine SX.ownNil 9 1 ?_
  refine SX.loop3 (fun (k : Nat) (_ : Option Addr) (_ : Nat) => k ≤ l.length) (fun k _ _ => l.length - k) (fun _ _ _ => [⟨gt, [.slice a l.length c], 85⟩]) (fun k a' c' => [⟨.slice a' (upLines l k).length c', 9, 1, (upLines l k).length, ((upLines l k).map tcell).flatten⟩]) (fun _ _ _ => []) (fun k a' c' => [(1, .pointer (some ⟨gt, 0, none⟩)), (3, .slice a' (upLines l k).length c'), (13, .slice a l.length c), (14, .int .i64 l.length), (15, .int .i64 k)]) 0 none 0 (Nat.zero_le _) ?_ (fun _ hl => hl) ?_
  · (repeat (first | exact subF_nil _ | (refine subF_cons rfl ?_) | (refine subF_consv rfl (by rfl) ?_)))
  intro k a' c' hk
  by_cases hlt : k < l.length
  rotate_left
  · have hk' : k = l.length := by omega
    subst hk'
    repeat (first | refine qaL ?_ | refine qaA ?_ | refine qau ?_ | refine qah ?_ | refine SX.block ?_ | refine qaB ?_ | refine qaw rfl ?_ | refine qax rfl ?_ | (refine qaN ?_; (first | refine qaa (qad 0 rfl rfl rfl) rfl ?_ ?_ ?_ | refine qaa (qad 1 rfl rfl rfl) rfl ?_ ?_ ?_ | refine qaa (qad 2 rfl rfl rfl) rfl ?_ ?_ ?_ | refine qaa (qad 3 rfl rfl rfl) rfl ?_ ?_ ?_ | refine qaa (qap rfl (by assumption) (fun h => h)) rfl ?_ ?_ ?_ | refine qaa (qac 0 rfl rfl rfl) rfl ?_ ?_ ?_ | refine qaa (qac 1 rfl rfl rfl) rfl ?_ ?_ ?_ | refine qaa (qac 2 rfl rfl rfl) rfl ?_ ?_ ?_ | refine qaa (qac 3 rfl rfl rfl) rfl ?_ ?_ ?_ | refine qaa (qab 0 rfl rfl rfl rfl) rfl ?_ ?_ ?_ | refine qaa (qab 1 rfl rfl rfl rfl) rfl ?_ ?_ ?_ | refine qaa (qab 2 rfl rfl rfl rfl) rfl ?_ ?_ ?_ | refine qaa (qab 3 rfl rfl rfl rfl) rfl ?_ ?_ ?_); rfl; rfl) | (refine qas ?_; (first | refine qaa (qaj rfl) rfl ?_ ?_ ?_); rfl; rfl) | (refine qaP ?_; (first | refine qaa (qav rfl) rfl ?_ ?_ ?_); rfl; rfl) | (refine qay ?_; (first | refine qaa (qao rfl) rfl ?_ ?_ ?_); rfl; rfl) | (refine l_len ?_; (first | refine qaa (qaQ rfl) rfl ?_ ?_ ?_); rfl; rfl) | (refine l_add ?_; (first | refine qaa (OpW.succ rfl rfl (by omega)) rfl ?_ ?_ ?_ | refine qaa (qaI rfl rfl (by omega) (by omega)) rfl ?_ ?_ ?_ | refine qaa (OpW.add rfl rfl) rfl ?_ ?_ ?_ | refine qaa (OpW.cat rfl rfl (by omega)) rfl ?_ ?_ ?_); rfl; rfl) | (refine l_lss ?_; (first | refine qaa (qaG rfl rfl (by omega)) rfl ?_ ?_ ?_ | refine qaa (qaH rfl rfl (by omega)) rfl ?_ ?_ ?_ | refine qaa (qaO rfl rfl) rfl ?_ ?_ ?_); rfl; rfl) | (refine l_neq ?_; (first | refine qaa (qaS rfl rfl (by omega)) rfl ?_ ?_ ?_ | refine qaa (qaT rfl rfl (by omega)) rfl ?_ ?_ ?_ | refine qaa (qba rfl rfl) rfl ?_ ?_ ?_); rfl; rfl) | (refine l_not ?_; (first | refine qaa (qaK rfl) rfl ?_ ?_ ?_); rfl; rfl) | (refine l_sub ?_; (first | refine qaa (OpW.subi rfl rfl (by omega) (by omega)) rfl ?_ ?_ ?_ | refine qaa (OpW.sub rfl rfl) rfl ?_ ?_ ?_); rfl; rfl) | (refine qaz ?_; (first | refine qaa (qaq (by omega) rfl rfl) rfl ?_ ?_ ?_ | refine qaa (qat (by omega) rfl rfl) rfl ?_ ?_ ?_); rfl; rfl) | (refine qaZ ?_; refine SXl.alloc ?_ ?_ (fun g => ?_); rfl; rfl) | (refine qbb ?_; refine qaF ?_ ?_ rfl rfl (fun g => ?_); rfl; rfl) | (refine qaU ?_; first | ((first | refine qaf 0 ?_ rfl rfl rfl rfl rfl rfl rfl ?_ | refine qaf 1 ?_ rfl rfl rfl rfl rfl rfl rfl ?_ | refine qaf 2 ?_ rfl rfl rfl rfl rfl rfl rfl ?_); rfl; simp only [List.set_cons_zero, List.set_cons_succ]) | ((first | refine qae 0 ?_ rfl rfl rfl rfl rfl rfl rfl ?_ | refine qae 1 ?_ rfl rfl rfl rfl rfl rfl rfl ?_ | refine qae 2 ?_ rfl rfl rfl rfl rfl rfl rfl ?_); rfl; simp only [over, List.set_cons_zero, List.set_cons_succ])) | (refine qaY ?_; first | (refine SXl.lit1 ?_ ?_ rfl rfl rfl (fun g => ?_); rfl; rfl) | (refine SXl.lit0 ?_ ?_ (fun _ h => h) rfl (fun g => ?_); rfl; rfl)) | (refine l_append ?_; first | (refine qbc 0 0 rfl rfl rfl rfl rfl rfl rfl rfl (by omega) (by omega) (fun a c => ?_); simp only [List.set_cons_zero, List.set_cons_succ]) | (refine qbc 1 0 rfl rfl rfl rfl rfl rfl rfl rfl (by omega) (by omega) (fun a c => ?_); simp only [List.set_cons_zero, List.set_cons_succ])) | refine qaM ?_ | refine qaC ?_ | refine qar ?_ | refine qam ?_ | refine qag ?_ | refine qan ?_ | refine qal ?_ | refine qai rfl ?_)
    refine qaJ rfl rfl (fun w' hl => ⟨_, _, rfl, (hl.own _ List.mem_cons_self).1, hl.mod⟩)
  obtain ⟨b1, o1, ⟨up, kids, st, me, ru⟩, r1, rfl, hR1, hb1, hxk, hr1, hl1, hc1⟩ := h.get hlt
  obtain ⟨ka, kc, ra, rc, rfl, hk1, ht1, _⟩ := hr1
  replace hxk := hxk.out
  simp only at hc1
  by_cases hup : up = 0
  rotate_left
  · have hS : upLines l (k + 1) = upLines l k := by rw [upLines_succ, rootLines_no hxk hup, List.append_nil]
    repeat (first | refine qaL ?_ | refine qaA ?_ | refine qau ?_ | refine qah ?_ | refine SX.block ?_ | refine qaB ?_ | refine qaw rfl ?_ | refine qax rfl ?_ | (refine qaN ?_; (first | refine qaa (qaX rfl hc1 (nodeRow_len _ _ _ _ _ _ _ _ _) (Nat.succ_pos _) (fun h => h)) rfl ?_ ?_ ?_ | refine qaa (qad 0 rfl rfl rfl) rfl ?_ ?_ ?_ | refine qaa (qad 1 rfl rfl rfl) rfl ?_ ?_ ?_ | refine qaa (qad 2 rfl rfl rfl) rfl ?_ ?_ ?_ | refine qaa (qad 3 rfl rfl rfl) rfl ?_ ?_ ?_ | refine qaa (qap rfl (by assumption) (fun h => h)) rfl ?_ ?_ ?_ | refine qaa (qac 0 rfl rfl rfl) rfl ?_ ?_ ?_ | refine qaa (qac 1 rfl rfl rfl) rfl ?_ ?_ ?_ | refine qaa (qac 2 rfl rfl rfl) rfl ?_ ?_ ?_ | refine qaa (qac 3 rfl rfl rfl) rfl ?_ ?_ ?_ | refine qaa (qab 0 rfl rfl rfl rfl) rfl ?_ ?_ ?_ | refine qaa (qab 1 rfl rfl rfl rfl) rfl ?_ ?_ ?_ | refine qaa (qab 2 rfl rfl rfl rfl) rfl ?_ ?_ ?_ | refine qaa (qab 3 rfl rfl rfl rfl) rfl ?_ ?_ ?_); rfl; rfl) | (refine qas ?_; (first | refine qaa (qaj rfl) rfl ?_ ?_ ?_); rfl; rfl) | (refine qaP ?_; (first | refine qaa (qav rfl) rfl ?_ ?_ ?_); rfl; rfl) | (refine qay ?_; (first | refine qaa (qao rfl) rfl ?_ ?_ ?_); rfl; rfl) | (refine l_len ?_; (first | refine qaa (qaQ rfl) rfl ?_ ?_ ?_); rfl; rfl) | (refine l_add ?_; (first | refine qaa (OpW.succ rfl rfl (by omega)) rfl ?_ ?_ ?_ | refine qaa (qaI rfl rfl (by omega) (by omega)) rfl ?_ ?_ ?_ | refine qaa (OpW.add rfl rfl) rfl ?_ ?_ ?_ | refine qaa (OpW.cat rfl rfl (by omega)) rfl ?_ ?_ ?_); rfl; rfl) | (refine l_lss ?_; (first | refine qaa (qaG rfl rfl (by omega)) rfl ?_ ?_ ?_ | refine qaa (qaH rfl rfl (by omega)) rfl ?_ ?_ ?_ | refine qaa (qaO rfl rfl) rfl ?_ ?_ ?_); rfl; rfl) | (refine l_neq ?_; (first | refine qaa (qaS rfl rfl (by omega)) rfl ?_ ?_ ?_ | refine qaa (qaT rfl rfl (by omega)) rfl ?_ ?_ ?_ | refine qaa (qba rfl rfl) rfl ?_ ?_ ?_); rfl; rfl) | (refine l_not ?_; (first | refine qaa (qaK rfl) rfl ?_ ?_ ?_); rfl; rfl) | (refine l_sub ?_; (first | refine qaa (OpW.subi rfl rfl (by omega) (by omega)) rfl ?_ ?_ ?_ | refine qaa (OpW.sub rfl rfl) rfl ?_ ?_ ?_); rfl; rfl) | (refine qaz ?_; (first | refine qaa (qaq (by omega) rfl rfl) rfl ?_ ?_ ?_ | refine qaa (qat (by omega) rfl rfl) rfl ?_ ?_ ?_); rfl; rfl) | (refine qaZ ?_; refine SXl.alloc ?_ ?_ (fun g => ?_); rfl; rfl) | (refine qbb ?_; refine qaF ?_ ?_ rfl rfl (fun g => ?_); rfl; rfl) | (refine qaU ?_; first | ((first | refine qaf 0 ?_ rfl rfl rfl rfl rfl rfl rfl ?_ | refine qaf 1 ?_ rfl rfl rfl rfl rfl rfl rfl ?_ | refine qaf 2 ?_ rfl rfl rfl rfl rfl rfl rfl ?_); rfl; simp only [List.set_cons_zero, List.set_cons_succ]) | ((first | refine qae 0 ?_ rfl rfl rfl rfl rfl rfl rfl ?_ | refine qae 1 ?_ rfl rfl rfl rfl rfl rfl rfl ?_ | refine qae 2 ?_ rfl rfl rfl rfl rfl rfl rfl ?_); rfl; simp only [over, List.set_cons_zero, List.set_cons_succ])) | (refine qaY ?_; first | (refine SXl.lit1 ?_ ?_ rfl rfl rfl (fun g => ?_); rfl; rfl) | (refine SXl.lit0 ?_ ?_ (fun _ h => h) rfl (fun g => ?_); rfl; rfl)) | (refine l_append ?_; first | (refine qbc 0 0 rfl rfl rfl rfl rfl rfl rfl rfl (by omega) (by omega) (fun a c => ?_); simp only [List.set_cons_zero, List.set_cons_succ]) | (refine qbc 1 0 rfl rfl rfl rfl rfl rfl rfl rfl (by omega) (by omega) (fun a c => ?_); simp only [List.set_cons_zero, List.set_cons_succ])) | refine qaM ?_ | refine qaC ?_ | refine qar ?_ | refine qam ?_ | refine qag ?_ | refine qan ?_ | refine qal ?_ | refine qai rfl ?_)
    refine SQ.round3 (k + 1) a' c' (by omega) (by omega) ?_ (fun w hl => by rw [hS]; exact hl.drop1)
    (repeat (first | exact subF_nil _ | (refine subF_cons rfl ?_) | (refine subF_consv rfl (by rw [hS]) ?_)))
  have hS := partLines_all hxk hup
  have hne := allU_ne hv hxk
  have hUm := fun y hy => allU_mem hv hxk (y := y) hy
  have hUl := allU_len hv hxk
  have hd0 := (ok_node hv hxk).2.1
  have hPl := fun j => partLines_len (j := j) hv hxk
  repeat (first | refine qaL ?_ | refine qaA ?_ | refine qau ?_ | refine qah ?_ | refine SX.block ?_ | refine qaB ?_ | refine qaw rfl ?_ | refine qax rfl ?_ | (refine qaN ?_; (first | refine qaa (qaX rfl hc1 (nodeRow_len _ _ _ _ _ _ _ _ _) (Nat.succ_pos _) (fun h => h)) rfl ?_ ?_ ?_ | refine qaa (qad 0 rfl rfl rfl) rfl ?_ ?_ ?_ | refine qaa (qad 1 rfl rfl rfl) rfl ?_ ?_ ?_ | refine qaa (qad 2 rfl rfl rfl) rfl ?_ ?_ ?_ | refine qaa (qad 3 rfl rfl rfl) rfl ?_ ?_ ?_ | refine qaa (qap rfl (by assumption) (fun h => h)) rfl ?_ ?_ ?_ | refine qaa (qac 0 rfl rfl rfl) rfl ?_ ?_ ?_ | refine qaa (qac 1 rfl rfl rfl) rfl ?_ ?_ ?_ | refine qaa (qac 2 rfl rfl rfl) rfl ?_ ?_ ?_ | refine qaa (qac 3 rfl rfl rfl) rfl ?_ ?_ ?_ | refine qaa (qab 0 rfl rfl rfl rfl) rfl ?_ ?_ ?_ | refine qaa (qab 1 rfl rfl rfl rfl) rfl ?_ ?_ ?_ | refine qaa (qab 2 rfl rfl rfl rfl) rfl ?_ ?_ ?_ | refine qaa (qab 3 rfl rfl rfl rfl) rfl ?_ ?_ ?_); rfl; rfl) | (refine qas ?_; (first | refine qaa (qaj rfl) rfl ?_ ?_ ?_); rfl; rfl) | (refine qaP ?_; (first | refine qaa (qav rfl) rfl ?_ ?_ ?_); rfl; rfl) | (refine qay ?_; (first | refine qaa (qao rfl) rfl ?_ ?_ ?_); rfl; rfl) | (refine l_len ?_; (first | refine qaa (qaQ rfl) rfl ?_ ?_ ?_); rfl; rfl) | (refine l_add ?_; (first | refine qaa (OpW.succ rfl rfl (by omega)) rfl ?_ ?_ ?_ | refine qaa (qaI rfl rfl (by omega) (by omega)) rfl ?_ ?_ ?_ | refine qaa (OpW.add rfl rfl) rfl ?_ ?_ ?_ | refine qaa (OpW.cat rfl rfl (by omega)) rfl ?_ ?_ ?_); rfl; rfl) | (refine l_lss ?_; (first | refine qaa (qaG rfl rfl (by omega)) rfl ?_ ?_ ?_ | refine qaa (qaH rfl rfl (by omega)) rfl ?_ ?_ ?_ | refine qaa (qaO rfl rfl) rfl ?_ ?_ ?_); rfl; rfl) | (refine l_neq ?_; (first | refine qaa (qaS rfl rfl (by omega)) rfl ?_ ?_ ?_ | refine qaa (qaT rfl rfl (by omega)) rfl ?_ ?_ ?_ | refine qaa (qba rfl rfl) rfl ?_ ?_ ?_); rfl; rfl) | (refine l_not ?_; (first | refine qaa (qaK rfl) rfl ?_ ?_ ?_); rfl; rfl) | (refine l_sub ?_; (first | refine qaa (OpW.subi rfl rfl (by omega) (by omega)) rfl ?_ ?_ ?_ | refine qaa (OpW.sub rfl rfl) rfl ?_ ?_ ?_); rfl; rfl) | (refine qaz ?_; (first | refine qaa (qaq (by omega) rfl rfl) rfl ?_ ?_ ?_ | refine qaa (qat (by omega) rfl rfl) rfl ?_ ?_ ?_); rfl; rfl) | (refine qaZ ?_; refine SXl.alloc ?_ ?_ (fun g => ?_); rfl; rfl) | (refine qbb ?_; refine qaF ?_ ?_ rfl rfl (fun g => ?_); rfl; rfl) | (refine qaU ?_; first | ((first | refine qaf 0 ?_ rfl rfl rfl rfl rfl rfl rfl ?_ | refine qaf 1 ?_ rfl rfl rfl rfl rfl rfl rfl ?_ | refine qaf 2 ?_ rfl rfl rfl rfl rfl rfl rfl ?_); rfl; simp only [List.set_cons_zero, List.set_cons_succ]) | ((first | refine qae 0 ?_ rfl rfl rfl rfl rfl rfl rfl ?_ | refine qae 1 ?_ rfl rfl rfl rfl rfl rfl rfl ?_ | refine qae 2 ?_ rfl rfl rfl rfl rfl rfl rfl ?_); rfl; simp only [over, List.set_cons_zero, List.set_cons_succ])) | (refine qaY ?_; first | (refine SXl.lit1 ?_ ?_ rfl rfl rfl (fun g => ?_); rfl; rfl) | (refine SXl.lit0 ?_ ?_ (fun _ h => h) rfl (fun g => ?_); rfl; rfl)) | (refine l_append ?_; first | (refine qbc 0 0 rfl rfl rfl rfl rfl rfl rfl rfl (by omega) (by omega) (fun a c => ?_); simp only [List.set_cons_zero, List.set_cons_succ]) | (refine qbc 1 0 rfl rfl rfl rfl rfl rfl rfl rfl (by omega) (by omega) (fun a c => ?_); simp only [List.set_cons_zero, List.set_cons_succ])) | refine qaM ?_ | refine qaC ?_ | refine qar ?_ | refine qam ?_ | refine qag ?_ | refine qan ?_ | refine qal ?_ | refine qai rfl ?_)
  refine qaR ?_
  refine SXl.calln1 (v := fun p : Nat × Nat => .slice (some ⟨p.1, 0, none⟩) (allU l ((k + 1 : Nat) : Int)).length p.2) (F1 := rowsRes icell 1 (allU l ((k + 1 : Nat) : Int))) rfl rfl rfl (fun w hl => (allUnder_any l o _ c R hv (5 - dep l ((k + 1 : Nat) : Int)).toNat k _ w hxk (by omega) (h.keep hl.mod)).mono fun _ _ h => rows_of hne icell_len h) (fun p => ?_)
  have hP0 : partLines l k 0 = upLines l k := by unfold partLines; simp
  generalize hUe : allU l ((k + 1 : Nat) : Int) = U at hS hne hUm hUl
  repeat (first | refine qaL ?_ | refine qaA ?_ | refine qau ?_ | refine qah ?_ | refine SX.block ?_ | refine qaB ?_ | refine qaw rfl ?_ | refine qax rfl ?_ | (refine qaN ?_; (first | refine qaa (qad 0 rfl rfl rfl) rfl ?_ ?_ ?_ | refine qaa (qad 1 rfl rfl rfl) rfl ?_ ?_ ?_ | refine qaa (qad 2 rfl rfl rfl) rfl ?_ ?_ ?_ | refine qaa (qad 3 rfl rfl rfl) rfl ?_ ?_ ?_ | refine qaa (qap rfl (by assumption) (fun h => h)) rfl ?_ ?_ ?_ | refine qaa (qac 0 rfl rfl rfl) rfl ?_ ?_ ?_ | refine qaa (qac 1 rfl rfl rfl) rfl ?_ ?_ ?_ | refine qaa (qac 2 rfl rfl rfl) rfl ?_ ?_ ?_ | refine qaa (qac 3 rfl rfl rfl) rfl ?_ ?_ ?_ | refine qaa (qab 0 rfl rfl rfl rfl) rfl ?_ ?_ ?_ | refine qaa (qab 1 rfl rfl rfl rfl) rfl ?_ ?_ ?_ | refine qaa (qab 2 rfl rfl rfl rfl) rfl ?_ ?_ ?_ | refine qaa (qab 3 rfl rfl rfl rfl) rfl ?_ ?_ ?_); rfl; rfl) | (refine qas ?_; (first | refine qaa (qaj rfl) rfl ?_ ?_ ?_); rfl; rfl) | (refine qaP ?_; (first | refine qaa (qav rfl) rfl ?_ ?_ ?_); rfl; rfl) | (refine qay ?_; (first | refine qaa (qao rfl) rfl ?_ ?_ ?_); rfl; rfl) | (refine l_len ?_; (first | refine qaa (qaQ rfl) rfl ?_ ?_ ?_); rfl; rfl) | (refine l_add ?_; (first | refine qaa (OpW.succ rfl rfl (by omega)) rfl ?_ ?_ ?_ | refine qaa (qaI rfl rfl (by omega) (by omega)) rfl ?_ ?_ ?_ | refine qaa (OpW.add rfl rfl) rfl ?_ ?_ ?_ | refine qaa (OpW.cat rfl rfl (by omega)) rfl ?_ ?_ ?_); rfl; rfl) | (refine l_lss ?_; (first | refine qaa (qaG rfl rfl (by omega)) rfl ?_ ?_ ?_ | refine qaa (qaH rfl rfl (by omega)) rfl ?_ ?_ ?_ | refine qaa (qaO rfl rfl) rfl ?_ ?_ ?_); rfl; rfl) | (refine l_neq ?_; (first | refine qaa (qaS rfl rfl (by omega)) rfl ?_ ?_ ?_ | refine qaa (qaT rfl rfl (by omega)) rfl ?_ ?_ ?_ | refine qaa (qba rfl rfl) rfl ?_ ?_ ?_); rfl; rfl) | (refine l_not ?_; (first | refine qaa (qaK rfl) rfl ?_ ?_ ?_); rfl; rfl) | (refine l_sub ?_; (first | refine qaa (OpW.subi rfl rfl (by omega) (by omega)) rfl ?_ ?_ ?_ | refine qaa (OpW.sub rfl rfl) rfl ?_ ?_ ?_); rfl; rfl) | (refine qaz ?_; (first | refine qaa (qaq (by omega) rfl rfl) rfl ?_ ?_ ?_ | refine qaa (qat (by omega) rfl rfl) rfl ?_ ?_ ?_); rfl; rfl) | (refine qaZ ?_; refine SXl.alloc ?_ ?_ (fun g => ?_); rfl; rfl) | (refine qbb ?_; refine qaF ?_ ?_ rfl rfl (fun g => ?_); rfl; rfl) | (refine qaU ?_; first | ((first | refine qaf 0 ?_ rfl rfl rfl rfl rfl rfl rfl ?_ | refine qaf 1 ?_ rfl rfl rfl rfl rfl rfl rfl ?_ | refine qaf 2 ?_ rfl rfl rfl rfl rfl rfl rfl ?_); rfl; simp only [List.set_cons_zero, List.set_cons_succ]) | ((first | refine qae 0 ?_ rfl rfl rfl rfl rfl rfl rfl ?_ | refine qae 1 ?_ rfl rfl rfl rfl rfl rfl rfl ?_ | refine qae 2 ?_ rfl rfl rfl rfl rfl rfl rfl ?_); rfl; simp only [over, List.set_cons_zero, List.set_cons_succ])) | (refine qaY ?_; first | (refine SXl.lit1 ?_ ?_ rfl rfl rfl (fun g => ?_); rfl; rfl) | (refine SXl.lit0 ?_ ?_ (fun _ h => h) rfl (fun g => ?_); rfl; rfl)) | (refine l_append ?_; first | (refine qbc 0 0 rfl rfl rfl rfl rfl rfl rfl rfl (by omega) (by omega) (fun a c => ?_); simp only [List.set_cons_zero, List.set_cons_succ]) | (refine qbc 1 0 rfl rfl rfl rfl rfl rfl rfl rfl (by omega) (by omega) (fun a c => ?_); simp only [List.set_cons_zero, List.set_cons_succ])) | refine qaM ?_ | refine qaC ?_ | refine qar ?_ | refine qam ?_ | refine qag ?_ | refine qan ?_ | refine qal ?_ | refine qai rfl ?_)
  revert g; intro g5
  refine SX.loop3 (fun (j : Nat) (_ : Option Addr) (_ : Nat) => j ≤ U.length) (fun j _ _ => U.length - j) (fun _ _ _ => [⟨g5, nodeRow up ka kids.length kc st me ra ru.length rc, 144⟩, ⟨gt, [.slice (some ⟨b1, o1, none⟩) l.length c], 85⟩]) (fun j a' c' => [⟨.slice a' (partLines l k j).length c', 9, 1, (partLines l k j).length, ((partLines l k j).map tcell).flatten⟩]) (fun _ _ _ => [rowsRes icell 1 U p]) (fun j a' c' => [(1, .pointer (some ⟨gt, 0, none⟩)), (3, .slice a' (partLines l k j).length c'), (13, .slice (some ⟨b1, o1, none⟩) l.length c), (14, .int .i64 l.length), (15, .int .i64 k), (26, .slice (some ⟨p.1, 0, none⟩) U.length p.2), (27, .int .i64 U.length), (28, .int .i64 j)]) 0 a' c' (Nat.zero_le _) ?_ (fun _ hl => by rw [hP0]; exact hl) ?_
  · (repeat (first | exact subF_nil _ | (refine subF_cons rfl ?_) | (refine subF_consv rfl (by rw [hP0]) ?_)))
  clear hP0
  intro j a2 c2 hj
  have hPj := hPl j
  by_cases hjl : j < U.length
  rotate_left
  · have hj' : j = U.length := by omega
    subst hj'
    repeat (first | refine qaL ?_ | refine qaA ?_ | refine qau ?_ | refine qah ?_ | refine SX.block ?_ | refine qaB ?_ | refine qaw rfl ?_ | refine qax rfl ?_ | (refine qaN ?_; (first | refine qaa (qad 0 rfl rfl rfl) rfl ?_ ?_ ?_ | refine qaa (qad 1 rfl rfl rfl) rfl ?_ ?_ ?_ | refine qaa (qad 2 rfl rfl rfl) rfl ?_ ?_ ?_ | refine qaa (qad 3 rfl rfl rfl) rfl ?_ ?_ ?_ | refine qaa (qap rfl (by assumption) (fun h => h)) rfl ?_ ?_ ?_ | refine qaa (qac 0 rfl rfl rfl) rfl ?_ ?_ ?_ | refine qaa (qac 1 rfl rfl rfl) rfl ?_ ?_ ?_ | refine qaa (qac 2 rfl rfl rfl) rfl ?_ ?_ ?_ | refine qaa (qac 3 rfl rfl rfl) rfl ?_ ?_ ?_ | refine qaa (qab 0 rfl rfl rfl rfl) rfl ?_ ?_ ?_ | refine qaa (qab 1 rfl rfl rfl rfl) rfl ?_ ?_ ?_ | refine qaa (qab 2 rfl rfl rfl rfl) rfl ?_ ?_ ?_ | refine qaa (qab 3 rfl rfl rfl rfl) rfl ?_ ?_ ?_); rfl; rfl) | (refine qas ?_; (first | refine qaa (qaj rfl) rfl ?_ ?_ ?_); rfl; rfl) | (refine qaP ?_; (first | refine qaa (qav rfl) rfl ?_ ?_ ?_); rfl; rfl) | (refine qay ?_; (first | refine qaa (qao rfl) rfl ?_ ?_ ?_); rfl; rfl) | (refine l_len ?_; (first | refine qaa (qaQ rfl) rfl ?_ ?_ ?_); rfl; rfl) | (refine l_add ?_; (first | refine qaa (OpW.succ rfl rfl (by omega)) rfl ?_ ?_ ?_ | refine qaa (qaI rfl rfl (by omega) (by omega)) rfl ?_ ?_ ?_ | refine qaa (OpW.add rfl rfl) rfl ?_ ?_ ?_ | refine qaa (OpW.cat rfl rfl (by omega)) rfl ?_ ?_ ?_); rfl; rfl) | (refine l_lss ?_; (first | refine qaa (qaG rfl rfl (by omega)) rfl ?_ ?_ ?_ | refine qaa (qaH rfl rfl (by omega)) rfl ?_ ?_ ?_ | refine qaa (qaO rfl rfl) rfl ?_ ?_ ?_); rfl; rfl) | (refine l_neq ?_; (first | refine qaa (qaS rfl rfl (by omega)) rfl ?_ ?_ ?_ | refine qaa (qaT rfl rfl (by omega)) rfl ?_ ?_ ?_ | refine qaa (qba rfl rfl) rfl ?_ ?_ ?_); rfl; rfl) | (refine l_not ?_; (first | refine qaa (qaK rfl) rfl ?_ ?_ ?_); rfl; rfl) | (refine l_sub ?_; (first | refine qaa (OpW.subi rfl rfl (by omega) (by omega)) rfl ?_ ?_ ?_ | refine qaa (OpW.sub rfl rfl) rfl ?_ ?_ ?_); rfl; rfl) | (refine qaz ?_; (first | refine qaa (qaq (by omega) rfl rfl) rfl ?_ ?_ ?_ | refine qaa (qat (by omega) rfl rfl) rfl ?_ ?_ ?_); rfl; rfl) | (refine qaZ ?_; refine SXl.alloc ?_ ?_ (fun g => ?_); rfl; rfl) | (refine qbb ?_; refine qaF ?_ ?_ rfl rfl (fun g => ?_); rfl; rfl) | (refine qaU ?_; first | ((first | refine qaf 0 ?_ rfl rfl rfl rfl rfl rfl rfl ?_ | refine qaf 1 ?_ rfl rfl rfl rfl rfl rfl rfl ?_ | refine qaf 2 ?_ rfl rfl rfl rfl rfl rfl rfl ?_); rfl; simp only [List.set_cons_zero, List.set_cons_succ]) | ((first | refine qae 0 ?_ rfl rfl rfl rfl rfl rfl rfl ?_ | refine qae 1 ?_ rfl rfl rfl rfl rfl rfl rfl ?_ | refine qae 2 ?_ rfl rfl rfl rfl rfl rfl rfl ?_); rfl; simp only [over, List.set_cons_zero, List.set_cons_succ])) | (refine qaY ?_; first | (refine SXl.lit1 ?_ ?_ rfl rfl rfl (fun g => ?_); rfl; rfl) | (refine SXl.lit0 ?_ ?_ (fun _ h => h) rfl (fun g => ?_); rfl; rfl)) | (refine l_append ?_; first | (refine qbc 0 0 rfl rfl rfl rfl rfl rfl rfl rfl (by omega) (by omega) (fun a c => ?_); simp only [List.set_cons_zero, List.set_cons_succ]) | (refine qbc 1 0 rfl rfl rfl rfl rfl rfl rfl rfl (by omega) (by omega) (fun a c => ?_); simp only [List.set_cons_zero, List.set_cons_succ])) | refine qaM ?_ | refine qaC ?_ | refine qar ?_ | refine qam ?_ | refine qag ?_ | refine qan ?_ | refine qal ?_ | refine qai rfl ?_)
    refine SQ.round3 (k + 1) a2 c2 (by omega) (by omega) ?_ (fun w hl => by rw [← hS]; exact hl.dropE.drop1)
    (repeat (first | exact subF_nil _ | (refine subF_cons rfl ?_) | (refine subF_consv rfl (by rw [← hS]) ?_)))
  obtain ⟨y, hy⟩ : ∃ y, U[j]? = some y := ⟨_, List.getElem?_eq_getElem hjl⟩
  obtain ⟨ky, z, rfl, hz⟩ := hUm y (List.mem_of_getElem? hy)
  have hcell := ints_at (p := p) hy
  have hzd := (ok_node hv hz).2.1
  have hky := (List.getElem?_eq_some_iff.1 hz).1
  obtain ⟨b2, o2, z', r2, e2, hR2, hb2, hzk, hr2, hl2, hc2⟩ := h.get hky
  obtain ⟨rfl, rfl⟩ : b1 = b2 ∧ o1 = o2 := by simpa using e2
  obtain rfl : z' = z := Option.some.inj (hzk.out.symm.trans hz)
  obtain ⟨kb, kd, rb, rd, rfl, _, _, _⟩ := hr2
  have hD := fun w' (hm : Mod (fun _ => False) w w') => depthOf_any l ((ky + 1 : Nat) : Int) o _ c R w' (by omega) (h.keep hm)
  rw [show depthF l (l.length + 1) ((ky + 1 : Nat) : Int) 0 = dep l ((ky + 1 : Nat) : Int) from rfl] at hD
  have hRp := fun w => repeat_any (dep l ((ky + 1 : Nat) : Int) - 1).toNat (by omega) w
  rw [show (((dep l ((ky + 1 : Nat) : Int) - 1).toNat : Nat) : Int) = dep l ((ky + 1 : Nat) : Int) - 1 by omega] at hRp
  have hDe := fun w h => decimal_any ((ky + 1 : Nat) : Int) ⟨by omega, by omega⟩ w h
  have hil := Lib.itoa_length_le ((ky + 1 : Nat) : Int) (by omega) (by omega)
  have hnl : nodeLine l ((ky + 1 : Nat) : Int) = (List.replicate (dep l ((ky + 1 : Nat) : Int) - 1).toNat 32 ++ Lib.itoa ((ky + 1 : Nat) : Int)) ++ (if z'.measured then [32, 42] else []) := by unfold nodeLine; rw [nodeAt_of hz]
  have hrl : (List.replicate (dep l ((ky + 1 : Nat) : Int) - 1).toNat (32 : UInt8)).length ≤ 3 := by rw [List.length_replicate]; omega
  rw [← hUe] at hy
  have hS2 := partLines_succ hy
  rw [hUe] at hy
  generalize dep l ((ky + 1 : Nat) : Int) = dd at *
  generalize List.replicate (dd - 1).toNat (32 : UInt8) = bl at *
  cases hme : z'.measured
  · rw [hnl, hme, if_neg (by decide), List.append_nil] at hS2
    repeat (first | refine qaL ?_ | refine qaA ?_ | refine qau ?_ | refine qah ?_ | refine SX.block ?_ | refine qaB ?_ | refine qaw rfl ?_ | refine qax rfl ?_ | (refine qaN ?_; (first | refine qaa (OpW.loadRes (F := rowsRes icell 1 U p) (.head _) rfl hcell) rfl ?_ ?_ ?_ | refine qaa (qad 0 rfl rfl rfl) rfl ?_ ?_ ?_ | refine qaa (qad 1 rfl rfl rfl) rfl ?_ ?_ ?_ | refine qaa (qad 2 rfl rfl rfl) rfl ?_ ?_ ?_ | refine qaa (qad 3 rfl rfl rfl) rfl ?_ ?_ ?_ | refine qaa (qap rfl (by assumption) (fun h => h)) rfl ?_ ?_ ?_ | refine qaa (qac 0 rfl rfl rfl) rfl ?_ ?_ ?_ | refine qaa (qac 1 rfl rfl rfl) rfl ?_ ?_ ?_ | refine qaa (qac 2 rfl rfl rfl) rfl ?_ ?_ ?_ | refine qaa (qac 3 rfl rfl rfl) rfl ?_ ?_ ?_ | refine qaa (qab 0 rfl rfl rfl rfl) rfl ?_ ?_ ?_ | refine qaa (qab 1 rfl rfl rfl rfl) rfl ?_ ?_ ?_ | refine qaa (qab 2 rfl rfl rfl rfl) rfl ?_ ?_ ?_ | refine qaa (qab 3 rfl rfl rfl rfl) rfl ?_ ?_ ?_); rfl; rfl) | (refine qaR ?_; (first | refine qaa (qak rfl (fun w hl => hD _ hl.mod)) rfl ?_ ?_ ?_ | refine qaa (qak rfl (fun w hl => hRp _)) rfl ?_ ?_ ?_ | refine qaa (qak rfl (fun w hl => hDe _ (ht.keep hl.mod))) rfl ?_ ?_ ?_ | refine qaa (qak rfl (fun w hl => node_any _ _ _ _ ky _ _ _ _ _ _ _ _ _ w (by omega) hky (fun j v hv => hl.old (hc2 j v hv) (fun h => h)))) rfl ?_ ?_ ?_); rfl; rfl) | (refine l_field ?_; (first | refine qaa (OpW.field rfl ((nodeRow_a62 _ _ _ _ _ _ _ _ _).trans (by rw [hme]))) rfl ?_ ?_ ?_); rfl; rfl) | (refine qas ?_; (first | refine qaa (qaj rfl) rfl ?_ ?_ ?_); rfl; rfl) | (refine qaP ?_; (first | refine qaa (qav rfl) rfl ?_ ?_ ?_); rfl; rfl) | (refine qay ?_; (first | refine qaa (qao rfl) rfl ?_ ?_ ?_); rfl; rfl) | (refine l_len ?_; (first | refine qaa (qaQ rfl) rfl ?_ ?_ ?_); rfl; rfl) | (refine l_add ?_; (first | refine qaa (OpW.succ rfl rfl (by omega)) rfl ?_ ?_ ?_ | refine qaa (qaI rfl rfl (by omega) (by omega)) rfl ?_ ?_ ?_ | refine qaa (OpW.add rfl rfl) rfl ?_ ?_ ?_ | refine qaa (OpW.cat rfl rfl (by omega)) rfl ?_ ?_ ?_); rfl; rfl) | (refine l_lss ?_; (first | refine qaa (qaG rfl rfl (by omega)) rfl ?_ ?_ ?_ | refine qaa (qaH rfl rfl (by omega)) rfl ?_ ?_ ?_ | refine qaa (qaO rfl rfl) rfl ?_ ?_ ?_); rfl; rfl) | (refine l_neq ?_; (first | refine qaa (qaS rfl rfl (by omega)) rfl ?_ ?_ ?_ | refine qaa (qaT rfl rfl (by omega)) rfl ?_ ?_ ?_ | refine qaa (qba rfl rfl) rfl ?_ ?_ ?_); rfl; rfl) | (refine l_not ?_; (first | refine qaa (qaK rfl) rfl ?_ ?_ ?_); rfl; rfl) | (refine l_sub ?_; (first | refine qaa (OpW.subi rfl rfl (by omega) (by omega)) rfl ?_ ?_ ?_ | refine qaa (OpW.sub rfl rfl) rfl ?_ ?_ ?_); rfl; rfl) | (refine qaz ?_; (first | refine qaa (qaq (by omega) rfl rfl) rfl ?_ ?_ ?_ | refine qaa (qat (by omega) rfl rfl) rfl ?_ ?_ ?_); rfl; rfl) | (refine qaZ ?_; refine SXl.alloc ?_ ?_ (fun g => ?_); rfl; rfl) | (refine qbb ?_; refine qaF ?_ ?_ rfl rfl (fun g => ?_); rfl; rfl) | (refine qaU ?_; first | ((first | refine qaf 0 ?_ rfl rfl rfl rfl rfl rfl rfl ?_ | refine qaf 1 ?_ rfl rfl rfl rfl rfl rfl rfl ?_ | refine qaf 2 ?_ rfl rfl rfl rfl rfl rfl rfl ?_); rfl; simp only [List.set_cons_zero, List.set_cons_succ]) | ((first | refine qae 0 ?_ rfl rfl rfl rfl rfl rfl rfl ?_ | refine qae 1 ?_ rfl rfl rfl rfl rfl rfl rfl ?_ | refine qae 2 ?_ rfl rfl rfl rfl rfl rfl rfl ?_); rfl; simp only [over, List.set_cons_zero, List.set_cons_succ])) | (refine qaY ?_; first | (refine SXl.lit1 ?_ ?_ rfl rfl rfl (fun g => ?_); rfl; rfl) | (refine SXl.lit0 ?_ ?_ (fun _ h => h) rfl (fun g => ?_); rfl; rfl)) | (refine l_append ?_; first | (refine qbc 0 0 rfl rfl rfl rfl rfl rfl rfl rfl (by omega) (by omega) (fun a c => ?_); simp only [List.set_cons_zero, List.set_cons_succ]) | (refine qbc 1 0 rfl rfl rfl rfl rfl rfl rfl rfl (by omega) (by omega) (fun a c => ?_); simp only [List.set_cons_zero, List.set_cons_succ])) | refine qaM ?_ | refine qaC ?_ | refine qar ?_ | refine qam ?_ | refine qag ?_ | refine qan ?_ | refine qal ?_ | refine qai rfl ?_)
    refine SQ.round3 (j + 1) _ _ (by omega) (by omega) ?_ (fun w hl => by rw [hS2, List.length_append, List.map_append, List.flatten_append]; exact hl.drop1)
    (repeat (first | exact subF_nil _ | (refine subF_cons rfl ?_) | (refine subF_consv rfl (by rw [hS2, List.length_append]; rfl) ?_)))
  · rw [hnl, hme, if_pos rfl] at hS2
    repeat (first | refine qaL ?_ | refine qaA ?_ | refine qau ?_ | refine qah ?_ | refine SX.block ?_ | refine qaB ?_ | refine qaw rfl ?_ | refine qax rfl ?_ | (refine qaN ?_; (first | refine qaa (OpW.loadRes (F := rowsRes icell 1 U p) (.head _) rfl hcell) rfl ?_ ?_ ?_ | refine qaa (qad 0 rfl rfl rfl) rfl ?_ ?_ ?_ | refine qaa (qad 1 rfl rfl rfl) rfl ?_ ?_ ?_ | refine qaa (qad 2 rfl rfl rfl) rfl ?_ ?_ ?_ | refine qaa (qad 3 rfl rfl rfl) rfl ?_ ?_ ?_ | refine qaa (qap rfl (by assumption) (fun h => h)) rfl ?_ ?_ ?_ | refine qaa (qac 0 rfl rfl rfl) rfl ?_ ?_ ?_ | refine qaa (qac 1 rfl rfl rfl) rfl ?_ ?_ ?_ | refine qaa (qac 2 rfl rfl rfl) rfl ?_ ?_ ?_ | refine qaa (qac 3 rfl rfl rfl) rfl ?_ ?_ ?_ | refine qaa (qab 0 rfl rfl rfl rfl) rfl ?_ ?_ ?_ | refine qaa (qab 1 rfl rfl rfl rfl) rfl ?_ ?_ ?_ | refine qaa (qab 2 rfl rfl rfl rfl) rfl ?_ ?_ ?_ | refine qaa (qab 3 rfl rfl rfl rfl) rfl ?_ ?_ ?_); rfl; rfl) | (refine qaR ?_; (first | refine qaa (qak rfl (fun w hl => hD _ hl.mod)) rfl ?_ ?_ ?_ | refine qaa (qak rfl (fun w hl => hRp _)) rfl ?_ ?_ ?_ | refine qaa (qak rfl (fun w hl => hDe _ (ht.keep hl.mod))) rfl ?_ ?_ ?_ | refine qaa (qak rfl (fun w hl => node_any _ _ _ _ ky _ _ _ _ _ _ _ _ _ w (by omega) hky (fun j v hv => hl.old (hc2 j v hv) (fun h => h)))) rfl ?_ ?_ ?_); rfl; rfl) | (refine l_field ?_; (first | refine qaa (OpW.field rfl ((nodeRow_a62 _ _ _ _ _ _ _ _ _).trans (by rw [hme]))) rfl ?_ ?_ ?_); rfl; rfl) | (refine l_add ?_; (first | refine qaa ((OpW.cat (b := [32, 42]) rfl rfl (by simp only [List.length_append, List.length_cons, List.length_nil]; omega))) rfl ?_ ?_ ?_ | refine qaa (OpW.succ rfl rfl (by omega)) rfl ?_ ?_ ?_ | refine qaa (qaI rfl rfl (by omega) (by omega)) rfl ?_ ?_ ?_ | refine qaa (OpW.add rfl rfl) rfl ?_ ?_ ?_ | refine qaa (OpW.cat rfl rfl (by omega)) rfl ?_ ?_ ?_); rfl; rfl) | (refine qas ?_; (first | refine qaa (qaj rfl) rfl ?_ ?_ ?_); rfl; rfl) | (refine qaP ?_; (first | refine qaa (qav rfl) rfl ?_ ?_ ?_); rfl; rfl) | (refine qay ?_; (first | refine qaa (qao rfl) rfl ?_ ?_ ?_); rfl; rfl) | (refine l_len ?_; (first | refine qaa (qaQ rfl) rfl ?_ ?_ ?_); rfl; rfl) | (refine l_lss ?_; (first | refine qaa (qaG rfl rfl (by omega)) rfl ?_ ?_ ?_ | refine qaa (qaH rfl rfl (by omega)) rfl ?_ ?_ ?_ | refine qaa (qaO rfl rfl) rfl ?_ ?_ ?_); rfl; rfl) | (refine l_neq ?_; (first | refine qaa (qaS rfl rfl (by omega)) rfl ?_ ?_ ?_ | refine qaa (qaT rfl rfl (by omega)) rfl ?_ ?_ ?_ | refine qaa (qba rfl rfl) rfl ?_ ?_ ?_); rfl; rfl) | (refine l_not ?_; (first | refine qaa (qaK rfl) rfl ?_ ?_ ?_); rfl; rfl) | (refine l_sub ?_; (first | refine qaa (OpW.subi rfl rfl (by omega) (by omega)) rfl ?_ ?_ ?_ | refine qaa (OpW.sub rfl rfl) rfl ?_ ?_ ?_); rfl; rfl) | (refine qaz ?_; (first | refine qaa (qaq (by omega) rfl rfl) rfl ?_ ?_ ?_ | refine qaa (qat (by omega) rfl rfl) rfl ?_ ?_ ?_); rfl; rfl) | (refine qaZ ?_; refine SXl.alloc ?_ ?_ (fun g => ?_); rfl; rfl) | (refine qbb ?_; refine qaF ?_ ?_ rfl rfl (fun g => ?_); rfl; rfl) | (refine qaU ?_; first | ((first | refine qaf 0 ?_ rfl rfl rfl rfl rfl rfl rfl ?_ | refine qaf 1 ?_ rfl rfl rfl rfl rfl rfl rfl ?_ | refine qaf 2 ?_ rfl rfl rfl rfl rfl rfl rfl ?_); rfl; simp only [List.set_cons_zero, List.set_cons_succ]) | ((first | refine qae 0 ?_ rfl rfl rfl rfl rfl rfl rfl ?_ | refine qae 1 ?_ rfl rfl rfl rfl rfl rfl rfl ?_ | refine qae 2 ?_ rfl rfl rfl rfl rfl rfl rfl ?_); rfl; simp only [over, List.set_cons_zero, List.set_cons_succ])) | (refine qaY ?_; first | (refine SXl.lit1 ?_ ?_ rfl rfl rfl (fun g => ?_); rfl; rfl) | (refine SXl.lit0 ?_ ?_ (fun _ h => h) rfl (fun g => ?_); rfl; rfl)) | (refine l_append ?_; first | (refine qbc 0 0 rfl rfl rfl rfl rfl rfl rfl rfl (by omega) (by omega) (fun a c => ?_); simp only [List.set_cons_zero, List.set_cons_succ]) | (refine qbc 1 0 rfl rfl rfl rfl rfl rfl rfl rfl (by omega) (by omega) (fun a c => ?_); simp only [List.set_cons_zero, List.set_cons_succ])) | refine qaM ?_ | refine qaC ?_ | refine qar ?_ | refine qam ?_ | refine qag ?_ | refine qan ?_ | refine qal ?_ | refine qai rfl ?_)
    refine SQ.round3 (j + 1) _ _ (by omega) (by omega) ?_ (fun w hl => by rw [hS2, List.length_append, List.map_append, List.flatten_append]; exact hl.drop1)
    (repeat (first | exact subF_nil _ | (refine subF_cons rfl ?_) | (refine subF_consv rfl (by rw [hS2, List.length_append]; rfl) ?_)))

set_option maxRecDepth 100000 in
set_option maxHeartbeats 16000000 in
theorem streeLines_any (l : List Node) (o : Bool) (a : Option Addr) (c : Nat) (R : Nat → Prop) (w : World) (hlen : l.length ≤ 1048576) (hfit : ∀ x ∈ l, x.fits 1048576) (h : NodeSlice o R w a l) :
    Calls Tryd.prog 39 #[.agg #[.slice a l.length c]] w (NewSlice 9 1 w (treeLines l).length ((treeLines l).map tcell).flatten) := by
  refine calls_sx Tryd.func39 rfl rfl (fun a h1 h2 h3 => ((Fr.nil h1 h2).arg (h3 0 _ rfl))) ?_
  have hT := fun w' (hm : Mod (fun _ => False) w w') => streeOk_any l o a c R w' hlen hfit (h.keep hm)
  cases hv : treeOk l
  · have e : treeLines l = [] := by unfold treeLines; rw [hv]; rfl
    rw [e]
    rw [hv] at hT
    repeat (first | refine qaL ?_ | refine qaA ?_ | refine qau ?_ | refine qah ?_ | refine SX.block ?_ | refine qaB ?_ | refine qaw rfl ?_ | refine qax rfl ?_ | (refine qaR ?_; (first | refine qaa (qak rfl (fun w hl => hT _ hl.mod)) rfl ?_ ?_ ?_); rfl; rfl) | (refine qaN ?_; (first | refine qaa (qad 0 rfl rfl rfl) rfl ?_ ?_ ?_ | refine qaa (qad 1 rfl rfl rfl) rfl ?_ ?_ ?_ | refine qaa (qad 2 rfl rfl rfl) rfl ?_ ?_ ?_ | refine qaa (qad 3 rfl rfl rfl) rfl ?_ ?_ ?_ | refine qaa (qap rfl (by assumption) (fun h => h)) rfl ?_ ?_ ?_ | refine qaa (qac 0 rfl rfl rfl) rfl ?_ ?_ ?_ | refine qaa (qac 1 rfl rfl rfl) rfl ?_ ?_ ?_ | refine qaa (qac 2 rfl rfl rfl) rfl ?_ ?_ ?_ | refine qaa (qac 3 rfl rfl rfl) rfl ?_ ?_ ?_ | refine qaa (qab 0 rfl rfl rfl rfl) rfl ?_ ?_ ?_ | refine qaa (qab 1 rfl rfl rfl rfl) rfl ?_ ?_ ?_ | refine qaa (qab 2 rfl rfl rfl rfl) rfl ?_ ?_ ?_ | refine qaa (qab 3 rfl rfl rfl rfl) rfl ?_ ?_ ?_); rfl; rfl) | (refine qas ?_; (first | refine qaa (qaj rfl) rfl ?_ ?_ ?_); rfl; rfl) | (refine qaP ?_; (first | refine qaa (qav rfl) rfl ?_ ?_ ?_); rfl; rfl) | (refine qay ?_; (first | refine qaa (qao rfl) rfl ?_ ?_ ?_); rfl; rfl) | (refine l_len ?_; (first | refine qaa (qaQ rfl) rfl ?_ ?_ ?_); rfl; rfl) | (refine l_add ?_; (first | refine qaa (OpW.succ rfl rfl (by omega)) rfl ?_ ?_ ?_ | refine qaa (qaI rfl rfl (by omega) (by omega)) rfl ?_ ?_ ?_ | refine qaa (OpW.add rfl rfl) rfl ?_ ?_ ?_ | refine qaa (OpW.cat rfl rfl (by omega)) rfl ?_ ?_ ?_); rfl; rfl) | (refine l_leq ?_; (first | refine qaa (OpW.leqT rfl rfl (by omega)) rfl ?_ ?_ ?_ | refine qaa (OpW.leqF rfl rfl (by omega)) rfl ?_ ?_ ?_ | refine qaa (OpW.leq rfl rfl) rfl ?_ ?_ ?_); rfl; rfl) | (refine l_lss ?_; (first | refine qaa (qaG rfl rfl (by omega)) rfl ?_ ?_ ?_ | refine qaa (qaH rfl rfl (by omega)) rfl ?_ ?_ ?_ | refine qaa (qaO rfl rfl) rfl ?_ ?_ ?_); rfl; rfl) | (refine l_neq ?_; (first | refine qaa (qaS rfl rfl (by omega)) rfl ?_ ?_ ?_ | refine qaa (qaT rfl rfl (by omega)) rfl ?_ ?_ ?_ | refine qaa (qba rfl rfl) rfl ?_ ?_ ?_); rfl; rfl) | (refine l_not ?_; (first | refine qaa (qaK rfl) rfl ?_ ?_ ?_); rfl; rfl) | (refine l_sub ?_; (first | refine qaa (OpW.subi rfl rfl (by omega) (by omega)) rfl ?_ ?_ ?_ | refine qaa (OpW.sub rfl rfl) rfl ?_ ?_ ?_); rfl; rfl) | (refine qaz ?_; (first | refine qaa (qaq (by omega) rfl rfl) rfl ?_ ?_ ?_ | refine qaa (qat (by omega) rfl rfl) rfl ?_ ?_ ?_); rfl; rfl) | refine SX.drawn (by kernel_rfl) (by kernel_rfl) ?_ | refine SXr.nil ?_ | (refine r_call ?_; (first | refine SXr.v (qak rfl (fun w hl => hT _ hl.mod)) rfl ?_ ?_ ?_); rfl; rfl) | (refine r_load ?_; (first | refine SXr.v (qad 0 rfl rfl rfl) rfl ?_ ?_ ?_ | refine SXr.v (qad 1 rfl rfl rfl) rfl ?_ ?_ ?_ | refine SXr.v (qad 2 rfl rfl rfl) rfl ?_ ?_ ?_ | refine SXr.v (qad 3 rfl rfl rfl) rfl ?_ ?_ ?_ | refine SXr.v (qap rfl (by assumption) (fun h => h)) rfl ?_ ?_ ?_ | refine SXr.v (qac 0 rfl rfl rfl) rfl ?_ ?_ ?_ | refine SXr.v (qac 1 rfl rfl rfl) rfl ?_ ?_ ?_ | refine SXr.v (qac 2 rfl rfl rfl) rfl ?_ ?_ ?_ | refine SXr.v (qac 3 rfl rfl rfl) rfl ?_ ?_ ?_ | refine SXr.v (qab 0 rfl rfl rfl rfl) rfl ?_ ?_ ?_ | refine SXr.v (qab 1 rfl rfl rfl rfl) rfl ?_ ?_ ?_ | refine SXr.v (qab 2 rfl rfl rfl rfl) rfl ?_ ?_ ?_ | refine SXr.v (qab 3 rfl rfl rfl rfl) rfl ?_ ?_ ?_); rfl; rfl) | (refine r_fieldAddr ?_; (first | refine SXr.v (qaj rfl) rfl ?_ ?_ ?_); rfl; rfl) | (refine r_move ?_; (first | refine SXr.v (qav rfl) rfl ?_ ?_ ?_); rfl; rfl) | (refine r_assign ?_; (first | refine SXr.v (qao rfl) rfl ?_ ?_ ?_); rfl; rfl) | (refine r_len ?_; (first | refine SXr.v (qaQ rfl) rfl ?_ ?_ ?_); rfl; rfl) | (refine r_add ?_; (first | refine SXr.v (OpW.succ rfl rfl (by omega)) rfl ?_ ?_ ?_ | refine SXr.v (qaI rfl rfl (by omega) (by omega)) rfl ?_ ?_ ?_ | refine SXr.v (OpW.add rfl rfl) rfl ?_ ?_ ?_ | refine SXr.v (OpW.cat rfl rfl (by omega)) rfl ?_ ?_ ?_); rfl; rfl) | (refine r_leq ?_; (first | refine SXr.v (OpW.leqT rfl rfl (by omega)) rfl ?_ ?_ ?_ | refine SXr.v (OpW.leqF rfl rfl (by omega)) rfl ?_ ?_ ?_ | refine SXr.v (OpW.leq rfl rfl) rfl ?_ ?_ ?_); rfl; rfl) | (refine r_lss ?_; (first | refine SXr.v (qaG rfl rfl (by omega)) rfl ?_ ?_ ?_ | refine SXr.v (qaH rfl rfl (by omega)) rfl ?_ ?_ ?_ | refine SXr.v (qaO rfl rfl) rfl ?_ ?_ ?_); rfl; rfl) | (refine r_neq ?_; (first | refine SXr.v (qaS rfl rfl (by omega)) rfl ?_ ?_ ?_ | refine SXr.v (qaT rfl rfl (by omega)) rfl ?_ ?_ ?_ | refine SXr.v (qba rfl rfl) rfl ?_ ?_ ?_); rfl; rfl) | (refine r_not ?_; (first | refine SXr.v (qaK rfl) rfl ?_ ?_ ?_); rfl; rfl) | (refine r_sub ?_; (first | refine SXr.v (OpW.subi rfl rfl (by omega) (by omega)) rfl ?_ ?_ ?_ | refine SXr.v (OpW.sub rfl rfl) rfl ?_ ?_ ?_); rfl; rfl) | (refine r_indexAddr ?_; (first | refine SXr.v (qaq (by omega) rfl rfl) rfl ?_ ?_ ?_ | refine SXr.v (qat (by omega) rfl rfl) rfl ?_ ?_ ?_); rfl; rfl) | (refine qbb ?_; refine qaF ?_ ?_ rfl rfl (fun g => ?_); rfl; rfl) | (refine qaY ?_; first | (refine SXl.lit1 ?_ ?_ rfl rfl rfl (fun g => ?_); rfl; rfl) | (refine SXl.lit0 ?_ ?_ (fun _ h => h) rfl (fun g => ?_); rfl; rfl)) | (refine l_append ?_; first | (refine qbc 0 0 rfl rfl rfl rfl rfl rfl rfl rfl (by omega) (by omega) (fun a c => ?_); simp only [List.set_cons_zero, List.set_cons_succ]) | (refine qbc 1 0 rfl rfl rfl rfl rfl rfl rfl rfl (by omega) (by omega) (fun a c => ?_); simp only [List.set_cons_zero, List.set_cons_succ])) | refine qaM ?_ | refine qaC ?_ | refine qar ?_ | refine qam ?_ | refine qag ?_ | refine qan ?_ | refine qal ?_ | refine qai rfl ?_)
    refine qaJ rfl rfl (fun w' hl => ⟨_, _, rfl, (hl.own _ List.mem_cons_self).1, hl.mod⟩)
  have e : treeLines l = upLines l l.length := by unfold treeLines; rw [hv]; rfl
  rw [e]
  rw [hv] at hT
  have hln := ok_len hv
  repeat (first | refine qaL ?_ | refine qaA ?_ | refine qau ?_ | refine qah ?_ | refine SX.block ?_ | refine qaB ?_ | refine qaw rfl ?_ | refine qax rfl ?_ | (refine qaR ?_; (first | refine qaa (qak rfl (fun w hl => hT _ hl.mod)) rfl ?_ ?_ ?_); rfl; rfl) | (refine qaN ?_; (first | refine qaa (qad 0 rfl rfl rfl) rfl ?_ ?_ ?_ | refine qaa (qad 1 rfl rfl rfl) rfl ?_ ?_ ?_ | refine qaa (qad 2 rfl rfl rfl) rfl ?_ ?_ ?_ | refine qaa (qad 3 rfl rfl rfl) rfl ?_ ?_ ?_ | refine qaa (qap rfl (by assumption) (fun h => h)) rfl ?_ ?_ ?_ | refine qaa (qac 0 rfl rfl rfl) rfl ?_ ?_ ?_ | refine qaa (qac 1 rfl rfl rfl) rfl ?_ ?_ ?_ | refine qaa (qac 2 rfl rfl rfl) rfl ?_ ?_ ?_ | refine qaa (qac 3 rfl rfl rfl) rfl ?_ ?_ ?_ | refine qaa (qab 0 rfl rfl rfl rfl) rfl ?_ ?_ ?_ | refine qaa (qab 1 rfl rfl rfl rfl) rfl ?_ ?_ ?_ | refine qaa (qab 2 rfl rfl rfl rfl) rfl ?_ ?_ ?_ | refine qaa (qab 3 rfl rfl rfl rfl) rfl ?_ ?_ ?_); rfl; rfl) | (refine qas ?_; (first | refine qaa (qaj rfl) rfl ?_ ?_ ?_); rfl; rfl) | (refine qaP ?_; (first | refine qaa (qav rfl) rfl ?_ ?_ ?_); rfl; rfl) | (refine qay ?_; (first | refine qaa (qao rfl) rfl ?_ ?_ ?_); rfl; rfl) | (refine l_len ?_; (first | refine qaa (qaQ rfl) rfl ?_ ?_ ?_); rfl; rfl) | (refine l_add ?_; (first | refine qaa (OpW.succ rfl rfl (by omega)) rfl ?_ ?_ ?_ | refine qaa (qaI rfl rfl (by omega) (by omega)) rfl ?_ ?_ ?_ | refine qaa (OpW.add rfl rfl) rfl ?_ ?_ ?_ | refine qaa (OpW.cat rfl rfl (by omega)) rfl ?_ ?_ ?_); rfl; rfl) | (refine l_leq ?_; (first | refine qaa (OpW.leqT rfl rfl (by omega)) rfl ?_ ?_ ?_ | refine qaa (OpW.leqF rfl rfl (by omega)) rfl ?_ ?_ ?_ | refine qaa (OpW.leq rfl rfl) rfl ?_ ?_ ?_); rfl; rfl) | (refine l_lss ?_; (first | refine qaa (qaG rfl rfl (by omega)) rfl ?_ ?_ ?_ | refine qaa (qaH rfl rfl (by omega)) rfl ?_ ?_ ?_ | refine qaa (qaO rfl rfl) rfl ?_ ?_ ?_); rfl; rfl) | (refine l_neq ?_; (first | refine qaa (qaS rfl rfl (by omega)) rfl ?_ ?_ ?_ | refine qaa (qaT rfl rfl (by omega)) rfl ?_ ?_ ?_ | refine qaa (qba rfl rfl) rfl ?_ ?_ ?_); rfl; rfl) | (refine l_not ?_; (first | refine qaa (qaK rfl) rfl ?_ ?_ ?_); rfl; rfl) | (refine l_sub ?_; (first | refine qaa (OpW.subi rfl rfl (by omega) (by omega)) rfl ?_ ?_ ?_ | refine qaa (OpW.sub rfl rfl) rfl ?_ ?_ ?_); rfl; rfl) | (refine qaz ?_; (first | refine qaa (qaq (by omega) rfl rfl) rfl ?_ ?_ ?_ | refine qaa (qat (by omega) rfl rfl) rfl ?_ ?_ ?_); rfl; rfl) | refine SX.drawn (by kernel_rfl) (by kernel_rfl) ?_ | refine SXr.nil ?_ | (refine r_call ?_; (first | refine SXr.v (qak rfl (fun w hl => hT _ hl.mod)) rfl ?_ ?_ ?_); rfl; rfl) | (refine r_load ?_; (first | refine SXr.v (qad 0 rfl rfl rfl) rfl ?_ ?_ ?_ | refine SXr.v (qad 1 rfl rfl rfl) rfl ?_ ?_ ?_ | refine SXr.v (qad 2 rfl rfl rfl) rfl ?_ ?_ ?_ | refine SXr.v (qad 3 rfl rfl rfl) rfl ?_ ?_ ?_ | refine SXr.v (qap rfl (by assumption) (fun h => h)) rfl ?_ ?_ ?_ | refine SXr.v (qac 0 rfl rfl rfl) rfl ?_ ?_ ?_ | refine SXr.v (qac 1 rfl rfl rfl) rfl ?_ ?_ ?_ | refine SXr.v (qac 2 rfl rfl rfl) rfl ?_ ?_ ?_ | refine SXr.v (qac 3 rfl rfl rfl) rfl ?_ ?_ ?_ | refine SXr.v (qab 0 rfl rfl rfl rfl) rfl ?_ ?_ ?_ | refine SXr.v (qab 1 rfl rfl rfl rfl) rfl ?_ ?_ ?_ | refine SXr.v (qab 2 rfl rfl rfl rfl) rfl ?_ ?_ ?_ | refine SXr.v (qab 3 rfl rfl rfl rfl) rfl ?_ ?_ ?_); rfl; rfl) | (refine r_fieldAddr ?_; (first | refine SXr.v (qaj rfl) rfl ?_ ?_ ?_); rfl; rfl) | (refine r_move ?_; (first | refine SXr.v (qav rfl) rfl ?_ ?_ ?_); rfl; rfl) | (refine r_assign ?_; (first | refine SXr.v (qao rfl) rfl ?_ ?_ ?_); rfl; rfl) | (refine r_len ?_; (first | refine SXr.v (qaQ rfl) rfl ?_ ?_ ?_); rfl; rfl) | (refine r_add ?_; (first | refine SXr.v (OpW.succ rfl rfl (by omega)) rfl ?_ ?_ ?_ | refine SXr.v (qaI rfl rfl (by omega) (by omega)) rfl ?_ ?_ ?_ | refine SXr.v (OpW.add rfl rfl) rfl ?_ ?_ ?_ | refine SXr.v (OpW.cat rfl rfl (by omega)) rfl ?_ ?_ ?_); rfl; rfl) | (refine r_leq ?_; (first | refine SXr.v (OpW.leqT rfl rfl (by omega)) rfl ?_ ?_ ?_ | refine SXr.v (OpW.leqF rfl rfl (by omega)) rfl ?_ ?_ ?_ | refine SXr.v (OpW.leq rfl rfl) rfl ?_ ?_ ?_); rfl; rfl) | (refine r_lss ?_; (first | refine SXr.v (qaG rfl rfl (by omega)) rfl ?_ ?_ ?_ | refine SXr.v (qaH rfl rfl (by omega)) rfl ?_ ?_ ?_ | refine SXr.v (qaO rfl rfl) rfl ?_ ?_ ?_); rfl; rfl) | (refine r_neq ?_; (first | refine SXr.v (qaS rfl rfl (by omega)) rfl ?_ ?_ ?_ | refine SXr.v (qaT rfl rfl (by omega)) rfl ?_ ?_ ?_ | refine SXr.v (qba rfl rfl) rfl ?_ ?_ ?_); rfl; rfl) | (refine r_not ?_; (first | refine SXr.v (qaK rfl) rfl ?_ ?_ ?_); rfl; rfl) | (refine r_sub ?_; (first | refine SXr.v (OpW.subi rfl rfl (by omega) (by omega)) rfl ?_ ?_ ?_ | refine SXr.v (OpW.sub rfl rfl) rfl ?_ ?_ ?_); rfl; rfl) | (refine r_indexAddr ?_; (first | refine SXr.v (qaq (by omega) rfl rfl) rfl ?_ ?_ ?_ | refine SXr.v (qat (by omega) rfl rfl) rfl ?_ ?_ ?_); rfl; rfl) | (refine qbb ?_; refine qaF ?_ ?_ rfl rfl (fun g => ?_); rfl; rfl) | (refine qaY ?_; first | (refine SXl.lit1 ?_ ?_ rfl rfl rfl (fun g => ?_); rfl; rfl) | (refine SXl.lit0 ?_ ?_ (fun _ h => h) rfl (fun g => ?_); rfl; rfl)) | (refine l_append ?_; first | (refine qbc 0 0 rfl rfl rfl rfl rfl rfl rfl rfl (by omega) (by omega) (fun a c => ?_); simp only [List.set_cons_zero, List.set_cons_succ]) | (refine qbc 1 0 rfl rfl rfl rfl rfl rfl rfl rfl (by omega) (by omega) (fun a c => ?_); simp only [List.set_cons_zero, List.set_cons_succ])) | refine qaM ?_ | refine qaC ?_ | refine qar ?_ | refine qam ?_ | refine qag ?_ | refine qan ?_ | refine qal ?_ | refine qai rfl ?_)
  rename_i gt
  refine SX.loop3 (fun (k : Nat) (_ : Option Addr) (_ : Nat) => k ≤ l.length) (fun k _ _ => l.length - k) (fun _ _ _ => [⟨gt, [.slice a l.length c], 85⟩]) (fun k a' c' => [⟨.slice a' (upLines l k).length c', 9, 1, (upLines l k).length, ((upLines l k).map tcell).flatten⟩]) (fun _ _ _ => []) (fun k a' c' => [(1, .pointer (some ⟨gt, 0, none⟩)), (3, .slice a' (upLines l k).length c'), (4, .int .i64 ((k + 1 : Nat) : Int))]) 0 _ 0 (Nat.zero_le _) ?_ (fun _ hl => hl) ?_
  · (repeat (first | exact subF_nil _ | (refine subF_cons rfl ?_) | (refine subF_consv rfl (by rfl) ?_)))
  intro k a' c' hk
  by_cases hlt : k < l.length
  rotate_left
  · have hk' : k = l.length := by omega
    subst hk'
    repeat (first | refine qaL ?_ | refine qaA ?_ | refine qau ?_ | refine qah ?_ | refine SX.block ?_ | refine qaB ?_ | refine qaw rfl ?_ | refine qax rfl ?_ | (refine qaN ?_; (first | refine qaa (qad 0 rfl rfl rfl) rfl ?_ ?_ ?_ | refine qaa (qad 1 rfl rfl rfl) rfl ?_ ?_ ?_ | refine qaa (qad 2 rfl rfl rfl) rfl ?_ ?_ ?_ | refine qaa (qad 3 rfl rfl rfl) rfl ?_ ?_ ?_ | refine qaa (qap rfl (by assumption) (fun h => h)) rfl ?_ ?_ ?_ | refine qaa (qac 0 rfl rfl rfl) rfl ?_ ?_ ?_ | refine qaa (qac 1 rfl rfl rfl) rfl ?_ ?_ ?_ | refine qaa (qac 2 rfl rfl rfl) rfl ?_ ?_ ?_ | refine qaa (qac 3 rfl rfl rfl) rfl ?_ ?_ ?_ | refine qaa (qab 0 rfl rfl rfl rfl) rfl ?_ ?_ ?_ | refine qaa (qab 1 rfl rfl rfl rfl) rfl ?_ ?_ ?_ | refine qaa (qab 2 rfl rfl rfl rfl) rfl ?_ ?_ ?_ | refine qaa (qab 3 rfl rfl rfl rfl) rfl ?_ ?_ ?_); rfl; rfl) | (refine qas ?_; (first | refine qaa (qaj rfl) rfl ?_ ?_ ?_); rfl; rfl) | (refine qaP ?_; (first | refine qaa (qav rfl) rfl ?_ ?_ ?_); rfl; rfl) | (refine qay ?_; (first | refine qaa (qao rfl) rfl ?_ ?_ ?_); rfl; rfl) | (refine l_len ?_; (first | refine qaa (qaQ rfl) rfl ?_ ?_ ?_); rfl; rfl) | (refine l_add ?_; (first | refine qaa (OpW.succ rfl rfl (by omega)) rfl ?_ ?_ ?_ | refine qaa (qaI rfl rfl (by omega) (by omega)) rfl ?_ ?_ ?_ | refine qaa (OpW.add rfl rfl) rfl ?_ ?_ ?_ | refine qaa (OpW.cat rfl rfl (by omega)) rfl ?_ ?_ ?_); rfl; rfl) | (refine l_leq ?_; (first | refine qaa (OpW.leqT rfl rfl (by omega)) rfl ?_ ?_ ?_ | refine qaa (OpW.leqF rfl rfl (by omega)) rfl ?_ ?_ ?_ | refine qaa (OpW.leq rfl rfl) rfl ?_ ?_ ?_); rfl; rfl) | (refine l_lss ?_; (first | refine qaa (qaG rfl rfl (by omega)) rfl ?_ ?_ ?_ | refine qaa (qaH rfl rfl (by omega)) rfl ?_ ?_ ?_ | refine qaa (qaO rfl rfl) rfl ?_ ?_ ?_); rfl; rfl) | (refine l_neq ?_; (first | refine qaa (qaS rfl rfl (by omega)) rfl ?_ ?_ ?_ | refine qaa (qaT rfl rfl (by omega)) rfl ?_ ?_ ?_ | refine qaa (qba rfl rfl) rfl ?_ ?_ ?_); rfl; rfl) | (refine l_not ?_; (first | refine qaa (qaK rfl) rfl ?_ ?_ ?_); rfl; rfl) | (refine l_sub ?_; (first | refine qaa (OpW.subi rfl rfl (by omega) (by omega)) rfl ?_ ?_ ?_ | refine qaa (OpW.sub rfl rfl) rfl ?_ ?_ ?_); rfl; rfl) | (refine qaz ?_; (first | refine qaa (qaq (by omega) rfl rfl) rfl ?_ ?_ ?_ | refine qaa (qat (by omega) rfl rfl) rfl ?_ ?_ ?_); rfl; rfl) | refine SX.drawn (by kernel_rfl) (by kernel_rfl) ?_ | refine SXr.nil ?_ | (refine r_load ?_; (first | refine SXr.v (qad 0 rfl rfl rfl) rfl ?_ ?_ ?_ | refine SXr.v (qad 1 rfl rfl rfl) rfl ?_ ?_ ?_ | refine SXr.v (qad 2 rfl rfl rfl) rfl ?_ ?_ ?_ | refine SXr.v (qad 3 rfl rfl rfl) rfl ?_ ?_ ?_ | refine SXr.v (qap rfl (by assumption) (fun h => h)) rfl ?_ ?_ ?_ | refine SXr.v (qac 0 rfl rfl rfl) rfl ?_ ?_ ?_ | refine SXr.v (qac 1 rfl rfl rfl) rfl ?_ ?_ ?_ | refine SXr.v (qac 2 rfl rfl rfl) rfl ?_ ?_ ?_ | refine SXr.v (qac 3 rfl rfl rfl) rfl ?_ ?_ ?_ | refine SXr.v (qab 0 rfl rfl rfl rfl) rfl ?_ ?_ ?_ | refine SXr.v (qab 1 rfl rfl rfl rfl) rfl ?_ ?_ ?_ | refine SXr.v (qab 2 rfl rfl rfl rfl) rfl ?_ ?_ ?_ | refine SXr.v (qab 3 rfl rfl rfl rfl) rfl ?_ ?_ ?_); rfl; rfl) | (refine r_fieldAddr ?_; (first | refine SXr.v (qaj rfl) rfl ?_ ?_ ?_); rfl; rfl) | (refine r_move ?_; (first | refine SXr.v (qav rfl) rfl ?_ ?_ ?_); rfl; rfl) | (refine r_assign ?_; (first | refine SXr.v (qao rfl) rfl ?_ ?_ ?_); rfl; rfl) | (refine r_len ?_; (first | refine SXr.v (qaQ rfl) rfl ?_ ?_ ?_); rfl; rfl) | (refine r_add ?_; (first | refine SXr.v (OpW.succ rfl rfl (by omega)) rfl ?_ ?_ ?_ | refine SXr.v (qaI rfl rfl (by omega) (by omega)) rfl ?_ ?_ ?_ | refine SXr.v (OpW.add rfl rfl) rfl ?_ ?_ ?_ | refine SXr.v (OpW.cat rfl rfl (by omega)) rfl ?_ ?_ ?_); rfl; rfl) | (refine r_leq ?_; (first | refine SXr.v (OpW.leqT rfl rfl (by omega)) rfl ?_ ?_ ?_ | refine SXr.v (OpW.leqF rfl rfl (by omega)) rfl ?_ ?_ ?_ | refine SXr.v (OpW.leq rfl rfl) rfl ?_ ?_ ?_); rfl; rfl) | (refine r_lss ?_; (first | refine SXr.v (qaG rfl rfl (by omega)) rfl ?_ ?_ ?_ | refine SXr.v (qaH rfl rfl (by omega)) rfl ?_ ?_ ?_ | refine SXr.v (qaO rfl rfl) rfl ?_ ?_ ?_); rfl; rfl) | (refine r_neq ?_; (first | refine SXr.v (qaS rfl rfl (by omega)) rfl ?_ ?_ ?_ | refine SXr.v (qaT rfl rfl (by omega)) rfl ?_ ?_ ?_ | refine SXr.v (qba rfl rfl) rfl ?_ ?_ ?_); rfl; rfl) | (refine r_not ?_; (first | refine SXr.v (qaK rfl) rfl ?_ ?_ ?_); rfl; rfl) | (refine r_sub ?_; (first | refine SXr.v (OpW.subi rfl rfl (by omega) (by omega)) rfl ?_ ?_ ?_ | refine SXr.v (OpW.sub rfl rfl) rfl ?_ ?_ ?_); rfl; rfl) | (refine r_indexAddr ?_; (first | refine SXr.v (qaq (by omega) rfl rfl) rfl ?_ ?_ ?_ | refine SXr.v (qat (by omega) rfl rfl) rfl ?_ ?_ ?_); rfl; rfl) | (refine qbb ?_; refine qaF ?_ ?_ rfl rfl (fun g => ?_); rfl; rfl) | (refine qaY ?_; first | (refine SXl.lit1 ?_ ?_ rfl rfl rfl (fun g => ?_); rfl; rfl) | (refine SXl.lit0 ?_ ?_ (fun _ h => h) rfl (fun g => ?_); rfl; rfl)) | (refine l_append ?_; first | (refine qbc 0 0 rfl rfl rfl rfl rfl rfl rfl rfl (by omega) (by omega) (fun a c => ?_); simp only [List.set_cons_zero, List.set_cons_succ]) | (refine qbc 1 0 rfl rfl rfl rfl rfl rfl rfl rfl (by omega) (by omega) (fun a c => ?_); simp only [List.set_cons_zero, List.set_cons_succ])) | refine qaM ?_ | refine qaC ?_ | refine qar ?_ | refine qam ?_ | refine qag ?_ | refine qan ?_ | refine qal ?_ | refine qai rfl ?_)
    refine qaJ rfl rfl (fun w' hl => ⟨_, _, rfl, (hl.own _ List.mem_cons_self).1, hl.mod⟩)
  obtain ⟨b1, o1, ⟨up, kids, st, me, ru⟩, r1, rfl, hR1, hb1, hxk, hr1, hl1, hc1⟩ := h.get hlt
  obtain ⟨ka, kc, ra, rc, rfl, hk1, ht1, _⟩ := hr1
  replace hxk := hxk.out
  simp only at hc1
  by_cases hup : up = 0
  rotate_left
  · have hS : upLines l (k + 1) = upLines l k := by rw [upLines_succ, rootLines_no hxk hup, List.append_nil]
    repeat (first | refine qaL ?_ | refine qaA ?_ | refine qau ?_ | refine qah ?_ | refine SX.block ?_ | refine qaB ?_ | refine qaw rfl ?_ | refine qax rfl ?_ | (refine qaR ?_; (first | refine qaa (qak rfl (fun w hl => snode_any _ _ _ _ k _ _ _ _ _ _ _ _ _ w (by omega) hlt (fun j v hv => hl.old (hc1 j v hv) (fun h => h)))) rfl ?_ ?_ ?_); rfl; rfl) | (refine l_field ?_; (first | refine qaa (OpW.field rfl (nodeRow_a0 _ _ _ _ _ _ _ _ _)) rfl ?_ ?_ ?_); rfl; rfl) | (refine qaN ?_; (first | refine qaa (qad 0 rfl rfl rfl) rfl ?_ ?_ ?_ | refine qaa (qad 1 rfl rfl rfl) rfl ?_ ?_ ?_ | refine qaa (qad 2 rfl rfl rfl) rfl ?_ ?_ ?_ | refine qaa (qad 3 rfl rfl rfl) rfl ?_ ?_ ?_ | refine qaa (qap rfl (by assumption) (fun h => h)) rfl ?_ ?_ ?_ | refine qaa (qac 0 rfl rfl rfl) rfl ?_ ?_ ?_ | refine qaa (qac 1 rfl rfl rfl) rfl ?_ ?_ ?_ | refine qaa (qac 2 rfl rfl rfl) rfl ?_ ?_ ?_ | refine qaa (qac 3 rfl rfl rfl) rfl ?_ ?_ ?_ | refine qaa (qab 0 rfl rfl rfl rfl) rfl ?_ ?_ ?_ | refine qaa (qab 1 rfl rfl rfl rfl) rfl ?_ ?_ ?_ | refine qaa (qab 2 rfl rfl rfl rfl) rfl ?_ ?_ ?_ | refine qaa (qab 3 rfl rfl rfl rfl) rfl ?_ ?_ ?_); rfl; rfl) | (refine qas ?_; (first | refine qaa (qaj rfl) rfl ?_ ?_ ?_); rfl; rfl) | (refine qaP ?_; (first | refine qaa (qav rfl) rfl ?_ ?_ ?_); rfl; rfl) | (refine qay ?_; (first | refine qaa (qao rfl) rfl ?_ ?_ ?_); rfl; rfl) | (refine l_len ?_; (first | refine qaa (qaQ rfl) rfl ?_ ?_ ?_); rfl; rfl) | (refine l_add ?_; (first | refine qaa (OpW.succ rfl rfl (by omega)) rfl ?_ ?_ ?_ | refine qaa (qaI rfl rfl (by omega) (by omega)) rfl ?_ ?_ ?_ | refine qaa (OpW.add rfl rfl) rfl ?_ ?_ ?_ | refine qaa (OpW.cat rfl rfl (by omega)) rfl ?_ ?_ ?_); rfl; rfl) | (refine l_leq ?_; (first | refine qaa (OpW.leqT rfl rfl (by omega)) rfl ?_ ?_ ?_ | refine qaa (OpW.leqF rfl rfl (by omega)) rfl ?_ ?_ ?_ | refine qaa (OpW.leq rfl rfl) rfl ?_ ?_ ?_); rfl; rfl) | (refine l_lss ?_; (first | refine qaa (qaG rfl rfl (by omega)) rfl ?_ ?_ ?_ | refine qaa (qaH rfl rfl (by omega)) rfl ?_ ?_ ?_ | refine qaa (qaO rfl rfl) rfl ?_ ?_ ?_); rfl; rfl) | (refine l_neq ?_; (first | refine qaa (qaS rfl rfl (by omega)) rfl ?_ ?_ ?_ | refine qaa (qaT rfl rfl (by omega)) rfl ?_ ?_ ?_ | refine qaa (qba rfl rfl) rfl ?_ ?_ ?_); rfl; rfl) | (refine l_not ?_; (first | refine qaa (qaK rfl) rfl ?_ ?_ ?_); rfl; rfl) | (refine l_sub ?_; (first | refine qaa (OpW.subi rfl rfl (by omega) (by omega)) rfl ?_ ?_ ?_ | refine qaa (OpW.sub rfl rfl) rfl ?_ ?_ ?_); rfl; rfl) | (refine qaz ?_; (first | refine qaa (qaq (by omega) rfl rfl) rfl ?_ ?_ ?_ | refine qaa (qat (by omega) rfl rfl) rfl ?_ ?_ ?_); rfl; rfl) | refine SX.drawn (by kernel_rfl) (by kernel_rfl) ?_ | refine SXr.nil ?_ | (refine r_call ?_; (first | refine SXr.v (qak rfl (fun w hl => snode_any _ _ _ _ k _ _ _ _ _ _ _ _ _ w (by omega) hlt (fun j v hv => hl.old (hc1 j v hv) (fun h => h)))) rfl ?_ ?_ ?_); rfl; rfl) | (refine r_field ?_; (first | refine SXr.v (OpW.field rfl (nodeRow_a0 _ _ _ _ _ _ _ _ _)) rfl ?_ ?_ ?_); rfl; rfl) | (refine r_load ?_; (first | refine SXr.v (qad 0 rfl rfl rfl) rfl ?_ ?_ ?_ | refine SXr.v (qad 1 rfl rfl rfl) rfl ?_ ?_ ?_ | refine SXr.v (qad 2 rfl rfl rfl) rfl ?_ ?_ ?_ | refine SXr.v (qad 3 rfl rfl rfl) rfl ?_ ?_ ?_ | refine SXr.v (qap rfl (by assumption) (fun h => h)) rfl ?_ ?_ ?_ | refine SXr.v (qac 0 rfl rfl rfl) rfl ?_ ?_ ?_ | refine SXr.v (qac 1 rfl rfl rfl) rfl ?_ ?_ ?_ | refine SXr.v (qac 2 rfl rfl rfl) rfl ?_ ?_ ?_ | refine SXr.v (qac 3 rfl rfl rfl) rfl ?_ ?_ ?_ | refine SXr.v (qab 0 rfl rfl rfl rfl) rfl ?_ ?_ ?_ | refine SXr.v (qab 1 rfl rfl rfl rfl) rfl ?_ ?_ ?_ | refine SXr.v (qab 2 rfl rfl rfl rfl) rfl ?_ ?_ ?_ | refine SXr.v (qab 3 rfl rfl rfl rfl) rfl ?_ ?_ ?_); rfl; rfl) | (refine r_fieldAddr ?_; (first | refine SXr.v (qaj rfl) rfl ?_ ?_ ?_); rfl; rfl) | (refine r_move ?_; (first | refine SXr.v (qav rfl) rfl ?_ ?_ ?_); rfl; rfl) | (refine r_assign ?_; (first | refine SXr.v (qao rfl) rfl ?_ ?_ ?_); rfl; rfl) | (refine r_len ?_; (first | refine SXr.v (qaQ rfl) rfl ?_ ?_ ?_); rfl; rfl) | (refine r_add ?_; (first | refine SXr.v (OpW.succ rfl rfl (by omega)) rfl ?_ ?_ ?_ | refine SXr.v (qaI rfl rfl (by omega) (by omega)) rfl ?_ ?_ ?_ | refine SXr.v (OpW.add rfl rfl) rfl ?_ ?_ ?_ | refine SXr.v (OpW.cat rfl rfl (by omega)) rfl ?_ ?_ ?_); rfl; rfl) | (refine r_leq ?_; (first | refine SXr.v (OpW.leqT rfl rfl (by omega)) rfl ?_ ?_ ?_ | refine SXr.v (OpW.leqF rfl rfl (by omega)) rfl ?_ ?_ ?_ | refine SXr.v (OpW.leq rfl rfl) rfl ?_ ?_ ?_); rfl; rfl) | (refine r_lss ?_; (first | refine SXr.v (qaG rfl rfl (by omega)) rfl ?_ ?_ ?_ | refine SXr.v (qaH rfl rfl (by omega)) rfl ?_ ?_ ?_ | refine SXr.v (qaO rfl rfl) rfl ?_ ?_ ?_); rfl; rfl) | (refine r_neq ?_; (first | refine SXr.v (qaS rfl rfl (by omega)) rfl ?_ ?_ ?_ | refine SXr.v (qaT rfl rfl (by omega)) rfl ?_ ?_ ?_ | refine SXr.v (qba rfl rfl) rfl ?_ ?_ ?_); rfl; rfl) | (refine r_not ?_; (first | refine SXr.v (qaK rfl) rfl ?_ ?_ ?_); rfl; rfl) | (refine r_sub ?_; (first | refine SXr.v (OpW.subi rfl rfl (by omega) (by omega)) rfl ?_ ?_ ?_ | refine SXr.v (OpW.sub rfl rfl) rfl ?_ ?_ ?_); rfl; rfl) | (refine r_indexAddr ?_; (first | refine SXr.v (qaq (by omega) rfl rfl) rfl ?_ ?_ ?_ | refine SXr.v (qat (by omega) rfl rfl) rfl ?_ ?_ ?_); rfl; rfl) | (refine qbb ?_; refine qaF ?_ ?_ rfl rfl (fun g => ?_); rfl; rfl) | (refine qaY ?_; first | (refine SXl.lit1 ?_ ?_ rfl rfl rfl (fun g => ?_); rfl; rfl) | (refine SXl.lit0 ?_ ?_ (fun _ h => h) rfl (fun g => ?_); rfl; rfl)) | (refine l_append ?_; first | (refine qbc 0 0 rfl rfl rfl rfl rfl rfl rfl rfl (by omega) (by omega) (fun a c => ?_); simp only [List.set_cons_zero, List.set_cons_succ]) | (refine qbc 1 0 rfl rfl rfl rfl rfl rfl rfl rfl (by omega) (by omega) (fun a c => ?_); simp only [List.set_cons_zero, List.set_cons_succ])) | refine qaM ?_ | refine qaC ?_ | refine qar ?_ | refine qam ?_ | refine qag ?_ | refine qan ?_ | refine qal ?_ | refine qai rfl ?_)
    refine SQ.round3 (k + 1) a' c' (by omega) (by omega) ?_ (fun w hl => by rw [hS]; exact hl)
    (repeat (first | exact subF_nil _ | (refine subF_cons rfl ?_) | (refine subF_consv rfl (by rw [hS]) ?_)))
  have hS := partLines_all hxk hup
  have hne := allU_ne hv hxk
  have hUm := fun y hy => allU_mem hv hxk (y := y) hy
  have hUl := allU_len hv hxk
  have hd0 := (ok_node hv hxk).2.1
  have hPl := fun j => partLines_len (j := j) hv hxk
  repeat (first | refine qaL ?_ | refine qaA ?_ | refine qau ?_ | refine qah ?_ | refine SX.block ?_ | refine qaB ?_ | refine qaw rfl ?_ | refine qax rfl ?_ | (refine qaR ?_; (first | refine qaa (qak rfl (fun w hl => snode_any _ _ _ _ k _ _ _ _ _ _ _ _ _ w (by omega) hlt (fun j v hv => hl.old (hc1 j v hv) (fun h => h)))) rfl ?_ ?_ ?_); rfl; rfl) | (refine l_field ?_; (first | refine qaa (OpW.field rfl (nodeRow_a0 _ _ _ _ _ _ _ _ _)) rfl ?_ ?_ ?_); rfl; rfl) | (refine qaN ?_; (first | refine qaa (qad 0 rfl rfl rfl) rfl ?_ ?_ ?_ | refine qaa (qad 1 rfl rfl rfl) rfl ?_ ?_ ?_ | refine qaa (qad 2 rfl rfl rfl) rfl ?_ ?_ ?_ | refine qaa (qad 3 rfl rfl rfl) rfl ?_ ?_ ?_ | refine qaa (qap rfl (by assumption) (fun h => h)) rfl ?_ ?_ ?_ | refine qaa (qac 0 rfl rfl rfl) rfl ?_ ?_ ?_ | refine qaa (qac 1 rfl rfl rfl) rfl ?_ ?_ ?_ | refine qaa (qac 2 rfl rfl rfl) rfl ?_ ?_ ?_ | refine qaa (qac 3 rfl rfl rfl) rfl ?_ ?_ ?_ | refine qaa (qab 0 rfl rfl rfl rfl) rfl ?_ ?_ ?_ | refine qaa (qab 1 rfl rfl rfl rfl) rfl ?_ ?_ ?_ | refine qaa (qab 2 rfl rfl rfl rfl) rfl ?_ ?_ ?_ | refine qaa (qab 3 rfl rfl rfl rfl) rfl ?_ ?_ ?_); rfl; rfl) | (refine qas ?_; (first | refine qaa (qaj rfl) rfl ?_ ?_ ?_); rfl; rfl) | (refine qaP ?_; (first | refine qaa (qav rfl) rfl ?_ ?_ ?_); rfl; rfl) | (refine qay ?_; (first | refine qaa (qao rfl) rfl ?_ ?_ ?_); rfl; rfl) | (refine l_len ?_; (first | refine qaa (qaQ rfl) rfl ?_ ?_ ?_); rfl; rfl) | (refine l_add ?_; (first | refine qaa (OpW.succ rfl rfl (by omega)) rfl ?_ ?_ ?_ | refine qaa (qaI rfl rfl (by omega) (by omega)) rfl ?_ ?_ ?_ | refine qaa (OpW.add rfl rfl) rfl ?_ ?_ ?_ | refine qaa (OpW.cat rfl rfl (by omega)) rfl ?_ ?_ ?_); rfl; rfl) | (refine l_leq ?_; (first | refine qaa (OpW.leqT rfl rfl (by omega)) rfl ?_ ?_ ?_ | refine qaa (OpW.leqF rfl rfl (by omega)) rfl ?_ ?_ ?_ | refine qaa (OpW.leq rfl rfl) rfl ?_ ?_ ?_); rfl; rfl) | (refine l_lss ?_; (first | refine qaa (qaG rfl rfl (by omega)) rfl ?_ ?_ ?_ | refine qaa (qaH rfl rfl (by omega)) rfl ?_ ?_ ?_ | refine qaa (qaO rfl rfl) rfl ?_ ?_ ?_); rfl; rfl) | (refine l_neq ?_; (first | refine qaa (qaS rfl rfl (by omega)) rfl ?_ ?_ ?_ | refine qaa (qaT rfl rfl (by omega)) rfl ?_ ?_ ?_ | refine qaa (qba rfl rfl) rfl ?_ ?_ ?_); rfl; rfl) | (refine l_not ?_; (first | refine qaa (qaK rfl) rfl ?_ ?_ ?_); rfl; rfl) | (refine l_sub ?_; (first | refine qaa (OpW.subi rfl rfl (by omega) (by omega)) rfl ?_ ?_ ?_ | refine qaa (OpW.sub rfl rfl) rfl ?_ ?_ ?_); rfl; rfl) | (refine qaz ?_; (first | refine qaa (qaq (by omega) rfl rfl) rfl ?_ ?_ ?_ | refine qaa (qat (by omega) rfl rfl) rfl ?_ ?_ ?_); rfl; rfl) | refine SX.drawn (by kernel_rfl) (by kernel_rfl) ?_ | refine SXr.nil ?_ | (refine r_call ?_; (first | refine SXr.v (qak rfl (fun w hl => snode_any _ _ _ _ k _ _ _ _ _ _ _ _ _ w (by omega) hlt (fun j v hv => hl.old (hc1 j v hv) (fun h => h)))) rfl ?_ ?_ ?_); rfl; rfl) | (refine r_field ?_; (first | refine SXr.v (OpW.field rfl (nodeRow_a0 _ _ _ _ _ _ _ _ _)) rfl ?_ ?_ ?_); rfl; rfl) | (refine r_load ?_; (first | refine SXr.v (qad 0 rfl rfl rfl) rfl ?_ ?_ ?_ | refine SXr.v (qad 1 rfl rfl rfl) rfl ?_ ?_ ?_ | refine SXr.v (qad 2 rfl rfl rfl) rfl ?_ ?_ ?_ | refine SXr.v (qad 3 rfl rfl rfl) rfl ?_ ?_ ?_ | refine SXr.v (qap rfl (by assumption) (fun h => h)) rfl ?_ ?_ ?_ | refine SXr.v (qac 0 rfl rfl rfl) rfl ?_ ?_ ?_ | refine SXr.v (qac 1 rfl rfl rfl) rfl ?_ ?_ ?_ | refine SXr.v (qac 2 rfl rfl rfl) rfl ?_ ?_ ?_ | refine SXr.v (qac 3 rfl rfl rfl) rfl ?_ ?_ ?_ | refine SXr.v (qab 0 rfl rfl rfl rfl) rfl ?_ ?_ ?_ | refine SXr.v (qab 1 rfl rfl rfl rfl) rfl ?_ ?_ ?_ | refine SXr.v (qab 2 rfl rfl rfl rfl) rfl ?_ ?_ ?_ | refine SXr.v (qab 3 rfl rfl rfl rfl) rfl ?_ ?_ ?_); rfl; rfl) | (refine r_fieldAddr ?_; (first | refine SXr.v (qaj rfl) rfl ?_ ?_ ?_); rfl; rfl) | (refine r_move ?_; (first | refine SXr.v (qav rfl) rfl ?_ ?_ ?_); rfl; rfl) | (refine r_assign ?_; (first | refine SXr.v (qao rfl) rfl ?_ ?_ ?_); rfl; rfl) | (refine r_len ?_; (first | refine SXr.v (qaQ rfl) rfl ?_ ?_ ?_); rfl; rfl) | (refine r_add ?_; (first | refine SXr.v (OpW.succ rfl rfl (by omega)) rfl ?_ ?_ ?_ | refine SXr.v (qaI rfl rfl (by omega) (by omega)) rfl ?_ ?_ ?_ | refine SXr.v (OpW.add rfl rfl) rfl ?_ ?_ ?_ | refine SXr.v (OpW.cat rfl rfl (by omega)) rfl ?_ ?_ ?_); rfl; rfl) | (refine r_leq ?_; (first | refine SXr.v (OpW.leqT rfl rfl (by omega)) rfl ?_ ?_ ?_ | refine SXr.v (OpW.leqF rfl rfl (by omega)) rfl ?_ ?_ ?_ | refine SXr.v (OpW.leq rfl rfl) rfl ?_ ?_ ?_); rfl; rfl) | (refine r_lss ?_; (first | refine SXr.v (qaG rfl rfl (by omega)) rfl ?_ ?_ ?_ | refine SXr.v (qaH rfl rfl (by omega)) rfl ?_ ?_ ?_ | refine SXr.v (qaO rfl rfl) rfl ?_ ?_ ?_); rfl; rfl) | (refine r_neq ?_; (first | refine SXr.v (qaS rfl rfl (by omega)) rfl ?_ ?_ ?_ | refine SXr.v (qaT rfl rfl (by omega)) rfl ?_ ?_ ?_ | refine SXr.v (qba rfl rfl) rfl ?_ ?_ ?_); rfl; rfl) | (refine r_not ?_; (first | refine SXr.v (qaK rfl) rfl ?_ ?_ ?_); rfl; rfl) | (refine r_sub ?_; (first | refine SXr.v (OpW.subi rfl rfl (by omega) (by omega)) rfl ?_ ?_ ?_ | refine SXr.v (OpW.sub rfl rfl) rfl ?_ ?_ ?_); rfl; rfl) | (refine r_indexAddr ?_; (first | refine SXr.v (qaq (by omega) rfl rfl) rfl ?_ ?_ ?_ | refine SXr.v (qat (by omega) rfl rfl) rfl ?_ ?_ ?_); rfl; rfl) | (refine qbb ?_; refine qaF ?_ ?_ rfl rfl (fun g => ?_); rfl; rfl) | (refine qaY ?_; first | (refine SXl.lit1 ?_ ?_ rfl rfl rfl (fun g => ?_); rfl; rfl) | (refine SXl.lit0 ?_ ?_ (fun _ h => h) rfl (fun g => ?_); rfl; rfl)) | (refine l_append ?_; first | (refine qbc 0 0 rfl rfl rfl rfl rfl rfl rfl rfl (by omega) (by omega) (fun a c => ?_); simp only [List.set_cons_zero, List.set_cons_succ]) | (refine qbc 1 0 rfl rfl rfl rfl rfl rfl rfl rfl (by omega) (by omega) (fun a c => ?_); simp only [List.set_cons_zero, List.set_cons_succ])) | refine qaM ?_ | refine qaC ?_ | refine qar ?_ | refine qam ?_ | refine qag ?_ | refine qan ?_ | refine qal ?_ | refine qai rfl ?_)
  refine qaR ?_
  refine SXl.calln1 (v := fun p : Nat × Nat => .slice (some ⟨p.1, 0, none⟩) (allU l ((k + 1 : Nat) : Int)).length p.2) (F1 := rowsRes icell 1 (allU l ((k + 1 : Nat) : Int))) rfl rfl rfl (fun w hl => (sallUnder_any l o _ c R hv hfit (5 - dep l ((k + 1 : Nat) : Int)).toNat k _ w hxk (by omega) (h.keep hl.mod)).mono fun _ _ h => rows_of hne icell_len h) (fun p => ?_)
  have hP0 : partLines l k 0 = upLines l k := by unfold partLines; simp
  generalize hUe : allU l ((k + 1 : Nat) : Int) = U at hS hne hUm hUl
  repeat (first | refine qaL ?_ | refine qaA ?_ | refine qau ?_ | refine qah ?_ | refine SX.block ?_ | refine qaB ?_ | refine qaw rfl ?_ | refine qax rfl ?_ | (refine qaN ?_; (first | refine qaa (qad 0 rfl rfl rfl) rfl ?_ ?_ ?_ | refine qaa (qad 1 rfl rfl rfl) rfl ?_ ?_ ?_ | refine qaa (qad 2 rfl rfl rfl) rfl ?_ ?_ ?_ | refine qaa (qad 3 rfl rfl rfl) rfl ?_ ?_ ?_ | refine qaa (qap rfl (by assumption) (fun h => h)) rfl ?_ ?_ ?_ | refine qaa (qac 0 rfl rfl rfl) rfl ?_ ?_ ?_ | refine qaa (qac 1 rfl rfl rfl) rfl ?_ ?_ ?_ | refine qaa (qac 2 rfl rfl rfl) rfl ?_ ?_ ?_ | refine qaa (qac 3 rfl rfl rfl) rfl ?_ ?_ ?_ | refine qaa (qab 0 rfl rfl rfl rfl) rfl ?_ ?_ ?_ | refine qaa (qab 1 rfl rfl rfl rfl) rfl ?_ ?_ ?_ | refine qaa (qab 2 rfl rfl rfl rfl) rfl ?_ ?_ ?_ | refine qaa (qab 3 rfl rfl rfl rfl) rfl ?_ ?_ ?_); rfl; rfl) | (refine qas ?_; (first | refine qaa (qaj rfl) rfl ?_ ?_ ?_); rfl; rfl) | (refine qaP ?_; (first | refine qaa (qav rfl) rfl ?_ ?_ ?_); rfl; rfl) | (refine qay ?_; (first | refine qaa (qao rfl) rfl ?_ ?_ ?_); rfl; rfl) | (refine l_len ?_; (first | refine qaa (qaQ rfl) rfl ?_ ?_ ?_); rfl; rfl) | (refine l_add ?_; (first | refine qaa (OpW.succ rfl rfl (by omega)) rfl ?_ ?_ ?_ | refine qaa (qaI rfl rfl (by omega) (by omega)) rfl ?_ ?_ ?_ | refine qaa (OpW.add rfl rfl) rfl ?_ ?_ ?_ | refine qaa (OpW.cat rfl rfl (by omega)) rfl ?_ ?_ ?_); rfl; rfl) | (refine l_leq ?_; (first | refine qaa (OpW.leqT rfl rfl (by omega)) rfl ?_ ?_ ?_ | refine qaa (OpW.leqF rfl rfl (by omega)) rfl ?_ ?_ ?_ | refine qaa (OpW.leq rfl rfl) rfl ?_ ?_ ?_); rfl; rfl) | (refine l_lss ?_; (first | refine qaa (qaG rfl rfl (by omega)) rfl ?_ ?_ ?_ | refine qaa (qaH rfl rfl (by omega)) rfl ?_ ?_ ?_ | refine qaa (qaO rfl rfl) rfl ?_ ?_ ?_); rfl; rfl) | (refine l_neq ?_; (first | refine qaa (qaS rfl rfl (by omega)) rfl ?_ ?_ ?_ | refine qaa (qaT rfl rfl (by omega)) rfl ?_ ?_ ?_ | refine qaa (qba rfl rfl) rfl ?_ ?_ ?_); rfl; rfl) | (refine l_not ?_; (first | refine qaa (qaK rfl) rfl ?_ ?_ ?_); rfl; rfl) | (refine l_sub ?_; (first | refine qaa (OpW.subi rfl rfl (by omega) (by omega)) rfl ?_ ?_ ?_ | refine qaa (OpW.sub rfl rfl) rfl ?_ ?_ ?_); rfl; rfl) | (refine qaz ?_; (first | refine qaa (qaq (by omega) rfl rfl) rfl ?_ ?_ ?_ | refine qaa (qat (by omega) rfl rfl) rfl ?_ ?_ ?_); rfl; rfl) | refine SX.drawn (by kernel_rfl) (by kernel_rfl) ?_ | refine SXr.nil ?_ | (refine r_load ?_; (first | refine SXr.v (qad 0 rfl rfl rfl) rfl ?_ ?_ ?_ | refine SXr.v (qad 1 rfl rfl rfl) rfl ?_ ?_ ?_ | refine SXr.v (qad 2 rfl rfl rfl) rfl ?_ ?_ ?_ | refine SXr.v (qad 3 rfl rfl rfl) rfl ?_ ?_ ?_ | refine SXr.v (qap rfl (by assumption) (fun h => h)) rfl ?_ ?_ ?_ | refine SXr.v (qac 0 rfl rfl rfl) rfl ?_ ?_ ?_ | refine SXr.v (qac 1 rfl rfl rfl) rfl ?_ ?_ ?_ | refine SXr.v (qac 2 rfl rfl rfl) rfl ?_ ?_ ?_ | refine SXr.v (qac 3 rfl rfl rfl) rfl ?_ ?_ ?_ | refine SXr.v (qab 0 rfl rfl rfl rfl) rfl ?_ ?_ ?_ | refine SXr.v (qab 1 rfl rfl rfl rfl) rfl ?_ ?_ ?_ | refine SXr.v (qab 2 rfl rfl rfl rfl) rfl ?_ ?_ ?_ | refine SXr.v (qab 3 rfl rfl rfl rfl) rfl ?_ ?_ ?_); rfl; rfl) | (refine r_fieldAddr ?_; (first | refine SXr.v (qaj rfl) rfl ?_ ?_ ?_); rfl; rfl) | (refine r_move ?_; (first | refine SXr.v (qav rfl) rfl ?_ ?_ ?_); rfl; rfl) | (refine r_assign ?_; (first | refine SXr.v (qao rfl) rfl ?_ ?_ ?_); rfl; rfl) | (refine r_len ?_; (first | refine SXr.v (qaQ rfl) rfl ?_ ?_ ?_); rfl; rfl) | (refine r_add ?_; (first | refine SXr.v (OpW.succ rfl rfl (by omega)) rfl ?_ ?_ ?_ | refine SXr.v (qaI rfl rfl (by omega) (by omega)) rfl ?_ ?_ ?_ | refine SXr.v (OpW.add rfl rfl) rfl ?_ ?_ ?_ | refine SXr.v (OpW.cat rfl rfl (by omega)) rfl ?_ ?_ ?_); rfl; rfl) | (refine r_leq ?_; (first | refine SXr.v (OpW.leqT rfl rfl (by omega)) rfl ?_ ?_ ?_ | refine SXr.v (OpW.leqF rfl rfl (by omega)) rfl ?_ ?_ ?_ | refine SXr.v (OpW.leq rfl rfl) rfl ?_ ?_ ?_); rfl; rfl) | (refine r_lss ?_; (first | refine SXr.v (qaG rfl rfl (by omega)) rfl ?_ ?_ ?_ | refine SXr.v (qaH rfl rfl (by omega)) rfl ?_ ?_ ?_ | refine SXr.v (qaO rfl rfl) rfl ?_ ?_ ?_); rfl; rfl) | (refine r_neq ?_; (first | refine SXr.v (qaS rfl rfl (by omega)) rfl ?_ ?_ ?_ | refine SXr.v (qaT rfl rfl (by omega)) rfl ?_ ?_ ?_ | refine SXr.v (qba rfl rfl) rfl ?_ ?_ ?_); rfl; rfl) | (refine r_not ?_; (first | refine SXr.v (qaK rfl) rfl ?_ ?_ ?_); rfl; rfl) | (refine r_sub ?_; (first | refine SXr.v (OpW.subi rfl rfl (by omega) (by omega)) rfl ?_ ?_ ?_ | refine SXr.v (OpW.sub rfl rfl) rfl ?_ ?_ ?_); rfl; rfl) | (refine r_indexAddr ?_; (first | refine SXr.v (qaq (by omega) rfl rfl) rfl ?_ ?_ ?_ | refine SXr.v (qat (by omega) rfl rfl) rfl ?_ ?_ ?_); rfl; rfl) | (refine qbb ?_; refine qaF ?_ ?_ rfl rfl (fun g => ?_); rfl; rfl) | (refine qaY ?_; first | (refine SXl.lit1 ?_ ?_ rfl rfl rfl (fun g => ?_); rfl; rfl) | (refine SXl.lit0 ?_ ?_ (fun _ h => h) rfl (fun g => ?_); rfl; rfl)) | (refine l_append ?_; first | (refine qbc 0 0 rfl rfl rfl rfl rfl rfl rfl rfl (by omega) (by omega) (fun a c => ?_); simp only [List.set_cons_zero, List.set_cons_succ]) | (refine qbc 1 0 rfl rfl rfl rfl rfl rfl rfl rfl (by omega) (by omega) (fun a c => ?_); simp only [List.set_cons_zero, List.set_cons_succ])) | refine qaM ?_ | refine qaC ?_ | refine qar ?_ | refine qam ?_ | refine qag ?_ | refine qan ?_ | refine qal ?_ | refine qai rfl ?_)
  refine SX.loop3 (fun (j : Nat) (_ : Option Addr) (_ : Nat) => j ≤ U.length) (fun j _ _ => U.length - j) (fun _ _ _ => [⟨gt, [.slice (some ⟨b1, o1, none⟩) l.length c], 85⟩]) (fun j a' c' => [⟨.slice a' (partLines l k j).length c', 9, 1, (partLines l k j).length, ((partLines l k j).map tcell).flatten⟩]) (fun _ _ _ => [rowsRes icell 1 U p]) (fun j a' c' => [(1, .pointer (some ⟨gt, 0, none⟩)), (3, .slice a' (partLines l k j).length c'), (4, .int .i64 ((k + 1 : Nat) : Int)), (5, .slice (some ⟨p.1, 0, none⟩) U.length p.2), (6, .int .i64 j)]) 0 a' c' (Nat.zero_le _) ?_ (fun _ hl => by rw [hP0]; exact hl) ?_
  · (repeat (first | exact subF_nil _ | (refine subF_cons rfl ?_) | (refine subF_consv rfl (by rw [hP0]) ?_)))
  clear hP0
  intro j a2 c2 hj
  have hPj := hPl j
  by_cases hjl : j < U.length
  rotate_left
  · have hj' : j = U.length := by omega
    subst hj'
    repeat (first | refine qaL ?_ | refine qaA ?_ | refine qau ?_ | refine qah ?_ | refine SX.block ?_ | refine qaB ?_ | refine qaw rfl ?_ | refine qax rfl ?_ | (refine qaN ?_; (first | refine qaa (qad 0 rfl rfl rfl) rfl ?_ ?_ ?_ | refine qaa (qad 1 rfl rfl rfl) rfl ?_ ?_ ?_ | refine qaa (qad 2 rfl rfl rfl) rfl ?_ ?_ ?_ | refine qaa (qad 3 rfl rfl rfl) rfl ?_ ?_ ?_ | refine qaa (qap rfl (by assumption) (fun h => h)) rfl ?_ ?_ ?_ | refine qaa (qac 0 rfl rfl rfl) rfl ?_ ?_ ?_ | refine qaa (qac 1 rfl rfl rfl) rfl ?_ ?_ ?_ | refine qaa (qac 2 rfl rfl rfl) rfl ?_ ?_ ?_ | refine qaa (qac 3 rfl rfl rfl) rfl ?_ ?_ ?_ | refine qaa (qab 0 rfl rfl rfl rfl) rfl ?_ ?_ ?_ | refine qaa (qab 1 rfl rfl rfl rfl) rfl ?_ ?_ ?_ | refine qaa (qab 2 rfl rfl rfl rfl) rfl ?_ ?_ ?_ | refine qaa (qab 3 rfl rfl rfl rfl) rfl ?_ ?_ ?_); rfl; rfl) | (refine qas ?_; (first | refine qaa (qaj rfl) rfl ?_ ?_ ?_); rfl; rfl) | (refine qaP ?_; (first | refine qaa (qav rfl) rfl ?_ ?_ ?_); rfl; rfl) | (refine qay ?_; (first | refine qaa (qao rfl) rfl ?_ ?_ ?_); rfl; rfl) | (refine l_len ?_; (first | refine qaa (qaQ rfl) rfl ?_ ?_ ?_); rfl; rfl) | (refine l_add ?_; (first | refine qaa (OpW.succ rfl rfl (by omega)) rfl ?_ ?_ ?_ | refine qaa (qaI rfl rfl (by omega) (by omega)) rfl ?_ ?_ ?_ | refine qaa (OpW.add rfl rfl) rfl ?_ ?_ ?_ | refine qaa (OpW.cat rfl rfl (by omega)) rfl ?_ ?_ ?_); rfl; rfl) | (refine l_leq ?_; (first | refine qaa (OpW.leqT rfl rfl (by omega)) rfl ?_ ?_ ?_ | refine qaa (OpW.leqF rfl rfl (by omega)) rfl ?_ ?_ ?_ | refine qaa (OpW.leq rfl rfl) rfl ?_ ?_ ?_); rfl; rfl) | (refine l_lss ?_; (first | refine qaa (qaG rfl rfl (by omega)) rfl ?_ ?_ ?_ | refine qaa (qaH rfl rfl (by omega)) rfl ?_ ?_ ?_ | refine qaa (qaO rfl rfl) rfl ?_ ?_ ?_); rfl; rfl) | (refine l_neq ?_; (first | refine qaa (qaS rfl rfl (by omega)) rfl ?_ ?_ ?_ | refine qaa (qaT rfl rfl (by omega)) rfl ?_ ?_ ?_ | refine qaa (qba rfl rfl) rfl ?_ ?_ ?_); rfl; rfl) | (refine l_not ?_; (first | refine qaa (qaK rfl) rfl ?_ ?_ ?_); rfl; rfl) | (refine l_sub ?_; (first | refine qaa (OpW.subi rfl rfl (by omega) (by omega)) rfl ?_ ?_ ?_ | refine qaa (OpW.sub rfl rfl) rfl ?_ ?_ ?_); rfl; rfl) | (refine qaz ?_; (first | refine qaa (qaq (by omega) rfl rfl) rfl ?_ ?_ ?_ | refine qaa (qat (by omega) rfl rfl) rfl ?_ ?_ ?_); rfl; rfl) | refine SX.drawn (by kernel_rfl) (by kernel_rfl) ?_ | refine SXr.nil ?_ | (refine r_load ?_; (first | refine SXr.v (qad 0 rfl rfl rfl) rfl ?_ ?_ ?_ | refine SXr.v (qad 1 rfl rfl rfl) rfl ?_ ?_ ?_ | refine SXr.v (qad 2 rfl rfl rfl) rfl ?_ ?_ ?_ | refine SXr.v (qad 3 rfl rfl rfl) rfl ?_ ?_ ?_ | refine SXr.v (qap rfl (by assumption) (fun h => h)) rfl ?_ ?_ ?_ | refine SXr.v (qac 0 rfl rfl rfl) rfl ?_ ?_ ?_ | refine SXr.v (qac 1 rfl rfl rfl) rfl ?_ ?_ ?_ | refine SXr.v (qac 2 rfl rfl rfl) rfl ?_ ?_ ?_ | refine SXr.v (qac 3 rfl rfl rfl) rfl ?_ ?_ ?_ | refine SXr.v (qab 0 rfl rfl rfl rfl) rfl ?_ ?_ ?_ | refine SXr.v (qab 1 rfl rfl rfl rfl) rfl ?_ ?_ ?_ | refine SXr.v (qab 2 rfl rfl rfl rfl) rfl ?_ ?_ ?_ | refine SXr.v (qab 3 rfl rfl rfl rfl) rfl ?_ ?_ ?_); rfl; rfl) | (refine r_fieldAddr ?_; (first | refine SXr.v (qaj rfl) rfl ?_ ?_ ?_); rfl; rfl) | (refine r_move ?_; (first | refine SXr.v (qav rfl) rfl ?_ ?_ ?_); rfl; rfl) | (refine r_assign ?_; (first | refine SXr.v (qao rfl) rfl ?_ ?_ ?_); rfl; rfl) | (refine r_len ?_; (first | refine SXr.v (qaQ rfl) rfl ?_ ?_ ?_); rfl; rfl) | (refine r_add ?_; (first | refine SXr.v (OpW.succ rfl rfl (by omega)) rfl ?_ ?_ ?_ | refine SXr.v (qaI rfl rfl (by omega) (by omega)) rfl ?_ ?_ ?_ | refine SXr.v (OpW.add rfl rfl) rfl ?_ ?_ ?_ | refine SXr.v (OpW.cat rfl rfl (by omega)) rfl ?_ ?_ ?_); rfl; rfl) | (refine r_leq ?_; (first | refine SXr.v (OpW.leqT rfl rfl (by omega)) rfl ?_ ?_ ?_ | refine SXr.v (OpW.leqF rfl rfl (by omega)) rfl ?_ ?_ ?_ | refine SXr.v (OpW.leq rfl rfl) rfl ?_ ?_ ?_); rfl; rfl) | (refine r_lss ?_; (first | refine SXr.v (qaG rfl rfl (by omega)) rfl ?_ ?_ ?_ | refine SXr.v (qaH rfl rfl (by omega)) rfl ?_ ?_ ?_ | refine SXr.v (qaO rfl rfl) rfl ?_ ?_ ?_); rfl; rfl) | (refine r_neq ?_; (first | refine SXr.v (qaS rfl rfl (by omega)) rfl ?_ ?_ ?_ | refine SXr.v (qaT rfl rfl (by omega)) rfl ?_ ?_ ?_ | refine SXr.v (qba rfl rfl) rfl ?_ ?_ ?_); rfl; rfl) | (refine r_not ?_; (first | refine SXr.v (qaK rfl) rfl ?_ ?_ ?_); rfl; rfl) | (refine r_sub ?_; (first | refine SXr.v (OpW.subi rfl rfl (by omega) (by omega)) rfl ?_ ?_ ?_ | refine SXr.v (OpW.sub rfl rfl) rfl ?_ ?_ ?_); rfl; rfl) | (refine r_indexAddr ?_; (first | refine SXr.v (qaq (by omega) rfl rfl) rfl ?_ ?_ ?_ | refine SXr.v (qat (by omega) rfl rfl) rfl ?_ ?_ ?_); rfl; rfl) | (refine qbb ?_; refine qaF ?_ ?_ rfl rfl (fun g => ?_); rfl; rfl) | (refine qaY ?_; first | (refine SXl.lit1 ?_ ?_ rfl rfl rfl (fun g => ?_); rfl; rfl) | (refine SXl.lit0 ?_ ?_ (fun _ h => h) rfl (fun g => ?_); rfl; rfl)) | (refine l_append ?_; first | (refine qbc 0 0 rfl rfl rfl rfl rfl rfl rfl rfl (by omega) (by omega) (fun a c => ?_); simp only [List.set_cons_zero, List.set_cons_succ]) | (refine qbc 1 0 rfl rfl rfl rfl rfl rfl rfl rfl (by omega) (by omega) (fun a c => ?_); simp only [List.set_cons_zero, List.set_cons_succ])) | refine qaM ?_ | refine qaC ?_ | refine qar ?_ | refine qam ?_ | refine qag ?_ | refine qan ?_ | refine qal ?_ | refine qai rfl ?_)
    refine SQ.round3 (k + 1) a2 c2 (by omega) (by omega) ?_ (fun w hl => by rw [← hS]; exact hl.dropE)
    (repeat (first | exact subF_nil _ | (refine subF_cons rfl ?_) | (refine subF_consv rfl (by rw [← hS]) ?_)))
  obtain ⟨y, hy⟩ : ∃ y, U[j]? = some y := ⟨_, List.getElem?_eq_getElem hjl⟩
  obtain ⟨ky, z, rfl, hz⟩ := hUm y (List.mem_of_getElem? hy)
  have hcell := ints_at (p := p) hy
  have hzd := (ok_node hv hz).2.1
  have hky := (List.getElem?_eq_some_iff.1 hz).1
  obtain ⟨b2, o2, z', r2, e2, hR2, hb2, hzk, hr2, hl2, hc2⟩ := h.get hky
  obtain ⟨rfl, rfl⟩ : b1 = b2 ∧ o1 = o2 := by simpa using e2
  obtain rfl : z' = z := Option.some.inj (hzk.out.symm.trans hz)
  obtain ⟨kb, kd, rb, rd, rfl, _, _, _⟩ := hr2
  have hD := fun w' (hm : Mod (fun _ => False) w w') => sdepthOf_any l ((ky + 1 : Nat) : Int) o _ c R w' (by omega) (h.keep hm)
  rw [show depthF l (l.length + 1) ((ky + 1 : Nat) : Int) 0 = dep l ((ky + 1 : Nat) : Int) from rfl] at hD
  have hRp := fun w => l01Long_any (dep l ((ky + 1 : Nat) : Int) - 1).toNat 32 (by omega) w
  rw [show (((dep l ((ky + 1 : Nat) : Int) - 1).toNat : Nat) : Int) = dep l ((ky + 1 : Nat) : Int) - 1 by omega, show (((32 : UInt8).toNat : Nat) : Int) = 32 from rfl] at hRp
  have hDe := fun w => sdecimal_any ((ky + 1 : Nat) : Int) (by omega) (by omega) w
  have hil := Lib.itoa_length_le ((ky + 1 : Nat) : Int) (by omega) (by omega)
  have hnl : nodeLine l ((ky + 1 : Nat) : Int) = (List.replicate (dep l ((ky + 1 : Nat) : Int) - 1).toNat 32 ++ Lib.itoa ((ky + 1 : Nat) : Int)) ++ (if z'.measured then [32, 42] else []) := by unfold nodeLine; rw [nodeAt_of hz]
  have hrl : (List.replicate (dep l ((ky + 1 : Nat) : Int) - 1).toNat (32 : UInt8)).length ≤ 3 := by rw [List.length_replicate]; omega
  rw [← hUe] at hy
  have hS2 := partLines_succ hy
  rw [hUe] at hy
  generalize dep l ((ky + 1 : Nat) : Int) = dd at *
  generalize List.replicate (dd - 1).toNat (32 : UInt8) = bl at *
  cases hme : z'.measured
  · rw [hnl, hme, if_neg (by decide), List.append_nil] at hS2
    repeat (first | refine qaL ?_ | refine qaA ?_ | refine qau ?_ | refine qah ?_ | refine SX.block ?_ | refine qaB ?_ | refine qaw rfl ?_ | refine qax rfl ?_ | (refine qaN ?_; (first | refine qaa (OpW.loadRes (F := rowsRes icell 1 U p) (.head _) rfl hcell) rfl ?_ ?_ ?_ | refine qaa (qad 0 rfl rfl rfl) rfl ?_ ?_ ?_ | refine qaa (qad 1 rfl rfl rfl) rfl ?_ ?_ ?_ | refine qaa (qad 2 rfl rfl rfl) rfl ?_ ?_ ?_ | refine qaa (qad 3 rfl rfl rfl) rfl ?_ ?_ ?_ | refine qaa (qap rfl (by assumption) (fun h => h)) rfl ?_ ?_ ?_ | refine qaa (qac 0 rfl rfl rfl) rfl ?_ ?_ ?_ | refine qaa (qac 1 rfl rfl rfl) rfl ?_ ?_ ?_ | refine qaa (qac 2 rfl rfl rfl) rfl ?_ ?_ ?_ | refine qaa (qac 3 rfl rfl rfl) rfl ?_ ?_ ?_ | refine qaa (qab 0 rfl rfl rfl rfl) rfl ?_ ?_ ?_ | refine qaa (qab 1 rfl rfl rfl rfl) rfl ?_ ?_ ?_ | refine qaa (qab 2 rfl rfl rfl rfl) rfl ?_ ?_ ?_ | refine qaa (qab 3 rfl rfl rfl rfl) rfl ?_ ?_ ?_); rfl; rfl) | (refine qaR ?_; (first | refine qaa (qak rfl (fun w hl => hD _ hl.mod)) rfl ?_ ?_ ?_ | refine qaa (qak rfl (fun w hl => hRp _)) rfl ?_ ?_ ?_ | refine qaa (qak rfl (fun w hl => hDe _)) rfl ?_ ?_ ?_ | refine qaa (qak rfl (fun w hl => snode_any _ _ _ _ ky _ _ _ _ _ _ _ _ _ w (by omega) hky (fun j v hv => hl.old (hc2 j v hv) (fun h => h)))) rfl ?_ ?_ ?_); rfl; rfl) | (refine l_field ?_; (first | refine qaa (OpW.field rfl ((nodeRow_a62 _ _ _ _ _ _ _ _ _).trans (by rw [hme]))) rfl ?_ ?_ ?_); rfl; rfl) | (refine qas ?_; (first | refine qaa (qaj rfl) rfl ?_ ?_ ?_); rfl; rfl) | (refine qaP ?_; (first | refine qaa (qav rfl) rfl ?_ ?_ ?_); rfl; rfl) | (refine qay ?_; (first | refine qaa (qao rfl) rfl ?_ ?_ ?_); rfl; rfl) | (refine l_len ?_; (first | refine qaa (qaQ rfl) rfl ?_ ?_ ?_); rfl; rfl) | (refine l_add ?_; (first | refine qaa (OpW.succ rfl rfl (by omega)) rfl ?_ ?_ ?_ | refine qaa (qaI rfl rfl (by omega) (by omega)) rfl ?_ ?_ ?_ | refine qaa (OpW.add rfl rfl) rfl ?_ ?_ ?_ | refine qaa (OpW.cat rfl rfl (by omega)) rfl ?_ ?_ ?_); rfl; rfl) | (refine l_leq ?_; (first | refine qaa (OpW.leqT rfl rfl (by omega)) rfl ?_ ?_ ?_ | refine qaa (OpW.leqF rfl rfl (by omega)) rfl ?_ ?_ ?_ | refine qaa (OpW.leq rfl rfl) rfl ?_ ?_ ?_); rfl; rfl) | (refine l_lss ?_; (first | refine qaa (qaG rfl rfl (by omega)) rfl ?_ ?_ ?_ | refine qaa (qaH rfl rfl (by omega)) rfl ?_ ?_ ?_ | refine qaa (qaO rfl rfl) rfl ?_ ?_ ?_); rfl; rfl) | (refine l_neq ?_; (first | refine qaa (qaS rfl rfl (by omega)) rfl ?_ ?_ ?_ | refine qaa (qaT rfl rfl (by omega)) rfl ?_ ?_ ?_ | refine qaa (qba rfl rfl) rfl ?_ ?_ ?_); rfl; rfl) | (refine l_not ?_; (first | refine qaa (qaK rfl) rfl ?_ ?_ ?_); rfl; rfl) | (refine l_sub ?_; (first | refine qaa (OpW.subi rfl rfl (by omega) (by omega)) rfl ?_ ?_ ?_ | refine qaa (OpW.sub rfl rfl) rfl ?_ ?_ ?_); rfl; rfl) | (refine qaz ?_; (first | refine qaa (qaq (by omega) rfl rfl) rfl ?_ ?_ ?_ | refine qaa (qat (by omega) rfl rfl) rfl ?_ ?_ ?_); rfl; rfl) | refine SX.drawn (by kernel_rfl) (by kernel_rfl) ?_ | refine SXr.nil ?_ | (refine r_load ?_; (first | refine SXr.v (OpW.loadRes (F := rowsRes icell 1 U p) (.head _) rfl hcell) rfl ?_ ?_ ?_ | refine SXr.v (qad 0 rfl rfl rfl) rfl ?_ ?_ ?_ | refine SXr.v (qad 1 rfl rfl rfl) rfl ?_ ?_ ?_ | refine SXr.v (qad 2 rfl rfl rfl) rfl ?_ ?_ ?_ | refine SXr.v (qad 3 rfl rfl rfl) rfl ?_ ?_ ?_ | refine SXr.v (qap rfl (by assumption) (fun h => h)) rfl ?_ ?_ ?_ | refine SXr.v (qac 0 rfl rfl rfl) rfl ?_ ?_ ?_ | refine SXr.v (qac 1 rfl rfl rfl) rfl ?_ ?_ ?_ | refine SXr.v (qac 2 rfl rfl rfl) rfl ?_ ?_ ?_ | refine SXr.v (qac 3 rfl rfl rfl) rfl ?_ ?_ ?_ | refine SXr.v (qab 0 rfl rfl rfl rfl) rfl ?_ ?_ ?_ | refine SXr.v (qab 1 rfl rfl rfl rfl) rfl ?_ ?_ ?_ | refine SXr.v (qab 2 rfl rfl rfl rfl) rfl ?_ ?_ ?_ | refine SXr.v (qab 3 rfl rfl rfl rfl) rfl ?_ ?_ ?_); rfl; rfl) | (refine r_call ?_; (first | refine SXr.v (qak rfl (fun w hl => hD _ hl.mod)) rfl ?_ ?_ ?_ | refine SXr.v (qak rfl (fun w hl => hRp _)) rfl ?_ ?_ ?_ | refine SXr.v (qak rfl (fun w hl => hDe _)) rfl ?_ ?_ ?_ | refine SXr.v (qak rfl (fun w hl => snode_any _ _ _ _ ky _ _ _ _ _ _ _ _ _ w (by omega) hky (fun j v hv => hl.old (hc2 j v hv) (fun h => h)))) rfl ?_ ?_ ?_); rfl; rfl) | (refine r_field ?_; (first | refine SXr.v (OpW.field rfl ((nodeRow_a62 _ _ _ _ _ _ _ _ _).trans (by rw [hme]))) rfl ?_ ?_ ?_); rfl; rfl) | (refine r_fieldAddr ?_; (first | refine SXr.v (qaj rfl) rfl ?_ ?_ ?_); rfl; rfl) | (refine r_move ?_; (first | refine SXr.v (qav rfl) rfl ?_ ?_ ?_); rfl; rfl) | (refine r_assign ?_; (first | refine SXr.v (qao rfl) rfl ?_ ?_ ?_); rfl; rfl) | (refine r_len ?_; (first | refine SXr.v (qaQ rfl) rfl ?_ ?_ ?_); rfl; rfl) | (refine r_add ?_; (first | refine SXr.v (OpW.succ rfl rfl (by omega)) rfl ?_ ?_ ?_ | refine SXr.v (qaI rfl rfl (by omega) (by omega)) rfl ?_ ?_ ?_ | refine SXr.v (OpW.add rfl rfl) rfl ?_ ?_ ?_ | refine SXr.v (OpW.cat rfl rfl (by omega)) rfl ?_ ?_ ?_); rfl; rfl) | (refine r_leq ?_; (first | refine SXr.v (OpW.leqT rfl rfl (by omega)) rfl ?_ ?_ ?_ | refine SXr.v (OpW.leqF rfl rfl (by omega)) rfl ?_ ?_ ?_ | refine SXr.v (OpW.leq rfl rfl) rfl ?_ ?_ ?_); rfl; rfl) | (refine r_lss ?_; (first | refine SXr.v (qaG rfl rfl (by omega)) rfl ?_ ?_ ?_ | refine SXr.v (qaH rfl rfl (by omega)) rfl ?_ ?_ ?_ | refine SXr.v (qaO rfl rfl) rfl ?_ ?_ ?_); rfl; rfl) | (refine r_neq ?_; (first | refine SXr.v (qaS rfl rfl (by omega)) rfl ?_ ?_ ?_ | refine SXr.v (qaT rfl rfl (by omega)) rfl ?_ ?_ ?_ | refine SXr.v (qba rfl rfl) rfl ?_ ?_ ?_); rfl; rfl) | (refine r_not ?_; (first | refine SXr.v (qaK rfl) rfl ?_ ?_ ?_); rfl; rfl) | (refine r_sub ?_; (first | refine SXr.v (OpW.subi rfl rfl (by omega) (by omega)) rfl ?_ ?_ ?_ | refine SXr.v (OpW.sub rfl rfl) rfl ?_ ?_ ?_); rfl; rfl) | (refine r_indexAddr ?_; (first | refine SXr.v (qaq (by omega) rfl rfl) rfl ?_ ?_ ?_ | refine SXr.v (qat (by omega) rfl rfl) rfl ?_ ?_ ?_); rfl; rfl) | (refine qbb ?_; refine qaF ?_ ?_ rfl rfl (fun g => ?_); rfl; rfl) | (refine qaY ?_; first | (refine SXl.lit1 ?_ ?_ rfl rfl rfl (fun g => ?_); rfl; rfl) | (refine SXl.lit0 ?_ ?_ (fun _ h => h) rfl (fun g => ?_); rfl; rfl)) | (refine l_append ?_; first | (refine qbc 0 0 rfl rfl rfl rfl rfl rfl rfl rfl (by omega) (by omega) (fun a c => ?_); simp only [List.set_cons_zero, List.set_cons_succ]) | (refine qbc 1 0 rfl rfl rfl rfl rfl rfl rfl rfl (by omega) (by omega) (fun a c => ?_); simp only [List.set_cons_zero, List.set_cons_succ])) | refine qaM ?_ | refine qaC ?_ | refine qar ?_ | refine qam ?_ | refine qag ?_ | refine qan ?_ | refine qal ?_ | refine qai rfl ?_)
    refine SQ.round3 (j + 1) _ _ (by omega) (by omega) ?_ (fun w hl => by rw [hS2, List.length_append, List.map_append, List.flatten_append]; exact hl.drop1)
    (repeat (first | exact subF_nil _ | (refine subF_cons rfl ?_) | (refine subF_consv rfl (by rw [hS2, List.length_append]; rfl) ?_)))
  · rw [hnl, hme, if_pos rfl] at hS2
    repeat (first | refine qaL ?_ | refine qaA ?_ | refine qau ?_ | refine qah ?_ | refine SX.block ?_ | refine qaB ?_ | refine qaw rfl ?_ | refine qax rfl ?_ | (refine qaN ?_; (first | refine qaa (OpW.loadRes (F := rowsRes icell 1 U p) (.head _) rfl hcell) rfl ?_ ?_ ?_ | refine qaa (qad 0 rfl rfl rfl) rfl ?_ ?_ ?_ | refine qaa (qad 1 rfl rfl rfl) rfl ?_ ?_ ?_ | refine qaa (qad 2 rfl rfl rfl) rfl ?_ ?_ ?_ | refine qaa (qad 3 rfl rfl rfl) rfl ?_ ?_ ?_ | refine qaa (qap rfl (by assumption) (fun h => h)) rfl ?_ ?_ ?_ | refine qaa (qac 0 rfl rfl rfl) rfl ?_ ?_ ?_ | refine qaa (qac 1 rfl rfl rfl) rfl ?_ ?_ ?_ | refine qaa (qac 2 rfl rfl rfl) rfl ?_ ?_ ?_ | refine qaa (qac 3 rfl rfl rfl) rfl ?_ ?_ ?_ | refine qaa (qab 0 rfl rfl rfl rfl) rfl ?_ ?_ ?_ | refine qaa (qab 1 rfl rfl rfl rfl) rfl ?_ ?_ ?_ | refine qaa (qab 2 rfl rfl rfl rfl) rfl ?_ ?_ ?_ | refine qaa (qab 3 rfl rfl rfl rfl) rfl ?_ ?_ ?_); rfl; rfl) | (refine qaR ?_; (first | refine qaa (qak rfl (fun w hl => hD _ hl.mod)) rfl ?_ ?_ ?_ | refine qaa (qak rfl (fun w hl => hRp _)) rfl ?_ ?_ ?_ | refine qaa (qak rfl (fun w hl => hDe _)) rfl ?_ ?_ ?_ | refine qaa (qak rfl (fun w hl => snode_any _ _ _ _ ky _ _ _ _ _ _ _ _ _ w (by omega) hky (fun j v hv => hl.old (hc2 j v hv) (fun h => h)))) rfl ?_ ?_ ?_); rfl; rfl) | (refine l_field ?_; (first | refine qaa (OpW.field rfl ((nodeRow_a62 _ _ _ _ _ _ _ _ _).trans (by rw [hme]))) rfl ?_ ?_ ?_); rfl; rfl) | (refine l_add ?_; (first | refine qaa ((OpW.cat (b := [32, 42]) rfl rfl (by simp only [List.length_append, List.length_cons, List.length_nil]; omega))) rfl ?_ ?_ ?_ | refine qaa (OpW.succ rfl rfl (by omega)) rfl ?_ ?_ ?_ | refine qaa (qaI rfl rfl (by omega) (by omega)) rfl ?_ ?_ ?_ | refine qaa (OpW.add rfl rfl) rfl ?_ ?_ ?_ | refine qaa (OpW.cat rfl rfl (by omega)) rfl ?_ ?_ ?_); rfl; rfl) | (refine qas ?_; (first | refine qaa (qaj rfl) rfl ?_ ?_ ?_); rfl; rfl) | (refine qaP ?_; (first | refine qaa (qav rfl) rfl ?_ ?_ ?_); rfl; rfl) | (refine qay ?_; (first | refine qaa (qao rfl) rfl ?_ ?_ ?_); rfl; rfl) | (refine l_len ?_; (first | refine qaa (qaQ rfl) rfl ?_ ?_ ?_); rfl; rfl) | (refine l_leq ?_; (first | refine qaa (OpW.leqT rfl rfl (by omega)) rfl ?_ ?_ ?_ | refine qaa (OpW.leqF rfl rfl (by omega)) rfl ?_ ?_ ?_ | refine qaa (OpW.leq rfl rfl) rfl ?_ ?_ ?_); rfl; rfl) | (refine l_lss ?_; (first | refine qaa (qaG rfl rfl (by omega)) rfl ?_ ?_ ?_ | refine qaa (qaH rfl rfl (by omega)) rfl ?_ ?_ ?_ | refine qaa (qaO rfl rfl) rfl ?_ ?_ ?_); rfl; rfl) | (refine l_neq ?_; (first | refine qaa (qaS rfl rfl (by omega)) rfl ?_ ?_ ?_ | refine qaa (qaT rfl rfl (by omega)) rfl ?_ ?_ ?_ | refine qaa (qba rfl rfl) rfl ?_ ?_ ?_); rfl; rfl) | (refine l_not ?_; (first | refine qaa (qaK rfl) rfl ?_ ?_ ?_); rfl; rfl) | (refine l_sub ?_; (first | refine qaa (OpW.subi rfl rfl (by omega) (by omega)) rfl ?_ ?_ ?_ | refine qaa (OpW.sub rfl rfl) rfl ?_ ?_ ?_); rfl; rfl) | (refine qaz ?_; (first | refine qaa (qaq (by omega) rfl rfl) rfl ?_ ?_ ?_ | refine qaa (qat (by omega) rfl rfl) rfl ?_ ?_ ?_); rfl; rfl) | refine SX.drawn (by kernel_rfl) (by kernel_rfl) ?_ | refine SXr.nil ?_ | (refine r_load ?_; (first | refine SXr.v (OpW.loadRes (F := rowsRes icell 1 U p) (.head _) rfl hcell) rfl ?_ ?_ ?_ | refine SXr.v (qad 0 rfl rfl rfl) rfl ?_ ?_ ?_ | refine SXr.v (qad 1 rfl rfl rfl) rfl ?_ ?_ ?_ | refine SXr.v (qad 2 rfl rfl rfl) rfl ?_ ?_ ?_ | refine SXr.v (qad 3 rfl rfl rfl) rfl ?_ ?_ ?_ | refine SXr.v (qap rfl (by assumption) (fun h => h)) rfl ?_ ?_ ?_ | refine SXr.v (qac 0 rfl rfl rfl) rfl ?_ ?_ ?_ | refine SXr.v (qac 1 rfl rfl rfl) rfl ?_ ?_ ?_ | refine SXr.v (qac 2 rfl rfl rfl) rfl ?_ ?_ ?_ | refine SXr.v (qac 3 rfl rfl rfl) rfl ?_ ?_ ?_ | refine SXr.v (qab 0 rfl rfl rfl rfl) rfl ?_ ?_ ?_ | refine SXr.v (qab 1 rfl rfl rfl rfl) rfl ?_ ?_ ?_ | refine SXr.v (qab 2 rfl rfl rfl rfl) rfl ?_ ?_ ?_ | refine SXr.v (qab 3 rfl rfl rfl rfl) rfl ?_ ?_ ?_); rfl; rfl) | (refine r_call ?_; (first | refine SXr.v (qak rfl (fun w hl => hD _ hl.mod)) rfl ?_ ?_ ?_ | refine SXr.v (qak rfl (fun w hl => hRp _)) rfl ?_ ?_ ?_ | refine SXr.v (qak rfl (fun w hl => hDe _)) rfl ?_ ?_ ?_ | refine SXr.v (qak rfl (fun w hl => snode_any _ _ _ _ ky _ _ _ _ _ _ _ _ _ w (by omega) hky (fun j v hv => hl.old (hc2 j v hv) (fun h => h)))) rfl ?_ ?_ ?_); rfl; rfl) | (refine r_field ?_; (first | refine SXr.v (OpW.field rfl ((nodeRow_a62 _ _ _ _ _ _ _ _ _).trans (by rw [hme]))) rfl ?_ ?_ ?_); rfl; rfl) | (refine r_add ?_; (first | refine SXr.v ((OpW.cat (b := [32, 42]) rfl rfl (by simp only [List.length_append, List.length_cons, List.length_nil]; omega))) rfl ?_ ?_ ?_ | refine SXr.v (OpW.succ rfl rfl (by omega)) rfl ?_ ?_ ?_ | refine SXr.v (qaI rfl rfl (by omega) (by omega)) rfl ?_ ?_ ?_ | refine SXr.v (OpW.add rfl rfl) rfl ?_ ?_ ?_ | refine SXr.v (OpW.cat rfl rfl (by omega)) rfl ?_ ?_ ?_); rfl; rfl) | (refine r_fieldAddr ?_; (first | refine SXr.v (qaj rfl) rfl ?_ ?_ ?_); rfl; rfl) | (refine r_move ?_; (first | refine SXr.v (qav rfl) rfl ?_ ?_ ?_); rfl; rfl) | (refine r_assign ?_; (first | refine SXr.v (qao rfl) rfl ?_ ?_ ?_); rfl; rfl) | (refine r_len ?_; (first | refine SXr.v (qaQ rfl) rfl ?_ ?_ ?_); rfl; rfl) | (refine r_leq ?_; (first | refine SXr.v (OpW.leqT rfl rfl (by omega)) rfl ?_ ?_ ?_ | refine SXr.v (OpW.leqF rfl rfl (by omega)) rfl ?_ ?_ ?_ | refine SXr.v (OpW.leq rfl rfl) rfl ?_ ?_ ?_); rfl; rfl) | (refine r_lss ?_; (first | refine SXr.v (qaG rfl rfl (by omega)) rfl ?_ ?_ ?_ | refine SXr.v (qaH rfl rfl (by omega)) rfl ?_ ?_ ?_ | refine SXr.v (qaO rfl rfl) rfl ?_ ?_ ?_); rfl; rfl) | (refine r_neq ?_; (first | refine SXr.v (qaS rfl rfl (by omega)) rfl ?_ ?_ ?_ | refine SXr.v (qaT rfl rfl (by omega)) rfl ?_ ?_ ?_ | refine SXr.v (qba rfl rfl) rfl ?_ ?_ ?_); rfl; rfl) | (refine r_not ?_; (first | refine SXr.v (qaK rfl) rfl ?_ ?_ ?_); rfl; rfl) | (refine r_sub ?_; (first | refine SXr.v (OpW.subi rfl rfl (by omega) (by omega)) rfl ?_ ?_ ?_ | refine SXr.v (OpW.sub rfl rfl) rfl ?_ ?_ ?_); rfl; rfl) | (refine r_indexAddr ?_; (first | refine SXr.v (qaq (by omega) rfl rfl) rfl ?_ ?_ ?_ | refine SXr.v (qat (by omega) rfl rfl) rfl ?_ ?_ ?_); rfl; rfl) | (refine qbb ?_; refine qaF ?_ ?_ rfl rfl (fun g => ?_); rfl; rfl) | (refine qaY ?_; first | (refine SXl.lit1 ?_ ?_ rfl rfl rfl (fun g => ?_); rfl; rfl) | (refine SXl.lit0 ?_ ?_ (fun _ h => h) rfl (fun g => ?_); rfl; rfl)) | (refine l_append ?_; first | (refine qbc 0 0 rfl rfl rfl rfl rfl rfl rfl rfl (by omega) (by omega) (fun a c => ?_); simp only [List.set_cons_zero, List.set_cons_succ]) | (refine qbc 1 0 rfl rfl rfl rfl rfl rfl rfl rfl (by omega) (by omega) (fun a c => ?_); simp only [List.set_cons_zero, List.set_cons_succ])) | refine qaM ?_ | refine qaC ?_ | refine qar ?_ | refine qam ?_ | refine qag ?_ | refine qan ?_ | refine qal ?_ | refine qai rfl ?_)
    refine SQ.round3 (j + 1) _ _ (by omega) (by omega) ?_ (fun w hl => by rw [hS2, List.length_append, List.map_append, List.flatten_append]; exact hl.drop1)
    (repeat (first | exact subF_nil _ | (refine subF_cons rfl ?_) | (refine subF_consv rfl (by rw [hS2, List.length_append]; rfl) ?_)))
end Go.Proofs.YthffgbhphjkdeaaDoor
namespace Go.Proofs.YthffgbhphjkdeaaDoor
open Go.RowKit

theorem cut_at (cs : List Value) (o n m : Nat) (h : o + n = m) : cs.drop o = (cs.drop o).take n ++ cs.drop m := by
  subst h
  rw [← List.drop_drop, List.take_append_drop]

set_option maxRecDepth 100000 in
set_option maxHeartbeats 4000000 in
theorem rdA_Val {w : World} {cs : List Value} (h : Rd Tryd.prog w 23 cs) : ∃ x : Val, cs = x.cells := by
  obtain ⟨hl, hf⟩ := h.struct Tryd.underlying23
  have hl2 : cs.length = 2 := hl.trans (by kernel_rfl)
  have cz0 : Tryd.prog.cellsOf 3 = 1 := by kernel_rfl
  match cs, hl2 with
  | [q0, q1], _ =>
    obtain ⟨v0, e0, _⟩ := (hf 0 _ rfl).int Tryd.underlying3
    simp [cz0] at e0
    obtain ⟨v1, e1, _⟩ := (hf 1 _ rfl).int Tryd.underlying3
    simp [cz0] at e1
    exact ⟨⟨v0, v1⟩, by simp [Val.cells, e0, e1]⟩

set_option maxRecDepth 100000 in
set_option maxHeartbeats 4000000 in
theorem rdA_Sides {w : World} {cs : List Value} (h : Rd Tryd.prog w 25 cs) : ∃ x : Sides, cs = x.cells := by
  obtain ⟨hl, hf⟩ := h.struct Tryd.underlying25
  have hl2 : cs.length = 12 := hl.trans (by kernel_rfl)
  have cz0 : Tryd.prog.cellsOf 23 = 2 := by kernel_rfl
  match cs, hl2 with
  | [q0, q1, q2, q3, q4, q5, q6, q7, q8, q9, q10, q11], _ =>
    obtain ⟨v0, e0⟩ := rdA_Val (hf 0 _ rfl)
    simp [cz0, Val.cells] at e0
    obtain ⟨v1, e1⟩ := rdA_Val (hf 1 _ rfl)
    simp [cz0, Val.cells] at e1
    obtain ⟨v2, e2⟩ := rdA_Val (hf 2 _ rfl)
    simp [cz0, Val.cells] at e2
    obtain ⟨v3, e3⟩ := rdA_Val (hf 3 _ rfl)
    simp [cz0, Val.cells] at e3
    obtain ⟨v4, e4⟩ := rdA_Val (hf 4 _ rfl)
    simp [cz0, Val.cells] at e4
    obtain ⟨v5, e5⟩ := rdA_Val (hf 5 _ rfl)
    simp [cz0, Val.cells] at e5
    exact ⟨⟨v0, v1, v2, v3, v4, v5⟩, by simp [Sides.cells, e0, e1, e2, e3, e4, e5]⟩

set_option maxRecDepth 100000 in
set_option maxHeartbeats 4000000 in
theorem rdA_Edges {w : World} {cs : List Value} (h : Rd Tryd.prog w 27 cs) : ∃ x : Edges, cs = x.cells := by
  obtain ⟨hl, hf⟩ := h.struct Tryd.underlying27
  have hl2 : cs.length = 4 := hl.trans (by kernel_rfl)
  have cz0 : Tryd.prog.cellsOf 3 = 1 := by kernel_rfl
  match cs, hl2 with
  | [q0, q1, q2, q3], _ =>
    obtain ⟨v0, e0, _⟩ := (hf 0 _ rfl).int Tryd.underlying3
    simp [cz0] at e0
    obtain ⟨v1, e1, _⟩ := (hf 1 _ rfl).int Tryd.underlying3
    simp [cz0] at e1
    obtain ⟨v2, e2, _⟩ := (hf 2 _ rfl).int Tryd.underlying3
    simp [cz0] at e2
    obtain ⟨v3, e3, _⟩ := (hf 3 _ rfl).int Tryd.underlying3
    simp [cz0] at e3
    exact ⟨⟨v0, v1, v2, v3⟩, by simp [Edges.cells, e0, e1, e2, e3]⟩

set_option maxRecDepth 100000 in
set_option maxHeartbeats 4000000 in
theorem rdA_Style {w : World} {cs : List Value} (h : Rd Tryd.prog w 29 cs) : ∃ x : Style, cs = x.cells := by
  obtain ⟨hl, hf⟩ := h.struct Tryd.underlying29
  have hl2 : cs.length = 60 := hl.trans (by kernel_rfl)
  have cz0 : Tryd.prog.cellsOf 27 = 4 := by kernel_rfl
  have cz1 : Tryd.prog.cellsOf 25 = 12 := by kernel_rfl
  have cz2 : Tryd.prog.cellsOf 23 = 2 := by kernel_rfl
  have cz3 : Tryd.prog.cellsOf 4 = 1 := by kernel_rfl
  have cz4 : Tryd.prog.cellsOf 3 = 1 := by kernel_rfl
  obtain ⟨v0, e0, _⟩ := (hf 0 _ rfl).int Tryd.underlying3
  replace e0 : (cs.drop 0).take (Tryd.prog.cellsOf 3) = [.int .i64 v0] := e0
  rw [cz4] at e0
  obtain ⟨v1, e1, _⟩ := (hf 1 _ rfl).int Tryd.underlying3
  replace e1 : (cs.drop 1).take (Tryd.prog.cellsOf 3) = [.int .i64 v1] := e1
  rw [cz4] at e1
  obtain ⟨v2, e2, _⟩ := (hf 2 _ rfl).int Tryd.underlying3
  replace e2 : (cs.drop 2).take (Tryd.prog.cellsOf 3) = [.int .i64 v2] := e2
  rw [cz4] at e2
  obtain ⟨v3, e3, _⟩ := (hf 3 _ rfl).int Tryd.underlying3
  replace e3 : (cs.drop 3).take (Tryd.prog.cellsOf 3) = [.int .i64 v3] := e3
  rw [cz4] at e3
  obtain ⟨v4, e4, _⟩ := (hf 4 _ rfl).int Tryd.underlying3
  replace e4 : (cs.drop 4).take (Tryd.prog.cellsOf 3) = [.int .i64 v4] := e4
  rw [cz4] at e4
  obtain ⟨v5, e5, _⟩ := (hf 5 _ rfl).int Tryd.underlying3
  replace e5 : (cs.drop 5).take (Tryd.prog.cellsOf 3) = [.int .i64 v5] := e5
  rw [cz4] at e5
  obtain ⟨v6, e6⟩ := (hf 6 _ rfl).bool Tryd.underlying4
  replace e6 : (cs.drop 6).take (Tryd.prog.cellsOf 4) = [.bool v6] := e6
  rw [cz3] at e6
  obtain ⟨v7, e7⟩ := (hf 7 _ rfl).bool Tryd.underlying4
  replace e7 : (cs.drop 7).take (Tryd.prog.cellsOf 4) = [.bool v7] := e7
  rw [cz3] at e7
  obtain ⟨v8, e8, _⟩ := (hf 8 _ rfl).int Tryd.underlying3
  replace e8 : (cs.drop 8).take (Tryd.prog.cellsOf 3) = [.int .i64 v8] := e8
  rw [cz4] at e8
  obtain ⟨v9, e9, _⟩ := (hf 9 _ rfl).int Tryd.underlying3
  replace e9 : (cs.drop 9).take (Tryd.prog.cellsOf 3) = [.int .i64 v9] := e9
  rw [cz4] at e9
  obtain ⟨v10, e10, _⟩ := (hf 10 _ rfl).int Tryd.underlying3
  replace e10 : (cs.drop 10).take (Tryd.prog.cellsOf 3) = [.int .i64 v10] := e10
  rw [cz4] at e10
  obtain ⟨v11, e11⟩ := rdA_Val (hf 11 _ rfl)
  replace e11 : (cs.drop 11).take (Tryd.prog.cellsOf 23) = v11.cells := e11
  rw [cz2] at e11
  obtain ⟨v12, e12⟩ := rdA_Val (hf 12 _ rfl)
  replace e12 : (cs.drop 13).take (Tryd.prog.cellsOf 23) = v12.cells := e12
  rw [cz2] at e12
  obtain ⟨v13, e13⟩ := rdA_Val (hf 13 _ rfl)
  replace e13 : (cs.drop 15).take (Tryd.prog.cellsOf 23) = v13.cells := e13
  rw [cz2] at e13
  obtain ⟨v14, e14⟩ := rdA_Val (hf 14 _ rfl)
  replace e14 : (cs.drop 17).take (Tryd.prog.cellsOf 23) = v14.cells := e14
  rw [cz2] at e14
  obtain ⟨v15, e15⟩ := rdA_Val (hf 15 _ rfl)
  replace e15 : (cs.drop 19).take (Tryd.prog.cellsOf 23) = v15.cells := e15
  rw [cz2] at e15
  obtain ⟨v16, e16⟩ := rdA_Val (hf 16 _ rfl)
  replace e16 : (cs.drop 21).take (Tryd.prog.cellsOf 23) = v16.cells := e16
  rw [cz2] at e16
  obtain ⟨v17, e17⟩ := rdA_Val (hf 17 _ rfl)
  replace e17 : (cs.drop 23).take (Tryd.prog.cellsOf 23) = v17.cells := e17
  rw [cz2] at e17
  obtain ⟨v18, e18, _⟩ := (hf 18 _ rfl).int Tryd.underlying3
  replace e18 : (cs.drop 25).take (Tryd.prog.cellsOf 3) = [.int .i64 v18] := e18
  rw [cz4] at e18
  obtain ⟨v19, e19⟩ := rdA_Sides (hf 19 _ rfl)
  replace e19 : (cs.drop 26).take (Tryd.prog.cellsOf 25) = v19.cells := e19
  rw [cz1] at e19
  obtain ⟨v20, e20⟩ := rdA_Sides (hf 20 _ rfl)
  replace e20 : (cs.drop 38).take (Tryd.prog.cellsOf 25) = v20.cells := e20
  rw [cz1] at e20
  obtain ⟨v21, e21⟩ := rdA_Edges (hf 21 _ rfl)
  replace e21 : (cs.drop 50).take (Tryd.prog.cellsOf 27) = v21.cells := e21
  rw [cz0] at e21
  obtain ⟨v22, e22⟩ := rdA_Edges (hf 22 _ rfl)
  replace e22 : (cs.drop 54).take (Tryd.prog.cellsOf 27) = v22.cells := e22
  rw [cz0] at e22
  obtain ⟨v23, e23, _⟩ := (hf 23 _ rfl).int Tryd.underlying3
  replace e23 : (cs.drop 58).take (Tryd.prog.cellsOf 3) = [.int .i64 v23] := e23
  rw [cz4] at e23
  obtain ⟨v24, e24, _⟩ := (hf 24 _ rfl).int Tryd.underlying3
  replace e24 : (cs.drop 59).take (Tryd.prog.cellsOf 3) = [.int .i64 v24] := e24
  rw [cz4] at e24
  have hz : cs.drop 60 = [] := List.drop_eq_nil_of_le (by omega)
  clear hf hl hl2 h
  refine ⟨⟨v0, v1, v2, v3, v4, v5, v6, v7, v8, v9, v10, v11, v12, v13, v14, v15, v16, v17, v18, v19, v20, v21, v22, v23, v24⟩, ?_⟩
  show cs.drop 0 = _
  rw [cut_at cs 0 1 1 rfl, e0, cut_at cs 1 1 2 rfl, e1, cut_at cs 2 1 3 rfl, e2, cut_at cs 3 1 4 rfl, e3, cut_at cs 4 1 5 rfl, e4, cut_at cs 5 1 6 rfl, e5, cut_at cs 6 1 7 rfl, e6, cut_at cs 7 1 8 rfl, e7, cut_at cs 8 1 9 rfl, e8, cut_at cs 9 1 10 rfl, e9, cut_at cs 10 1 11 rfl, e10, cut_at cs 11 2 13 rfl, e11, cut_at cs 13 2 15 rfl, e12, cut_at cs 15 2 17 rfl, e13, cut_at cs 17 2 19 rfl, e14, cut_at cs 19 2 21 rfl, e15, cut_at cs 21 2 23 rfl, e16, cut_at cs 23 2 25 rfl, e17, cut_at cs 25 1 26 rfl, e18, cut_at cs 26 12 38 rfl, e19, cut_at cs 38 12 50 rfl, e20, cut_at cs 50 4 54 rfl, e21, cut_at cs 54 4 58 rfl, e22, cut_at cs 58 1 59 rfl, e23, cut_at cs 59 1 60 rfl, e24, hz]
  rfl

end Go.Proofs.YthffgbhphjkdeaaDoor
namespace Go.Proofs.YthffgbhphjkdeaaDoor
open Go.RowKit

theorem NodeSlice.wide {o : Bool} {R S : Nat → Prop} {w : World} {a : Option Addr} {l : List Node} (h : NodeSlice o R w a l) (hs : ∀ k, k < w.heap.size → R k → S k) : NodeSlice o S w a l := SliceAt.wideBy h hs fun _ _ hx => hx.wide hs
/-- A tree, read from its cells; o: it may be written. -/
def TreeIn (o : Bool) (R : Nat → Prop) (w : World) (cs : List Value) (l : List Node) : Prop :=
  ∃ a c, cs = [.slice a l.length c] ∧ NodeSlice o R w a l ∧ (o = true → Wr 144 64 R w a l.length)
theorem TreeIn.mod {o : Bool} {R S : Nat → Prop} {w w' : World} {cs : List Value} {x : List Node} (h : TreeIn o R w cs x) (hm : Mod S w w') (hs : ∀ k, R k → ¬ S k) : TreeIn o R w' cs x := by
  obtain ⟨a, c, h1, h2, h3⟩ := h
  exact ⟨a, c, h1, NodeSlice.mod h2 hm hs, fun ho => (h3 ho).mod hm hs⟩
theorem TreeIn.keep {o : Bool} {R : Nat → Prop} {w w' : World} {cs : List Value} {x : List Node} (h : TreeIn o R w cs x) (hm : Mod (fun _ => False) w w') : TreeIn o R w' cs x := h.mod hm fun _ _ f => f
theorem TreeIn.wide {o : Bool} {R S : Nat → Prop} {w : World} {cs : List Value} {x : List Node} (h : TreeIn o R w cs x) (hs : ∀ k, k < w.heap.size → R k → S k) : TreeIn o S w cs x := by
  obtain ⟨a, c, h1, h2, h3⟩ := h
  exact ⟨a, c, h1, NodeSlice.wide h2 hs, fun ho => (h3 ho).weaken hs⟩
/-- Lengths that a walk can bear. -/
def treeFits (n : Nat) (l : List Node) : Prop := l.length ≤ n ∧ ∀ x ∈ l, x.fits n
def treeCost (l : List Node) : Nat := l.length + costs Node.cost l
theorem treeFits_of {l : List Node} {n : Nat} (h : treeCost l ≤ n) : treeFits n l := by
  unfold treeCost at h
  refine ⟨by omega, fun x hx => ?_⟩
  have := costs_mem Node.cost hx
  have e : x.cost = x.kids.length + x.rules.length := rfl
  unfold Node.fits
  omega

set_option maxHeartbeats 2000000 in
theorem toTree_any (x : List Node) (o : Bool) (cs : List Value) (R : Nat → Prop) (w : World) (hf : treeFits 1048576 x) (h : TreeIn o R w cs x) :
    Calls Tryd.prog 40 #[.agg cs.toArray] w fun e w' => ∃ cs', e = .returned (.agg cs'.toArray) ∧ TreeIn true (fun b => w.heap.size ≤ b) w' cs' x ∧ Mod (fun _ => False) w w' := by
  obtain ⟨a, c, rfl, h1, _⟩ := h
  obtain ⟨f1, f2⟩ := hf
  have H1 := hid h1
  have F2 := hid f2
  clear h1 f2
  go_enter Tryd.func40, Tryd.ntmps40
  go_wp2_with fail
  refine (toNodeS_any x o _ _ R _ f1 F2.out (H1.out.keep (by (repeat (first | with_reducible exact Mod.refl _ _ | with_reducible refine Mod.drewN ?_ _ | with_reducible refine Mod.drew ?_ | with_reducible refine Mod.alloc ?_ _ | ((with_reducible refine Mod.setNew ?_ ?_ _ _ _); (rotate_left; omega)) | with_reducible refine Mod.setAt ?_ _ _ _ ))))).mono ?_
  intro e w1 hh
  obtain ⟨g1, rfl, hg1, s1, u1, hm1⟩ := hh.use
  obtain ⟨hq1, hz1⟩ := mcell hm1
  have hs1 := hm1.size
  repeat (first | rw [World.size_alloc] at hs1 | rw [World.size_setCell] at hs1 | rw [World.size_drew] at hs1 | unfold World.drewN at hs1)
  have hr1_0 : w.heap.size < w1.heap.size := by omega
  have hr1_1 : w.heap.size + 1 < w1.heap.size := by omega
  have hr1_2 : w.heap.size + 1 + 1 < w1.heap.size := by omega
  have hM1 : Mod (fun _ => False) w w1 := by (repeat (first | with_reducible exact Mod.refl _ _ | with_reducible refine Mod.drewN ?_ _ | with_reducible refine Mod.drew ?_ | with_reducible refine Mod.alloc ?_ _ | ((with_reducible refine Mod.setNew ?_ ?_ _ _ _); (rotate_left; omega)) | with_reducible refine Mod.setAt ?_ _ _ _ | with_reducible exact hm1 | with_reducible refine Mod.thenNone ?_ hm1 ))
  have S1 := hid (NodeSlice.wide s1 (S := fun b => w.heap.size + 1 + 1 + 1 ≤ b) (fun k _ hk => by simpa using hk))
  have U1 := hid (u1.weaken (S := fun b => w.heap.size + 1 + 1 + 1 ≤ b) (fun k _ hk => by simpa using hk))
  clear hh s1 u1 hm1
  go_wp2
  have hfin : ∀ W : World, Mod (fun k => k = w.heap.size + 1 + 1 ∨ k = w.heap.size + 1) w1 W → TreeIn true (fun b => w.heap.size ≤ b) W [.slice (some ⟨g1, 0, none⟩) x.length x.length] x := by
    intro W hW
    have k1 : ∀ k, w.heap.size + 1 + 1 + 1 ≤ k → ¬ (k = w.heap.size + 1 + 1 ∨ k = w.heap.size + 1) := by omega
    exact TreeIn.wide ⟨_, _, rfl, NodeSlice.mod S1.out hW k1, fun _ => U1.out.mod hW k1⟩ (fun k _ hk => by show w.heap.size ≤ k; omega)
  refine bodyPost_ret (v := .agg [.slice (some ⟨g1, 0, none⟩) x.length x.length].toArray) ?_ rfl ⟨_, rfl, hfin _ ?_, ?_⟩
  · simp [results, Tryd.results40, go_sem, *]
  · refine Mod.setCell (Mod.setCell (Mod.refl _ _) (fun _ => .inl (.inl rfl)) _) (fun _ => .inl (.inr rfl)) _
  · (repeat (first | with_reducible exact Mod.refl _ _ | with_reducible refine Mod.drewN ?_ _ | with_reducible refine Mod.drew ?_ | with_reducible refine Mod.alloc ?_ _ | ((with_reducible refine Mod.setNew ?_ ?_ _ _ _); (rotate_left; omega)) | with_reducible refine Mod.setAt ?_ _ _ _ | with_reducible exact hM1 | with_reducible refine Mod.thenNone ?_ hM1 ))

set_option maxHeartbeats 2000000 in
theorem eqTree_same (x : List Node) (o o' : Bool) (cs cs' : List Value) (R S : Nat → Prop) (w : World) (hf : treeFits 1048576 x) (h : TreeIn o R w cs x) (h' : TreeIn o' S w cs' x) :
    Calls Tryd.prog 42 #[.agg cs.toArray, .agg cs'.toArray] w fun e w' => e = .returned (.bool true) ∧ Mod (fun _ => False) w w' := by
  obtain ⟨m, c, rfl, h1, _⟩ := h
  obtain ⟨m', d, rfl, h1', _⟩ := h'
  obtain ⟨f1, f3⟩ := hf
  have H1 := hid h1
  have H1' := hid h1'
  have F3 := hid f3
  clear h1 h1' f3
  go_enter Tryd.func42, Tryd.ntmps42
  go_wp2_with fail
  refine (eqNodeS_same x o o' _ _ _ _ R S _ f1 F3.out (H1.out.keep (by (repeat (first | with_reducible exact Mod.refl _ _ | with_reducible refine Mod.drewN ?_ _ | with_reducible refine Mod.drew ?_ | with_reducible refine Mod.alloc ?_ _ | ((with_reducible refine Mod.setNew ?_ ?_ _ _ _); (rotate_left; omega)) | with_reducible refine Mod.setAt ?_ _ _ _ )))) (H1'.out.keep (by (repeat (first | with_reducible exact Mod.refl _ _ | with_reducible refine Mod.drewN ?_ _ | with_reducible refine Mod.drew ?_ | with_reducible refine Mod.alloc ?_ _ | ((with_reducible refine Mod.setNew ?_ ?_ _ _ _); (rotate_left; omega)) | with_reducible refine Mod.setAt ?_ _ _ _ ))))).mono ?_
  rintro e w1 ⟨rfl, hm1⟩
  have hM1 : Mod (fun _ => False) w w1 := by (repeat (first | with_reducible exact Mod.refl _ _ | with_reducible refine Mod.drewN ?_ _ | with_reducible refine Mod.drew ?_ | with_reducible refine Mod.alloc ?_ _ | ((with_reducible refine Mod.setNew ?_ ?_ _ _ _); (rotate_left; omega)) | with_reducible refine Mod.setAt ?_ _ _ _ | with_reducible exact hm1 | with_reducible refine Mod.thenNone ?_ hm1 ))
  go_wp2
  go_ret
  exact ⟨rfl, hM1⟩

set_option maxHeartbeats 2000000 in
theorem szTree_any (x : List Node) (o : Bool) (cs : List Value) (R : Nat → Prop) (left : Int) (w : World) (h0 : 0 ≤ left) (h1 : left ≤ 1048576) (hf : treeFits 9223372036854775807 x) (h : TreeIn o R w cs x) :
    Calls Tryd.prog 38 #[.agg cs.toArray, .int .i64 left] w fun e w' => e = .returned (.int .i64 (szRes left (treeCost x))) ∧ Mod (fun _ => False) w w' := by
  obtain ⟨m, c, rfl, hs, _⟩ := h
  obtain ⟨f1, f3⟩ := hf
  have H := hid hs
  have F3 := hid f3
  clear hs f3
  go_enter Tryd.func38, Tryd.ntmps38
  go_wp2_with fail
  refine (szNodeS_any x o _ _ R left _ h0 h1 f1 F3.out (H.out.keep (by (repeat (first | with_reducible exact Mod.refl _ _ | with_reducible refine Mod.drewN ?_ _ | with_reducible refine Mod.drew ?_ | with_reducible refine Mod.alloc ?_ _ | ((with_reducible refine Mod.setNew ?_ ?_ _ _ _); (rotate_left; omega)) | with_reducible refine Mod.setAt ?_ _ _ _ ))))).mono ?_
  rintro e w1 ⟨rfl, hm1⟩
  have hM1 : Mod (fun _ => False) w w1 := by (repeat (first | with_reducible exact Mod.refl _ _ | with_reducible refine Mod.drewN ?_ _ | with_reducible refine Mod.drew ?_ | with_reducible refine Mod.alloc ?_ _ | ((with_reducible refine Mod.setNew ?_ ?_ _ _ _); (rotate_left; omega)) | with_reducible refine Mod.setAt ?_ _ _ _ | with_reducible exact hm1 | with_reducible refine Mod.thenNone ?_ hm1 ))
  by_cases hs : left < (x.length + costs Node.cost x : Nat)
  · rw [szRes_less hs]
    have hc := hid (szRes_less (left := left) (n := treeCost x) hs)
    go_wp2
    go_ret
    exact ⟨ret_int hc.out.symm, hM1⟩
  · rw [szRes_more (by omega)]
    have hc := hid (szRes_more (left := left) (n := treeCost x) (by unfold treeCost; omega))
    have h2 : 0 ≤ left - (x.length + costs Node.cost x : Nat) := by omega
    unfold treeCost at hc
    generalize left - ((x.length + costs Node.cost x : Nat) : Int) = q at hc h2
    go_wp2
    go_ret
    exact ⟨ret_int hc.out.symm, hM1⟩

set_option maxRecDepth 100000 in
theorem rd_int {w : World} {cs : List Value} (h : Rd Tryd.prog w 3 cs) : ∃ x : Int, cs = icell x := by
  obtain ⟨x, e, _⟩ := h.int Tryd.underlying3
  exact ⟨x, e⟩
set_option maxRecDepth 100000 in
theorem rd_Node {w : World} {cs : List Value} (h : Rd Tryd.prog w 180 cs) : ∃ x : Node, NodeIn false (fun k => k < w.heap.size) w cs x ∧ x.fits 9223372036854775807 := by
  obtain ⟨hl, hf⟩ := h.struct Tryd.underlying180
  have hl2 : cs.length = 64 := hl.trans (by kernel_rfl)
  have z1 : Tryd.prog.cellsOf 3 = 1 := by kernel_rfl
  have z2 : Tryd.prog.cellsOf 122 = 1 := by kernel_rfl
  have z3 : Tryd.prog.cellsOf 29 = 60 := by kernel_rfl
  have z4 : Tryd.prog.cellsOf 4 = 1 := by kernel_rfl
  have z5 : Tryd.prog.cellsOf 68 = 1 := by kernel_rfl
  obtain ⟨up, e0, _⟩ := (hf 0 _ rfl).int Tryd.underlying3
  replace e0 : (cs.drop 0).take (Tryd.prog.cellsOf 3) = [.int .i64 up] := e0
  rw [z1] at e0
  obtain ⟨a, l, c, e1, h1, h2, h3⟩ := (hf 1 _ rfl).list (rep := Flat icell) (sz := 1) Tryd.underlying122 (by kernel_rfl) (by decide) (fun cs h => rd_int h)
  replace e1 : (cs.drop 1).take (Tryd.prog.cellsOf 122) = [.slice a l.length c] := e1
  rw [z2] at e1
  obtain ⟨s, e2⟩ := rdA_Style (hf 2 _ rfl)
  replace e2 : (cs.drop 2).take (Tryd.prog.cellsOf 29) = s.cells := e2
  rw [z3] at e2
  obtain ⟨m, e3⟩ := (hf 3 _ rfl).bool Tryd.underlying4
  replace e3 : (cs.drop 62).take (Tryd.prog.cellsOf 4) = [.bool m] := e3
  rw [z4] at e3
  obtain ⟨a', l', c', e4, h1', h3'⟩ := rd_Table (hf 4 _ rfl)
  replace e4 : (cs.drop 63).take (Tryd.prog.cellsOf 68) = [.slice a' l'.length c'] := e4
  rw [z5] at e4
  have hz : cs.drop 64 = [] := List.drop_eq_nil_of_le (by omega)
  have e : cs = nodeRow up a l.length c s m a' l'.length c' := by
    show cs.drop 0 = _
    rw [cut_at cs 0 1 1 rfl, e0, cut_at cs 1 1 2 rfl, e1, cut_at cs 2 60 62 rfl, e2, cut_at cs 62 1 63 rfl, e3, cut_at cs 63 1 64 rfl, e4, hz]
    simp [nodeRow]
  unfold maxLen at h2
  exact ⟨⟨up, l, s, m, l'⟩, ⟨a, c, a', c', e, h3, h3', fun h => by cases h⟩, by show l.length ≤ _; omega, h1'⟩
set_option maxRecDepth 100000 in
theorem rd_Tree {w : World} {cs : List Value} (h : Rd Tryd.prog w 80 cs) : ∃ x : List Node, TreeIn false (fun k => k < w.heap.size) w cs x ∧ treeFits 9223372036854775807 x := by
  obtain ⟨hl, hf⟩ := h.struct Tryd.underlying80
  have hl2 : cs.length = 1 := hl.trans (by kernel_rfl)
  have c1 : Tryd.prog.cellsOf 78 = 1 := by kernel_rfl
  match cs, hl2 with
  | [q0], _ =>
    obtain ⟨a, l, c, e0, h1, h2, h3⟩ := (hf 0 _ rfl).list (rep := fun w' r x => NodeIn false (fun k => k < w.heap.size) w' r x ∧ x.fits 9223372036854775807) (sz := 64) Tryd.underlying78 (by kernel_rfl) (by decide) (fun cs h => rd_Node h)
    obtain ⟨h4, h5⟩ := h3.split2
    simp [c1] at e0
    unfold maxLen at h2
    exact ⟨l, ⟨a, c, by simp [e0], h4, fun h => by cases h⟩, by omega, h5⟩

end Go.Proofs.YthffgbhphjkdeaaDoor
namespace Go.Proofs.YthffgbhphjkdeaaDoor
open Go.RowKit

theorem keepB_far {P S : Nat → Prop} {W w w' : World} (h : KeepB P W w) (hm : Mod S w w') (hs : ∀ k, k < W.heap.size → ¬ S k) (hz : W.heap.size ≤ w.heap.size) : KeepB P W w' := fun g e N hf => by
  have hg := hf.size
  have e1 := hm.block g (by omega) (hs g hg)
  exact ⟨(h g e N hf).1.mod hm (hs g hg), fun hp => e1.trans ((h g e N hf).2 hp)⟩
/-- What marks keep: blocks that may be written stay so; those of no type in P are as they were. -/
def markRg (W : World) (R : Nat → Prop) (P : Nat → Prop) : Rg W where
  p := fun k => R k ∧ k < W.heap.size
  q := fun _ => False
  J := fun w => W.heap.size ≤ w.heap.size ∧ KeepB P W w
  low := fun _ h => h.2
  sub := fun _ h => h.elim
  keep := fun _ _ _ ⟨hz, h1⟩ hm hs => ⟨Nat.le_trans hz hm.size, keepB_far h1 hm (fun k hk h => (hs k hk h).elim) hz⟩
theorem modlow {R : Nat → Prop} {W w w' : World} (h : Mod (fun k => R k ∧ k < W.heap.size) w w') : Mod R w w' := h.mono fun _ _ h => h.1
theorem Wr.low {e sz : Nat} {R : Nat → Prop} {w : World} {a : Option Addr} {n : Nat} (h : Wr e sz R w a n) : Wr e sz (fun k => R k ∧ k < w.heap.size) w a n := h.weaken fun b hb h => ⟨h, hb⟩

abbrev NoT (_ : Nat) : Prop := False
theorem KeepB.low {R : Nat → Prop} {P : Nat → Prop} {W w : World} (h : (markRg W R P).J w) : KeepB P W w := h.2

end Go.Proofs.YthffgbhphjkdeaaDoor
namespace Go.Proofs.YthffgbhphjkdeaaDoor
open Go.RowKit
set_option linter.unusedVariables false
set_option linter.unusedSimpArgs false

theorem markIntS_wr (n c : Nat) (a : Option Addr) (R : Nat → Prop) (w : World) (q0 : Int) (hq0 : 1 ≤ q0) (hq1 : q0 ≤ 1000000000000000) (hn : n ≤ 1048576) (h : Wr 3 1 R w a n) :
    Calls Tryd.prog 157 #[.slice a n c, .int .i64 q0] w fun e w' => e = .returned (.int .i64 (q0 + n)) ∧ Mod R w w' ∧ KeepB (fun t => t = 3) w w' :=
  mark_wr h fun g N hh => markIntS_any n c a g N w q0 hq0 hq1 (by omega) (by simpa using hh)
theorem markRuleS_wr (n c : Nat) (a : Option Addr) (R : Nat → Prop) (w : World) (q0 : Int) (hq0 : 0 ≤ q0) (hq1 : q0 ≤ 1000000000000000) (hn : n ≤ 1048576) (h : Wr 127 3 R w a n) :
    Calls Tryd.prog 85 #[.slice a n c, .int .i64 q0] w fun e w' => e = .returned (.int .i64 (q0 + n * 3)) ∧ Mod R w w' ∧ KeepB (fun t => t = 127) w w' :=
  mark_wr h fun g N hh => markRuleS_any n c a g N w q0 hq0 hq1 hn hh
/-- The slices in a slice of nodes may be written. -/
def NodeSh (R : Nat → Prop) (g n : Nat) (w : World) : Prop := ∀ i, i < n → (∃ a m c, w.cell? ⟨g, i * 64 + 1, none⟩ = some (.slice a m c) ∧ m ≤ 1048576 ∧ Wr 3 1 R w a m) ∧ ∃ a m c, w.cell? ⟨g, i * 64 + 63, none⟩ = some (.slice a m c) ∧ m ≤ 1048576 ∧ Wr 127 3 R w a m
def NodeWr (R : Nat → Prop) (w : World) (a : Option Addr) (n : Nat) : Prop :=
  n = 0 ∨ ∃ g N, a = some ⟨g, 0, none⟩ ∧ R g ∧ n * 64 ≤ N ∧ Filled g 144 N w [] ∧ NodeSh R g n w
theorem NodeWr.keep {P R : Nat → Prop} {a : Option Addr} {n : Nat} {w w' : World} (h : NodeWr R w a n) (hk : KeepB P w w') (hp : ¬ P 144) : NodeWr R w' a n := by
  rcases h with h | ⟨g, N, h1, h2, h3, h4, h5⟩
  · exact .inl h
  · refine .inr ⟨g, N, h1, h2, h3, (hk g _ N h4).1, fun i hi => ?_⟩
    obtain ⟨⟨a, m, c, q1, q2, q3⟩, ⟨a', m', c', q4, q5, q6⟩⟩ := h5 i hi
    exact ⟨⟨a, m, c, (World.cell?_of_block (a := ⟨g, i * 64 + 1, none⟩) ((hk g _ N h4).2 hp)).trans q1, q2, q3.keep hk⟩, a', m', c', (World.cell?_of_block (a := ⟨g, i * 64 + 63, none⟩) ((hk g _ N h4).2 hp)).trans q4, q5, q6.keep hk⟩
theorem NodeSlice.wr {R : Nat → Prop} {g N : Nat} {w : World} {l : List Node} (h : NodeSlice true R w (some ⟨g, 0, none⟩) l) (hf : Filled g 144 N w []) (hN : l.length * 64 ≤ N) (hm : ∀ x ∈ l, x.fits 1048576) (hR : R g) : NodeWr R w (some ⟨g, 0, none⟩) l.length := by
  refine .inr ⟨g, N, rfl, hR, hN, hf, fun i hi => ?_⟩
  obtain ⟨b, o, x, r, e, hb, hbw, hx, ⟨k, c, t, c', rfl, _, _, h3⟩, hl, hc⟩ := h.get hi
  simp only [Option.some.injEq, Addr.mk.injEq, and_true] at e
  obtain ⟨rfl, rfl⟩ := e
  have h1 := hc 1 _ (nodeRow_1 _ _ _ _ _ _ _ _ _)
  have h63 := hc 63 _ (nodeRow_63 _ _ _ _ _ _ _ _ _)
  rw [Nat.zero_add] at h1 h63
  have hf := hm x (List.mem_of_getElem? hx.out)
  unfold Node.fits at hf
  exact ⟨⟨_, _, _, h1, hf.1, (h3 rfl).1⟩, _, _, _, h63, hf.2, (h3 rfl).2⟩

/-- What marks of nodes keep. -/
def NodeJ (W : World) (g N n : Nat) (w : World) : Prop :=
  KeepB (fun t => t = 144 ∨ t = 3 ∨ t = 127) W w ∧ Filled g 144 N w [] ∧ ∀ i, i < n → w.cell? ⟨g, i * 64 + 1, none⟩ = W.cell? ⟨g, i * 64 + 1, none⟩ ∧ w.cell? ⟨g, i * 64 + 63, none⟩ = W.cell? ⟨g, i * 64 + 63, none⟩
def nodeRg (W : World) (R : Nat → Prop) (g N n : Nat) (hg : g < W.heap.size) : Rg W where
  p := fun k => R k ∧ k < W.heap.size
  q := fun _ => False
  J := fun w => W.heap.size ≤ w.heap.size ∧ NodeJ W g N n w
  low := fun _ h => h.2
  sub := fun _ h => h.elim
  keep := fun S w w' ⟨hz, h1, h2, h3⟩ hm hs => by
    have hgw : g < w.heap.size := by omega
    refine ⟨Nat.le_trans hz hm.size, keepB_far h1 hm (fun k hk h => (hs k hk h).elim) hz, h2.mod hm (fun h => (hs g hg h).elim), fun i hi => ?_⟩
    rw [hm.cell (a := ⟨g, i * 64 + 1, none⟩) hgw (fun h => (hs g hg h).elim), hm.cell (a := ⟨g, i * 64 + 63, none⟩) hgw (fun h => (hs g hg h).elim)]
    exact h3 i hi
theorem NodeJ.set {W w : World} {g N n : Nat} (h : NodeJ W g N n w) (hF : Filled g 144 N W []) {o : Nat} (ho : o < N) (h1 : o % 64 ≠ 1) (h63 : o % 64 ≠ 63) (v : Value) :
    (∃ u, w.cell? ⟨g, o, none⟩ = some u) ∧ w.frozen? ⟨g, o, none⟩ = false ∧ NodeJ W g N n (w.setCell ⟨g, o, none⟩ v) := by
  refine ⟨h.2.1.cell ho, h.2.1.free o, h.1.set hF (.inl rfl) _ _ _, h.2.1.set _ _ _ _, fun i hi => ?_⟩
  have e1 : (⟨g, o, none⟩ : Addr) ≠ ⟨g, i * 64 + 1, none⟩ := by
    intro e; simp only [Addr.mk.injEq, true_and, and_true] at e; omega
  have e2 : (⟨g, o, none⟩ : Addr) ≠ ⟨g, i * 64 + 63, none⟩ := by
    intro e; simp only [Addr.mk.injEq, true_and, and_true] at e; omega
  rw [World.cell?_setCell_other w _ _ _ e1, World.cell?_setCell_other w _ _ _ e2]
  exact h.2.2 i hi

set_option maxRecDepth 100000 in
set_option maxHeartbeats 8000000 in
theorem markNodeS_any (n c : Nat) (a : Option Addr) (R : Nat → Prop) (w : World) (q0 : Int) (hq0 : 1 ≤ q0) (hq1 : q0 ≤ 100000000000000) (hn : n ≤ 1048576) (h : NodeWr R w a n) :
    Calls Tryd.prog 116 #[.slice a n c, .int .i64 q0] w fun e w' => ∃ q : Int, e = .returned (.int .i64 q) ∧ q0 ≤ q ∧ q ≤ q0 + n * 6000000 ∧ Mod R w w' ∧ KeepB (fun t => t = 144 ∨ t = 3 ∨ t = 127) w w' := by
  by_cases h0 : n = 0
  · subst h0
    refine calls_sx Tryd.func116 rfl rfl (fun a h1 h2 h3 => ((Fr.nil h1 h2).arg (h3 1 _ rfl)).arg (h3 0 _ rfl)) ?_
    repeat (first | refine qaL ?_ | refine qaA ?_ | refine qau ?_ | refine qah ?_ | refine SX.block ?_ | refine qaB ?_ | refine qaw rfl ?_ | refine qax rfl ?_ | (refine qaN ?_; (first | refine qaa (qad 0 rfl rfl rfl) rfl ?_ ?_ ?_ | refine qaa (qad 1 rfl rfl rfl) rfl ?_ ?_ ?_ | refine qaa (qad 2 rfl rfl rfl) rfl ?_ ?_ ?_ | refine qaa (qad 3 rfl rfl rfl) rfl ?_ ?_ ?_ | refine qaa (qap rfl (by assumption) (fun h => h)) rfl ?_ ?_ ?_); rfl; rfl) | (refine qas ?_; (first | refine qaa (qaj rfl) rfl ?_ ?_ ?_); rfl; rfl) | (refine qaP ?_; (first | refine qaa (qav rfl) rfl ?_ ?_ ?_); rfl; rfl) | (refine qay ?_; (first | refine qaa (qao rfl) rfl ?_ ?_ ?_); rfl; rfl) | (refine l_len ?_; (first | refine qaa (qaQ rfl) rfl ?_ ?_ ?_); rfl; rfl) | (refine l_add ?_; (first | refine qaa (OpW.succ rfl rfl (by omega)) rfl ?_ ?_ ?_ | refine qaa (qaI rfl rfl (by omega) (by omega)) rfl ?_ ?_ ?_ | refine qaa (OpW.add rfl rfl) rfl ?_ ?_ ?_); rfl; rfl) | (refine l_eql ?_; (first | refine qaa (OpW.eqlT rfl rfl (by omega)) rfl ?_ ?_ ?_ | refine qaa (OpW.eqlF rfl rfl (by omega)) rfl ?_ ?_ ?_ | refine qaa (OpW.eql rfl rfl) rfl ?_ ?_ ?_); rfl; rfl) | (refine l_lss ?_; (first | refine qaa (qaG rfl rfl (by omega)) rfl ?_ ?_ ?_ | refine qaa (qaH rfl rfl (by omega)) rfl ?_ ?_ ?_ | refine qaa (qaO rfl rfl) rfl ?_ ?_ ?_); rfl; rfl) | (refine l_rem ?_; (first | refine qaa (OpW.rem (by omega) rfl rfl) rfl ?_ ?_ ?_); rfl; rfl) | (refine qaz ?_; (first | refine qaa (qaq (by omega) rfl rfl) rfl ?_ ?_ ?_ | refine qaa (qat (by omega) rfl rfl) rfl ?_ ?_ ?_); rfl; rfl) | (refine qaU ?_; first | ((first | refine SXl.store 0 ?_ rfl rfl rfl rfl rfl rfl ?_ | refine SXl.store 1 ?_ rfl rfl rfl rfl rfl rfl ?_ | refine SXl.store 2 ?_ rfl rfl rfl rfl rfl rfl ?_); rfl; simp only [List.set_cons_zero, List.set_cons_succ])) | refine qaM ?_ | refine qaC ?_ | refine qar ?_ | refine qam ?_ | refine qag ?_ | refine qan ?_ | refine qal ?_ | refine qai rfl ?_)
    refine SX.loopi (fun k : Nat => k = 0) (fun _ => 0) (fun _ => []) (fun _ => []) (fun _ => []) (fun k => [(0, .slice a 0 c), (1, .int .i64 q0), (5, .int .i64 k)]) 0 rfl ?_ (fun _ hl => hl) ?_
    · (repeat (first | exact subF_nil _ | (refine subF_cons rfl ?_) | (refine subF_consv rfl (by rfl) ?_)))
    · rintro k rfl
      repeat (first | refine qaL ?_ | refine qaA ?_ | refine qau ?_ | refine qah ?_ | refine SX.block ?_ | refine qaB ?_ | refine qaw rfl ?_ | refine qax rfl ?_ | (refine qaN ?_; (first | refine qaa (qad 0 rfl rfl rfl) rfl ?_ ?_ ?_ | refine qaa (qad 1 rfl rfl rfl) rfl ?_ ?_ ?_ | refine qaa (qad 2 rfl rfl rfl) rfl ?_ ?_ ?_ | refine qaa (qad 3 rfl rfl rfl) rfl ?_ ?_ ?_ | refine qaa (qap rfl (by assumption) (fun h => h)) rfl ?_ ?_ ?_); rfl; rfl) | (refine qas ?_; (first | refine qaa (qaj rfl) rfl ?_ ?_ ?_); rfl; rfl) | (refine qaP ?_; (first | refine qaa (qav rfl) rfl ?_ ?_ ?_); rfl; rfl) | (refine qay ?_; (first | refine qaa (qao rfl) rfl ?_ ?_ ?_); rfl; rfl) | (refine l_len ?_; (first | refine qaa (qaQ rfl) rfl ?_ ?_ ?_); rfl; rfl) | (refine l_add ?_; (first | refine qaa (OpW.succ rfl rfl (by omega)) rfl ?_ ?_ ?_ | refine qaa (qaI rfl rfl (by omega) (by omega)) rfl ?_ ?_ ?_ | refine qaa (OpW.add rfl rfl) rfl ?_ ?_ ?_); rfl; rfl) | (refine l_eql ?_; (first | refine qaa (OpW.eqlT rfl rfl (by omega)) rfl ?_ ?_ ?_ | refine qaa (OpW.eqlF rfl rfl (by omega)) rfl ?_ ?_ ?_ | refine qaa (OpW.eql rfl rfl) rfl ?_ ?_ ?_); rfl; rfl) | (refine l_lss ?_; (first | refine qaa (qaG rfl rfl (by omega)) rfl ?_ ?_ ?_ | refine qaa (qaH rfl rfl (by omega)) rfl ?_ ?_ ?_ | refine qaa (qaO rfl rfl) rfl ?_ ?_ ?_); rfl; rfl) | (refine l_rem ?_; (first | refine qaa (OpW.rem (by omega) rfl rfl) rfl ?_ ?_ ?_); rfl; rfl) | (refine qaz ?_; (first | refine qaa (qaq (by omega) rfl rfl) rfl ?_ ?_ ?_ | refine qaa (qat (by omega) rfl rfl) rfl ?_ ?_ ?_); rfl; rfl) | (refine qaU ?_; first | ((first | refine SXl.store 0 ?_ rfl rfl rfl rfl rfl rfl ?_ | refine SXl.store 1 ?_ rfl rfl rfl rfl rfl rfl ?_ | refine SXl.store 2 ?_ rfl rfl rfl rfl rfl rfl ?_); rfl; simp only [List.set_cons_zero, List.set_cons_succ])) | refine qaM ?_ | refine qaC ?_ | refine qar ?_ | refine qam ?_ | refine qag ?_ | refine qan ?_ | refine qal ?_ | refine qai rfl ?_)
      refine qaJ rfl rfl (fun w' hl => ⟨q0, rfl, by omega, by omega, hl.mod.mono (fun _ _ f => f.elim), KeepB.none hl.mod⟩)
  · obtain ⟨g, N, rfl, hR, hN, hF, hS⟩ := h.resolve_left h0
    have hg := hF.size
    refine calls_sxJ (nodeRg w R g N n hg) ⟨Nat.le_refl _, KeepB.refl _ _, hF, fun _ _ => ⟨rfl, rfl⟩⟩ Tryd.func116 rfl rfl (fun a h1 h2 h3 => ((Fr.nil h1 h2).arg (h3 1 _ rfl)).arg (h3 0 _ rfl)) ?_
    repeat (first | refine qaL ?_ | refine qaA ?_ | refine qau ?_ | refine qah ?_ | refine SX.block ?_ | refine qaB ?_ | refine qaw rfl ?_ | refine qax rfl ?_ | (refine qaN ?_; (first | refine qaa (qad 0 rfl rfl rfl) rfl ?_ ?_ ?_ | refine qaa (qad 1 rfl rfl rfl) rfl ?_ ?_ ?_ | refine qaa (qad 2 rfl rfl rfl) rfl ?_ ?_ ?_ | refine qaa (qad 3 rfl rfl rfl) rfl ?_ ?_ ?_ | refine qaa (qap rfl (by assumption) (fun h => h)) rfl ?_ ?_ ?_); rfl; rfl) | (refine qas ?_; (first | refine qaa (qaj rfl) rfl ?_ ?_ ?_); rfl; rfl) | (refine qaP ?_; (first | refine qaa (qav rfl) rfl ?_ ?_ ?_); rfl; rfl) | (refine qay ?_; (first | refine qaa (qao rfl) rfl ?_ ?_ ?_); rfl; rfl) | (refine l_len ?_; (first | refine qaa (qaQ rfl) rfl ?_ ?_ ?_); rfl; rfl) | (refine l_add ?_; (first | refine qaa (OpW.succ rfl rfl (by omega)) rfl ?_ ?_ ?_ | refine qaa (qaI rfl rfl (by omega) (by omega)) rfl ?_ ?_ ?_ | refine qaa (OpW.add rfl rfl) rfl ?_ ?_ ?_); rfl; rfl) | (refine l_eql ?_; (first | refine qaa (OpW.eqlT rfl rfl (by omega)) rfl ?_ ?_ ?_ | refine qaa (OpW.eqlF rfl rfl (by omega)) rfl ?_ ?_ ?_ | refine qaa (OpW.eql rfl rfl) rfl ?_ ?_ ?_); rfl; rfl) | (refine l_lss ?_; (first | refine qaa (qaG rfl rfl (by omega)) rfl ?_ ?_ ?_ | refine qaa (qaH rfl rfl (by omega)) rfl ?_ ?_ ?_ | refine qaa (qaO rfl rfl) rfl ?_ ?_ ?_); rfl; rfl) | (refine l_rem ?_; (first | refine qaa (OpW.rem (by omega) rfl rfl) rfl ?_ ?_ ?_); rfl; rfl) | (refine qaz ?_; (first | refine qaa (qaq (by omega) rfl rfl) rfl ?_ ?_ ?_ | refine qaa (qat (by omega) rfl rfl) rfl ?_ ?_ ?_); rfl; rfl) | (refine qaU ?_; first | ((first | refine SXl.store 0 ?_ rfl rfl rfl rfl rfl rfl ?_ | refine SXl.store 1 ?_ rfl rfl rfl rfl rfl rfl ?_ | refine SXl.store 2 ?_ rfl rfl rfl rfl rfl rfl ?_); rfl; simp only [List.set_cons_zero, List.set_cons_succ])) | refine qaM ?_ | refine qaC ?_ | refine qar ?_ | refine qam ?_ | refine qag ?_ | refine qan ?_ | refine qal ?_ | refine qai rfl ?_)
    refine SX.loop3 (fun (k : Nat) (q : Int) (_ : Unit) => k ≤ n ∧ q0 ≤ q ∧ q ≤ q0 + k * 6000000) (fun k _ _ => n - k) (fun _ _ _ => []) (fun _ _ _ => []) (fun _ _ _ => []) (fun k q _ => [(0, .slice (some ⟨g, 0, none⟩) n c), (1, .int .i64 q), (5, .int .i64 k)]) 0 q0 () ⟨Nat.zero_le _, by omega, by omega⟩ ?_ (fun _ hl => hl) ?_
    · (repeat (first | exact subF_nil _ | (refine subF_cons rfl ?_) | (refine subF_consv rfl (by rfl) ?_)))
    · rintro k q _ ⟨hk, hq2, hq3⟩
      by_cases hlt : k < n
      · obtain ⟨⟨a1, m1, c1, hc1, hm1, hw1⟩, ⟨a2, m2, c2, hc2, hm2, hw2⟩⟩ := hS k hlt
        have hw1' : Wr 3 1 (fun b => R b ∧ b < w.heap.size) w a1 m1 := hw1.weaken fun b hb h => ⟨h, hb⟩
        have hw2' : Wr 127 3 (fun b => R b ∧ b < w.heap.size) w a2 m2 := hw2.weaken fun b hb h => ⟨h, hb⟩
        have hkN : k * 64 + 64 ≤ N := by omega
        have hp : (nodeRg w R g N n hg).p g := ⟨hR, hg⟩
        have hq : ¬ (nodeRg w R g N n hg).q g := fun h => h
        have hJs : ∀ (o : Nat) (v : Value), o < N → o % 64 ≠ 1 → o % 64 ≠ 63 → ∀ w', (nodeRg w R g N n hg).J w' → (∃ u, w'.cell? ⟨g, o, none⟩ = some u) ∧ w'.frozen? ⟨g, o, none⟩ = false ∧ (nodeRg w R g N n hg).J (w'.setCell ⟨g, o, none⟩ v) := fun o v h1 h2 h3 w' hJ => by
          obtain ⟨q1, q2, q3⟩ := hJ.2.set hF h1 h2 h3 v
          exact ⟨q1, q2, by rw [World.size_setCell]; exact hJ.1, q3⟩
        have hJc : ∀ (p : Nat → Prop), (∀ t, p t → t = 3 ∨ t = 127) → ∀ w' w2, (nodeRg w R g N n hg).J w' → Mod (nodeRg w R g N n hg).p w' w2 → KeepB p w' w2 → (nodeRg w R g N n hg).J w2 := fun p hp w' w2 hJ hm hk => by
          have hgs := (hk g _ N hJ.2.2.1).2 (fun h => by rcases hp _ h with h | h <;> exact absurd h (by decide))
          refine ⟨Nat.le_trans hJ.1 hm.size, hJ.2.1.trans (hk.mono fun t ht => .inr (hp t ht)), (hk g _ N hJ.2.2.1).1, fun i hi => ?_⟩
          rw [World.cell?_of_block (a := ⟨g, i * 64 + 1, none⟩) hgs, World.cell?_of_block (a := ⟨g, i * 64 + 63, none⟩) hgs]
          exact hJ.2.2.2 i hi
        repeat (first | refine qaL ?_ | refine qaA ?_ | refine qau ?_ | refine qah ?_ | refine SX.block ?_ | refine qaB ?_ | refine qaw rfl ?_ | refine qax rfl ?_ | (refine qaN ?_; (first | refine qaa (OpW.loadJ rfl (fun w' hJ => ((congrArg (fun o => w'.cell? ⟨g, o, none⟩) (by omega)).trans (hJ.2.2.2 k hlt).1).trans hc1)) rfl ?_ ?_ ?_ | refine qaa (OpW.loadJ rfl (fun w' hJ => ((congrArg (fun o => w'.cell? ⟨g, o, none⟩) (by omega)).trans (hJ.2.2.2 k hlt).2).trans hc2)) rfl ?_ ?_ ?_ | refine qaa (qad 0 rfl rfl rfl) rfl ?_ ?_ ?_ | refine qaa (qad 1 rfl rfl rfl) rfl ?_ ?_ ?_ | refine qaa (qad 2 rfl rfl rfl) rfl ?_ ?_ ?_ | refine qaa (qad 3 rfl rfl rfl) rfl ?_ ?_ ?_ | refine qaa (qap rfl (by assumption) (fun h => h)) rfl ?_ ?_ ?_); rfl; rfl) | (refine qas ?_; (first | refine qaa (qaj rfl) rfl ?_ ?_ ?_); rfl; rfl) | (refine qaP ?_; (first | refine qaa (qav rfl) rfl ?_ ?_ ?_); rfl; rfl) | (refine qay ?_; (first | refine qaa (qao rfl) rfl ?_ ?_ ?_); rfl; rfl) | (refine l_len ?_; (first | refine qaa (qaQ rfl) rfl ?_ ?_ ?_); rfl; rfl) | (refine l_add ?_; (first | refine qaa (OpW.succ rfl rfl (by omega)) rfl ?_ ?_ ?_ | refine qaa (qaI rfl rfl (by omega) (by omega)) rfl ?_ ?_ ?_ | refine qaa (OpW.add rfl rfl) rfl ?_ ?_ ?_); rfl; rfl) | (refine l_eql ?_; (first | refine qaa (OpW.eqlT rfl rfl (by omega)) rfl ?_ ?_ ?_ | refine qaa (OpW.eqlF rfl rfl (by omega)) rfl ?_ ?_ ?_ | refine qaa (OpW.eql rfl rfl) rfl ?_ ?_ ?_); rfl; rfl) | (refine l_lss ?_; (first | refine qaa (qaG rfl rfl (by omega)) rfl ?_ ?_ ?_ | refine qaa (qaH rfl rfl (by omega)) rfl ?_ ?_ ?_ | refine qaa (qaO rfl rfl) rfl ?_ ?_ ?_); rfl; rfl) | (refine l_rem ?_; (first | refine qaa (OpW.rem (by omega) rfl rfl) rfl ?_ ?_ ?_); rfl; rfl) | (refine qaz ?_; (first | refine qaa (qaq (by omega) rfl rfl) rfl ?_ ?_ ?_ | refine qaa (qat (by omega) rfl rfl) rfl ?_ ?_ ?_); rfl; rfl) | (refine qaU ?_; first | ((first | refine SXl.store 0 ?_ rfl rfl rfl rfl rfl rfl ?_ | refine SXl.store 1 ?_ rfl rfl rfl rfl rfl rfl ?_ | refine SXl.store 2 ?_ rfl rfl rfl rfl rfl rfl ?_); rfl; simp only [List.set_cons_zero, List.set_cons_succ])) | (refine qaU ?_; refine SXl.storeJ hp hq rfl rfl rfl rfl (hJs _ _ (by omega) (by omega) (by omega)) ?_) | refine qaM ?_ | refine qaC ?_ | refine qar ?_ | refine qam ?_ | refine qag ?_ | refine qan ?_ | refine qal ?_ | refine qai rfl ?_)
        refine qaR ?_
        refine SXl.callJ1 (fun _ h => h) rfl rfl rfl (fun w' hl => (markIntS_wr m1 c1 a1 _ w' _ (by omega) (by omega) hm1 (hw1'.keep hl.inv.2.1)).mono fun e w2 ⟨he, hm, hk⟩ => ⟨he, hm, hJc _ (fun t h => .inl h) w' w2 hl.inv hm hk⟩) ?_
        repeat (first | refine qaL ?_ | refine qaA ?_ | refine qau ?_ | refine qah ?_ | refine SX.block ?_ | refine qaB ?_ | refine qaw rfl ?_ | refine qax rfl ?_ | (refine qaN ?_; (first | refine qaa (OpW.loadJ rfl (fun w' hJ => ((congrArg (fun o => w'.cell? ⟨g, o, none⟩) (by omega)).trans (hJ.2.2.2 k hlt).1).trans hc1)) rfl ?_ ?_ ?_ | refine qaa (OpW.loadJ rfl (fun w' hJ => ((congrArg (fun o => w'.cell? ⟨g, o, none⟩) (by omega)).trans (hJ.2.2.2 k hlt).2).trans hc2)) rfl ?_ ?_ ?_ | refine qaa (qad 0 rfl rfl rfl) rfl ?_ ?_ ?_ | refine qaa (qad 1 rfl rfl rfl) rfl ?_ ?_ ?_ | refine qaa (qad 2 rfl rfl rfl) rfl ?_ ?_ ?_ | refine qaa (qad 3 rfl rfl rfl) rfl ?_ ?_ ?_ | refine qaa (qap rfl (by assumption) (fun h => h)) rfl ?_ ?_ ?_); rfl; rfl) | (refine qas ?_; (first | refine qaa (qaj rfl) rfl ?_ ?_ ?_); rfl; rfl) | (refine qaP ?_; (first | refine qaa (qav rfl) rfl ?_ ?_ ?_); rfl; rfl) | (refine qay ?_; (first | refine qaa (qao rfl) rfl ?_ ?_ ?_); rfl; rfl) | (refine l_len ?_; (first | refine qaa (qaQ rfl) rfl ?_ ?_ ?_); rfl; rfl) | (refine l_add ?_; (first | refine qaa (OpW.succ rfl rfl (by omega)) rfl ?_ ?_ ?_ | refine qaa (qaI rfl rfl (by omega) (by omega)) rfl ?_ ?_ ?_ | refine qaa (OpW.add rfl rfl) rfl ?_ ?_ ?_); rfl; rfl) | (refine l_eql ?_; (first | refine qaa (OpW.eqlT rfl rfl (by omega)) rfl ?_ ?_ ?_ | refine qaa (OpW.eqlF rfl rfl (by omega)) rfl ?_ ?_ ?_ | refine qaa (OpW.eql rfl rfl) rfl ?_ ?_ ?_); rfl; rfl) | (refine l_lss ?_; (first | refine qaa (qaG rfl rfl (by omega)) rfl ?_ ?_ ?_ | refine qaa (qaH rfl rfl (by omega)) rfl ?_ ?_ ?_ | refine qaa (qaO rfl rfl) rfl ?_ ?_ ?_); rfl; rfl) | (refine l_rem ?_; (first | refine qaa (OpW.rem (by omega) rfl rfl) rfl ?_ ?_ ?_); rfl; rfl) | (refine qaz ?_; (first | refine qaa (qaq (by omega) rfl rfl) rfl ?_ ?_ ?_ | refine qaa (qat (by omega) rfl rfl) rfl ?_ ?_ ?_); rfl; rfl) | (refine qaU ?_; first | ((first | refine SXl.store 0 ?_ rfl rfl rfl rfl rfl rfl ?_ | refine SXl.store 1 ?_ rfl rfl rfl rfl rfl rfl ?_ | refine SXl.store 2 ?_ rfl rfl rfl rfl rfl rfl ?_); rfl; simp only [List.set_cons_zero, List.set_cons_succ])) | (refine qaU ?_; refine SXl.storeJ hp hq rfl rfl rfl rfl (hJs _ _ (by omega) (by omega) (by omega)) ?_) | refine qaM ?_ | refine qaC ?_ | refine qar ?_ | refine qam ?_ | refine qag ?_ | refine qan ?_ | refine qal ?_ | refine qai rfl ?_)
        refine qaR ?_
        refine SXl.callJ1 (fun _ h => h) rfl rfl rfl (fun w' hl => (markRuleS_wr m2 c2 a2 _ w' _ (by omega) (by omega) hm2 (hw2'.keep hl.inv.2.1)).mono fun e w2 ⟨he, hm, hk⟩ => ⟨he, hm, hJc _ (fun t h => .inr h) w' w2 hl.inv hm hk⟩) ?_
        repeat (first | refine qaL ?_ | refine qaA ?_ | refine qau ?_ | refine qah ?_ | refine SX.block ?_ | refine qaB ?_ | refine qaw rfl ?_ | refine qax rfl ?_ | (refine qaN ?_; (first | refine qaa (OpW.loadJ rfl (fun w' hJ => ((congrArg (fun o => w'.cell? ⟨g, o, none⟩) (by omega)).trans (hJ.2.2.2 k hlt).1).trans hc1)) rfl ?_ ?_ ?_ | refine qaa (OpW.loadJ rfl (fun w' hJ => ((congrArg (fun o => w'.cell? ⟨g, o, none⟩) (by omega)).trans (hJ.2.2.2 k hlt).2).trans hc2)) rfl ?_ ?_ ?_ | refine qaa (qad 0 rfl rfl rfl) rfl ?_ ?_ ?_ | refine qaa (qad 1 rfl rfl rfl) rfl ?_ ?_ ?_ | refine qaa (qad 2 rfl rfl rfl) rfl ?_ ?_ ?_ | refine qaa (qad 3 rfl rfl rfl) rfl ?_ ?_ ?_ | refine qaa (qap rfl (by assumption) (fun h => h)) rfl ?_ ?_ ?_); rfl; rfl) | (refine qas ?_; (first | refine qaa (qaj rfl) rfl ?_ ?_ ?_); rfl; rfl) | (refine qaP ?_; (first | refine qaa (qav rfl) rfl ?_ ?_ ?_); rfl; rfl) | (refine qay ?_; (first | refine qaa (qao rfl) rfl ?_ ?_ ?_); rfl; rfl) | (refine l_len ?_; (first | refine qaa (qaQ rfl) rfl ?_ ?_ ?_); rfl; rfl) | (refine l_add ?_; (first | refine qaa (OpW.succ rfl rfl (by omega)) rfl ?_ ?_ ?_ | refine qaa (qaI rfl rfl (by omega) (by omega)) rfl ?_ ?_ ?_ | refine qaa (OpW.add rfl rfl) rfl ?_ ?_ ?_); rfl; rfl) | (refine l_eql ?_; (first | refine qaa (OpW.eqlT rfl rfl (by omega)) rfl ?_ ?_ ?_ | refine qaa (OpW.eqlF rfl rfl (by omega)) rfl ?_ ?_ ?_ | refine qaa (OpW.eql rfl rfl) rfl ?_ ?_ ?_); rfl; rfl) | (refine l_lss ?_; (first | refine qaa (qaG rfl rfl (by omega)) rfl ?_ ?_ ?_ | refine qaa (qaH rfl rfl (by omega)) rfl ?_ ?_ ?_ | refine qaa (qaO rfl rfl) rfl ?_ ?_ ?_); rfl; rfl) | (refine l_rem ?_; (first | refine qaa (OpW.rem (by omega) rfl rfl) rfl ?_ ?_ ?_); rfl; rfl) | (refine qaz ?_; (first | refine qaa (qaq (by omega) rfl rfl) rfl ?_ ?_ ?_ | refine qaa (qat (by omega) rfl rfl) rfl ?_ ?_ ?_); rfl; rfl) | (refine qaU ?_; first | ((first | refine SXl.store 0 ?_ rfl rfl rfl rfl rfl rfl ?_ | refine SXl.store 1 ?_ rfl rfl rfl rfl rfl rfl ?_ | refine SXl.store 2 ?_ rfl rfl rfl rfl rfl rfl ?_); rfl; simp only [List.set_cons_zero, List.set_cons_succ])) | (refine qaU ?_; refine SXl.storeJ hp hq rfl rfl rfl rfl (hJs _ _ (by omega) (by omega) (by omega)) ?_) | refine qaM ?_ | refine qaC ?_ | refine qar ?_ | refine qam ?_ | refine qag ?_ | refine qan ?_ | refine qal ?_ | refine qai rfl ?_)
        refine SQ.round3 (k + 1) ?jq () ⟨by omega, ?ha, ?hb⟩ (by omega) ?hs (fun w hl => hl)
        case hs => (repeat (first | exact subF_nil _ | (refine subF_cons rfl ?_) | (refine subF_consv rfl (by rfl) ?_)))
        case ha => omega
        case hb => omega
      · repeat (first | refine qaL ?_ | refine qaA ?_ | refine qau ?_ | refine qah ?_ | refine SX.block ?_ | refine qaB ?_ | refine qaw rfl ?_ | refine qax rfl ?_ | (refine qaN ?_; (first | refine qaa (qad 0 rfl rfl rfl) rfl ?_ ?_ ?_ | refine qaa (qad 1 rfl rfl rfl) rfl ?_ ?_ ?_ | refine qaa (qad 2 rfl rfl rfl) rfl ?_ ?_ ?_ | refine qaa (qad 3 rfl rfl rfl) rfl ?_ ?_ ?_ | refine qaa (qap rfl (by assumption) (fun h => h)) rfl ?_ ?_ ?_); rfl; rfl) | (refine qas ?_; (first | refine qaa (qaj rfl) rfl ?_ ?_ ?_); rfl; rfl) | (refine qaP ?_; (first | refine qaa (qav rfl) rfl ?_ ?_ ?_); rfl; rfl) | (refine qay ?_; (first | refine qaa (qao rfl) rfl ?_ ?_ ?_); rfl; rfl) | (refine l_len ?_; (first | refine qaa (qaQ rfl) rfl ?_ ?_ ?_); rfl; rfl) | (refine l_add ?_; (first | refine qaa (OpW.succ rfl rfl (by omega)) rfl ?_ ?_ ?_ | refine qaa (qaI rfl rfl (by omega) (by omega)) rfl ?_ ?_ ?_ | refine qaa (OpW.add rfl rfl) rfl ?_ ?_ ?_); rfl; rfl) | (refine l_eql ?_; (first | refine qaa (OpW.eqlT rfl rfl (by omega)) rfl ?_ ?_ ?_ | refine qaa (OpW.eqlF rfl rfl (by omega)) rfl ?_ ?_ ?_ | refine qaa (OpW.eql rfl rfl) rfl ?_ ?_ ?_); rfl; rfl) | (refine l_lss ?_; (first | refine qaa (qaG rfl rfl (by omega)) rfl ?_ ?_ ?_ | refine qaa (qaH rfl rfl (by omega)) rfl ?_ ?_ ?_ | refine qaa (qaO rfl rfl) rfl ?_ ?_ ?_); rfl; rfl) | (refine l_rem ?_; (first | refine qaa (OpW.rem (by omega) rfl rfl) rfl ?_ ?_ ?_); rfl; rfl) | (refine qaz ?_; (first | refine qaa (qaq (by omega) rfl rfl) rfl ?_ ?_ ?_ | refine qaa (qat (by omega) rfl rfl) rfl ?_ ?_ ?_); rfl; rfl) | (refine qaU ?_; first | ((first | refine SXl.store 0 ?_ rfl rfl rfl rfl rfl rfl ?_ | refine SXl.store 1 ?_ rfl rfl rfl rfl rfl rfl ?_ | refine SXl.store 2 ?_ rfl rfl rfl rfl rfl rfl ?_); rfl; simp only [List.set_cons_zero, List.set_cons_succ])) | refine qaM ?_ | refine qaC ?_ | refine qar ?_ | refine qam ?_ | refine qag ?_ | refine qan ?_ | refine qal ?_ | refine qai rfl ?_)
        refine qaJ rfl rfl (fun w' hl => ?_)
        have hkn : k = n := by omega
        subst hkn
        exact ⟨q, rfl, by omega, by omega, hl.mod.mono (fun _ _ h => h.1), hl.inv.2.1⟩

abbrev NodeT (t : Nat) : Prop := t = 144 ∨ t = 3 ∨ t = 127
theorem NodeWr.low {R : Nat → Prop} {w : World} {a : Option Addr} {n : Nat} (h : NodeWr R w a n) : NodeWr (fun k => R k ∧ k < w.heap.size) w a n := by
  rcases h with h | ⟨g, N, h1, h2, h3, h4, h5⟩
  · exact .inl h
  · refine .inr ⟨g, N, h1, ⟨h2, h4.size⟩, h3, h4, fun i hi => ?_⟩
    obtain ⟨⟨a, m, c, q1, q2, q3⟩, ⟨a', m', c', q4, q5, q6⟩⟩ := h5 i hi
    exact ⟨⟨a, m, c, q1, q2, q3.weaken fun b hb h => ⟨h, hb⟩⟩, a', m', c', q4, q5, q6.weaken fun b hb h => ⟨h, hb⟩⟩
set_option maxRecDepth 100000 in
theorem markTree_any (n c : Nat) (a : Option Addr) (R : Nat → Prop) (w : World) (q0 : Int) (hq0 : 1 ≤ q0) (hq1 : q0 ≤ 100000000000000) (hn : n ≤ 1048576) (h : NodeWr R w a n) :
    Calls Tryd.prog 43 #[.agg #[.slice a n c], .int .i64 q0] w fun e w' => ∃ q : Int, e = .returned (.int .i64 q) ∧ q0 ≤ q ∧ q ≤ q0 + n * 6000000 ∧ Mod R w w' ∧ KeepB NodeT w w' := by
  refine calls_sxJ (markRg w R NoT) ⟨Nat.le_refl _, KeepB.refl _ _⟩ Tryd.func43 rfl rfl (fun a h1 h2 h3 => ((Fr.nil h1 h2).arg (h3 1 _ rfl)).arg (h3 0 _ rfl)) ?_
  repeat (first | refine qaL ?_ | refine qaA ?_ | refine qau ?_ | refine qah ?_ | refine SX.block ?_ | refine qaB ?_ | refine qaw rfl ?_ | refine qax rfl ?_ | (refine qaN ?_; (first | refine qaa (qad 0 rfl rfl rfl) rfl ?_ ?_ ?_ | refine qaa (qad 1 rfl rfl rfl) rfl ?_ ?_ ?_ | refine qaa (qad 2 rfl rfl rfl) rfl ?_ ?_ ?_ | refine qaa (qad 3 rfl rfl rfl) rfl ?_ ?_ ?_ | refine qaa (qap rfl (by assumption) (fun h => h)) rfl ?_ ?_ ?_); rfl; rfl) | (refine qas ?_; (first | refine qaa (qaj rfl) rfl ?_ ?_ ?_); rfl; rfl) | (refine qaP ?_; (first | refine qaa (qav rfl) rfl ?_ ?_ ?_); rfl; rfl) | (refine qay ?_; (first | refine qaa (qao rfl) rfl ?_ ?_ ?_); rfl; rfl) | (refine qbb ?_; refine qaF ?_ ?_ rfl rfl (fun g => ?_); rfl; rfl) | refine qaM ?_ | refine qaC ?_ | refine qar ?_ | refine qam ?_ | refine qag ?_ | refine qan ?_ | refine qal ?_ | refine qai rfl ?_)
  refine qaR ?_
  refine SXl.callJ2 (ξ := Int) (v := fun q => .int .i64 q) (markRg w R NodeT) (fun _ h => h) (fun _ h => h) rfl rfl rfl (fun q => q0 ≤ q ∧ q ≤ q0 + n * 6000000) (fun w' hl => (markNodeS_any n c a _ w' q0 hq0 hq1 hn (h.low.keep hl.inv.2 (fun f => f))).mono fun e w2 ⟨q, he, h1, h2, hm, hk⟩ => ⟨q, he, ⟨h1, h2⟩, hm, Nat.le_trans hl.inv.1 hm.size, (hl.inv.2.mono (fun _ f => f.elim)).trans hk⟩) ?_
  intro q ⟨h1, h2⟩
  repeat (first | refine qaL ?_ | refine qaA ?_ | refine qau ?_ | refine qah ?_ | refine SX.block ?_ | refine qaB ?_ | refine qaw rfl ?_ | refine qax rfl ?_ | (refine qaN ?_; (first | refine qaa (qad 0 rfl rfl rfl) rfl ?_ ?_ ?_ | refine qaa (qad 1 rfl rfl rfl) rfl ?_ ?_ ?_ | refine qaa (qad 2 rfl rfl rfl) rfl ?_ ?_ ?_ | refine qaa (qad 3 rfl rfl rfl) rfl ?_ ?_ ?_ | refine qaa (qap rfl (by assumption) (fun h => h)) rfl ?_ ?_ ?_); rfl; rfl) | (refine qas ?_; (first | refine qaa (qaj rfl) rfl ?_ ?_ ?_); rfl; rfl) | (refine qaP ?_; (first | refine qaa (qav rfl) rfl ?_ ?_ ?_); rfl; rfl) | (refine qay ?_; (first | refine qaa (qao rfl) rfl ?_ ?_ ?_); rfl; rfl) | (refine qbb ?_; refine qaF ?_ ?_ rfl rfl (fun g => ?_); rfl; rfl) | refine qaM ?_ | refine qaC ?_ | refine qar ?_ | refine qam ?_ | refine qag ?_ | refine qan ?_ | refine qal ?_ | refine qai rfl ?_)
  refine qaJ rfl rfl (fun w' hl => ⟨q, rfl, h1, h2, modlow hl.mod, hl.inv.2⟩)
end Go.Proofs.YthffgbhphjkdeaaDoor
namespace Go.Proofs.YthffgbhphjkdeaaDoor
open Go.RowKit
set_option linter.unusedVariables false
set_option linter.unusedSimpArgs false

/-- Where a copy of a tree lies. -/
structure TreeP where
  a : Option Addr
  c : Nat
  lo : Nat
  hi : Nat
def treeL (x : List Node) (q : TreeP) : List Value := [.slice q.a x.length q.c]
def treeRes (x : List Node) (q : TreeP) : Res where
  foot := fun k => q.lo ≤ k ∧ k < q.hi
  says := fun w => TreeIn true (fun k => q.lo ≤ k ∧ k < q.hi) w (treeL x q) x
  stable := fun S w w' h hm hs => h.mod hm hs
theorem toTree_new (x : List Node) (o : Bool) (cs : List Value) (R : Nat → Prop) (w : World) (hf : treeFits 1048576 x) (h : TreeIn o R w cs x) :
    Calls Tryd.prog 40 #[.agg cs.toArray] w (NewR TreeP (fun q => .agg (treeL x q).toArray) (treeRes x) w) :=
  (toTree_any x o cs R w hf h).mono fun e w' ⟨cs', he, h1, hm⟩ => by
    obtain ⟨a, c, rfl, h2, h3⟩ := h1
    exact ⟨⟨a, c, w.heap.size, w'.heap.size⟩, he, ⟨TreeIn.wide ⟨a, c, rfl, h2, h3⟩ (fun k hk hlo => ⟨hlo, hk⟩), fun k hk => hk⟩, hm⟩
def TreeAt (x : List Node) (w : World) (v : Value) : Prop := ∃ cs : List Value, v = .agg cs.toArray ∧ ∃ o R, TreeIn o R w cs x
theorem TreeAt.keep {x : List Node} {w w' : World} {v : Value} (h : TreeAt x w v) (hm : Mod (fun _ => False) w w') : TreeAt x w' v := by
  obtain ⟨cs, h1, o, R, h2⟩ := h
  exact ⟨cs, h1, o, R, h2.keep hm⟩
theorem toTree_at (x : List Node) (o : Bool) (cs : List Value) (R : Nat → Prop) (w : World) (hf : treeFits 1048576 x) (h : TreeIn o R w cs x) :
    Calls Tryd.prog 40 #[.agg cs.toArray] w fun e w' => ∃ v, e = .returned v ∧ TreeAt x w' v ∧ Mod (fun _ => False) w w' :=
  (toTree_any x o cs R w hf h).mono fun e w' ⟨cs', he, h1, hm⟩ => ⟨_, he, ⟨cs', rfl, _, _, h1⟩, hm⟩
theorem treeIn_slice {x : List Node} {q : TreeP} {o : Bool} {R : Nat → Prop} {w : World} (h : TreeIn o R w (treeL x q) x) : NodeSlice o R w q.a x ∧ (o = true → Wr 144 64 R w q.a x.length) := by
  obtain ⟨a, c, e, h2, h3⟩ := h
  simp only [treeL, List.cons.injEq, Value.slice.injEq, and_true, true_and] at e
  obtain ⟨rfl, rfl⟩ := e
  exact ⟨h2, h3⟩
theorem markTree_own (x : List Node) (q : TreeP) (w : World) (F : treeFits 1048576 x) (h : (treeRes x q).says w) :
    Calls Tryd.prog 43 #[.agg (treeL x q).toArray, .int .i64 1] w fun e w' => ∃ p : Int, e = .returned (.int .i64 p) ∧ (1 ≤ p ∧ p ≤ 100000000000000) ∧ deadRes.says w' ∧ Mod (treeRes x q).foot w w' := by
  obtain ⟨hs, hw⟩ := treeIn_slice h
  have hn := F.1
  have hN : NodeWr (fun k => q.lo ≤ k ∧ k < q.hi) w q.a x.length := by
    rcases hw rfl with h | ⟨g, N, hg, h2, h3, h4⟩
    · exact .inl h
    · rw [hg] at hs ⊢
      exact NodeSlice.wr hs h4 h3 F.2 h2
  exact (markTree_any x.length q.c q.a _ w 1 (by omega) (by omega) hn hN).mono fun e w' ⟨p, he, h1, h2, hm, _⟩ => ⟨p, he, ⟨h1, by omega⟩, trivial, hm⟩
end Go.Proofs.YthffgbhphjkdeaaDoor
namespace Go.Proofs.YthffgbhphjkdeaaDoor
open Go.RowKit

theorem bytes_ne {x y : List UInt8} (h : x ≠ y) : (x == y) = false := by simpa using h

set_option maxRecDepth 100000 in
set_option maxHeartbeats 1000000 in
theorem eqStringS_any (l m : List (List UInt8)) (a a' : Option Addr) (c c' : Nat) (R S : Nat → Prop) (w : World) (hl : l.length ≤ 9223372036854775807) (_hm : m.length ≤ 9223372036854775807) (h : TextSlice R w a l) (h' : TextSlice S w a' m) :
    Calls Tryd.prog 12 #[.slice a l.length c, .slice a' m.length c'] w fun e w' => e = .returned (.bool (decide (l = m))) ∧ Mod (fun _ => False) w w' := by
  have H := hid h
  have H' := hid h'
  clear h h'
  by_cases hlen : l.length = m.length
  · have hn0 : ((l.length : Int) != (m.length : Int)) = false := by simp [hlen]
    have hn1 : l.length ≤ m.length := by omega
    have hn2 : m.length ≤ l.length := by omega
    clear hlen
    go_enter Tryd.func12, Tryd.ntmps12
    go_wp2
    go_loopw [5] (fun i wr => ∃ k : Nat, k ≤ l.length ∧ i = .int .i64 k ∧ SameTo l m k ∧ Mod (fun _ => False) w wr) (fun i _ => l.length - (intOf i).toNat)
    case atStart => exact ⟨0, by omega, rfl, rfl, Mod.refl _ _⟩
    case round =>
      obtain ⟨k, hk, rfl, hsame, hmod⟩ := hrel
      by_cases hlt : k < l.length
      · obtain ⟨b, o, x, rfl, _, hbw, hx, c0⟩ := TextSlice.get (H.out.flatKeep hmod) hlt
        obtain ⟨b', o', y, rfl, _, hbw', hy, d0⟩ := TextSlice.get (H'.out.flatKeep hmod) (show k < m.length by omega)
        have hlt2 : k < m.length := by omega
        have q0 := hold c0
        have q1 := hold d0
        clear c0 d0
        by_cases hxy : x = y
        · subst hxy
          go_wp2
          refine wp_region_mod (by kernel_rfl) (by kernel_rfl) ?_
          refine RM.const (v := ?_) (fun _ => rfl) (fun xq wq hSq => ?_) ?_; rotate_left; (focus (go_simp; (first | done | with_reducible rfl | ((split; (exfalso; omega)); with_reducible rfl)))); (try simp only [Act.put, List.setIfInBounds_toArray, List.set_cons_zero, List.set_cons_succ])
          refine RM.const (v := ?_) (fun _ => rfl) (fun xq wq hSq => ?_) ?_; rotate_left; (focus (go_simp; (first | done | with_reducible rfl | ((split; (exfalso; omega)); with_reducible rfl)))); (try simp only [Act.put, List.setIfInBounds_toArray, List.set_cons_zero, List.set_cons_succ])
          refine RM.const (v := ?_) (fun _ => rfl) (fun xq wq hSq => ?_) ?_; rotate_left; (focus (go_simp; (first | done | with_reducible rfl | ((split; (exfalso; omega)); with_reducible rfl)))); (try simp only [Act.put, List.setIfInBounds_toArray, List.set_cons_zero, List.set_cons_succ])
          refine RM.const (v := ?_) (fun _ => rfl) (fun xq wq hSq => ?_) ?_; rotate_left; (focus (go_simp; (first | done | with_reducible rfl | ((split; (exfalso; omega)); with_reducible rfl)))); (try simp only [Act.put, List.setIfInBounds_toArray, List.set_cons_zero, List.set_cons_succ])
          refine RM.const (v := ?_) (fun _ => rfl) (fun xq wq hSq => ?_) ?_; rotate_left; (focus (go_simp; (first | done | with_reducible rfl | ((split; (exfalso; omega)); with_reducible rfl)))); (try simp only [Act.put, List.setIfInBounds_toArray, List.set_cons_zero, List.set_cons_succ])
          refine RM.const (v := ?_) (fun _ => rfl) (fun xq wq hSq => ?_) ?_; rotate_left; (focus (go_simp; (first | done | with_reducible rfl | ((split; (exfalso; omega)); with_reducible rfl)))); (try simp only [Act.put, List.setIfInBounds_toArray, List.set_cons_zero, List.set_cons_succ])
          refine RM.const (v := ?_) (fun _ => rfl) (fun xq wq hSq => ?_) ?_; rotate_left; (focus (go_simp; (first | done | with_reducible rfl | ((split; (exfalso; omega)); with_reducible rfl)))); (try simp only [Act.put, List.setIfInBounds_toArray, List.set_cons_zero, List.set_cons_succ])
          refine RM.const (v := ?_) (fun _ => rfl) (fun xq wq hSq => ?_) ?_; rotate_left; (focus (go_simp; (first | done | with_reducible rfl | ((split; (exfalso; omega)); with_reducible rfl)))); (try simp only [Act.put, List.setIfInBounds_toArray, List.set_cons_zero, List.set_cons_succ])
          refine RM.const (v := ?_) (fun _ => rfl) (fun xq wq hSq => ?_) ?_; rotate_left; (focus (go_simp; (first | done | with_reducible rfl | ((split; (exfalso; omega)); with_reducible rfl)))); (try simp only [Act.put, List.setIfInBounds_toArray, List.set_cons_zero, List.set_cons_succ])
          refine RM.done (fun xq wq hSq hUq => ?_)
          clear q0 q1
          go_wp2
          go_roundw
          case rel => exact ⟨k + 1, by omega, by go_num, hsame.succ hx hy, hmod.thenNone hSq⟩
          case measure => simp [intOf]; omega
        · have hd := bytes_ne hxy
          have Hxy := hid hxy
          clear hxy
          go_wp2
          refine wp_region_mod (by kernel_rfl) (by kernel_rfl) ?_
          refine RM.const (v := ?_) (fun _ => rfl) (fun xq wq hSq => ?_) ?_; rotate_left; (focus (go_simp; (first | done | with_reducible rfl | ((split; (exfalso; omega)); with_reducible rfl)))); (try simp only [Act.put, List.setIfInBounds_toArray, List.set_cons_zero, List.set_cons_succ])
          refine RM.const (v := ?_) (fun _ => rfl) (fun xq wq hSq => ?_) ?_; rotate_left; (focus (go_simp; (first | done | with_reducible rfl | ((split; (exfalso; omega)); with_reducible rfl)))); (try simp only [Act.put, List.setIfInBounds_toArray, List.set_cons_zero, List.set_cons_succ])
          refine RM.const (v := ?_) (fun _ => rfl) (fun xq wq hSq => ?_) ?_; rotate_left; (focus (go_simp; (first | done | with_reducible rfl | ((split; (exfalso; omega)); with_reducible rfl)))); (try simp only [Act.put, List.setIfInBounds_toArray, List.set_cons_zero, List.set_cons_succ])
          refine RM.const (v := ?_) (fun _ => rfl) (fun xq wq hSq => ?_) ?_; rotate_left; (focus (go_simp; (first | done | with_reducible rfl | ((split; (exfalso; omega)); with_reducible rfl)))); (try simp only [Act.put, List.setIfInBounds_toArray, List.set_cons_zero, List.set_cons_succ])
          refine RM.const (v := ?_) (fun _ => rfl) (fun xq wq hSq => ?_) ?_; rotate_left; (focus (go_simp; (first | done | with_reducible rfl | ((split; (exfalso; omega)); with_reducible rfl)))); (try simp only [Act.put, List.setIfInBounds_toArray, List.set_cons_zero, List.set_cons_succ])
          refine RM.const (v := ?_) (fun _ => rfl) (fun xq wq hSq => ?_) ?_; rotate_left; (focus (go_simp; (first | done | with_reducible rfl | ((split; (exfalso; omega)); with_reducible rfl)))); (try simp only [Act.put, List.setIfInBounds_toArray, List.set_cons_zero, List.set_cons_succ])
          refine RM.const (v := ?_) (fun _ => rfl) (fun xq wq hSq => ?_) ?_; rotate_left; (focus (go_simp; (first | done | with_reducible rfl | ((split; (exfalso; omega)); with_reducible rfl)))); (try simp only [Act.put, List.setIfInBounds_toArray, List.set_cons_zero, List.set_cons_succ])
          refine RM.const (v := ?_) (fun _ => rfl) (fun xq wq hSq => ?_) ?_; rotate_left; (focus (go_simp; (first | done | with_reducible rfl | ((split; (exfalso; omega)); with_reducible rfl)))); (try simp only [Act.put, List.setIfInBounds_toArray, List.set_cons_zero, List.set_cons_succ])
          refine RM.const (v := ?_) (fun _ => rfl) (fun xq wq hSq => ?_) ?_; rotate_left; (focus (go_simp; (first | done | with_reducible rfl | ((split; (exfalso; omega)); with_reducible rfl)))); (try simp only [Act.put, List.setIfInBounds_toArray, List.set_cons_zero, List.set_cons_succ])
          refine RM.done (fun xq wq hSq hUq => ?_)
          clear q0 q1
          go_wp2
          go_ret
          exact ⟨ret_bool (decide_eq_false (ne_at hx hy Hxy.out)).symm, hmod.thenNone hSq⟩
      · go_wp2
        go_ret
        exact ⟨ret_bool (decide_eq_true (hsame.all (by omega) (by omega))).symm, hmod⟩
  · have hn0 : ((l.length : Int) != (m.length : Int)) = true := by simp; omega
    have hne : l ≠ m := fun h => hlen (by rw [h])
    clear hlen
    go_enter Tryd.func12, Tryd.ntmps12
    go_wp2
    go_ret
    exact ⟨ret_bool (decide_eq_false hne).symm, Mod.refl _ _⟩

/-- The mark number k. -/
def markW (k : Int) : List UInt8 := 109 :: Lib.decDigits k.natAbs
set_option maxRecDepth 100000 in
set_option maxHeartbeats 2000000 in
theorem markText_any (n : Int) (h0 : 1 ≤ n) (h1 : n ≤ 10000000000) (w : World) :
    Calls Tryd.prog 50 #[.int .i64 n] w fun e w' => e = .returned (.string ⟨(markW n).toArray⟩) ∧ Mod (fun _ => False) w w' := by
  have hst := DigInv.start n (by omega)
  go_enter Tryd.func50, Tryd.ntmps50
  go_wp2
  go_loopw [0, 3] (fun v s wr => ∃ (k : Nat) (l : List UInt8), k ≤ 10000000000 ∧ v = .int .i64 (k : Int) ∧ s = .string ⟨l.toArray⟩ ∧ DigInv n (k : Int) l ∧ Mod (fun _ => False) w wr) (fun v _ _ => (intOf v).natAbs)
  case atStart => exact ⟨n.natAbs, [], by omega, by rw [show (n.natAbs : Int) = n by omega], rfl, by rw [show (n.natAbs : Int) = n by omega]; exact hst, Mod.refl _ _⟩
  case round =>
    obtain ⟨k, l, hk0, rfl, rfl, hI, hM⟩ := hrel
    clear hst
    have hl20 := hI.short (by omega) (by omega)
    clear h0 h1
    by_cases hm : k = 0
    · subst hm
      have hres := hid hI.done
      clear hI
      have hcat := cat_one 109 l
      go_wp2
      go_ret
      exact ⟨ret_string (by unfold markW; rw [hres.out]), hM⟩
    · have hk1 : 1 ≤ k := by omega
      obtain ⟨d, hd⟩ : ∃ d, d = k % 10 := ⟨_, rfl⟩
      obtain ⟨q, hq⟩ : ∃ q, q = k / 10 := ⟨_, rfl⟩
      have hd10 : d < 10 := by omega
      have hq' : q ≤ 922337203685477580 := by omega
      have hqk : q < k := by omega
      have hstep := hid (digInv_step (q := (q : Int)) hI (by omega) (by omega) (show d = ((k : Int)).natAbs % 10 by omega))
      have hc := conv_digit d hd10
      have hcat := cat_one (digit d) l
      clear hI
      have e3 : (k : Int) % 10 = d := by omega
      have e4 : (k : Int) / 10 = q := by omega
      clear hd hq
      go_wp2
      go_roundw
      case rel => exact ⟨q, digit d :: l, by omega, rfl, rfl, hstep.out, hM.alloc _⟩
      case measure => simp [intOf]; omega

/-- The cells of marks from q on. -/
def Text.marks (q : Int) : Nat → List Value
  | 0 => []
  | k + 1 => Text.marks q k ++ tcell (markW (q + k))
theorem Text.marks_length (q : Int) (k : Nat) : (Text.marks q k).length = k := by
  induction k with
  | zero => simp [Text.marks]
  | succ k ih => simp [Text.marks, tcell, ih]

set_option maxRecDepth 100000 in
set_option maxHeartbeats 1000000 in
theorem markStringS_any (n c : Nat) (a : Option Addr) (g N : Nat) (w : World) (q0 : Int) (hq0 : 1 ≤ q0) (hq1 : q0 ≤ 1000) (hn : n ≤ 1048577) (h : n = 0 ∨ a = some ⟨g, 0, none⟩ ∧ n * 1 ≤ N ∧ Filled g 9 N w []) :
    Calls Tryd.prog 13 #[.slice a n c, .int .i64 q0] w fun e w' => e = .returned (.int .i64 (q0 + n)) ∧ Mod (fun k => k = g) w w' ∧ (n = 0 ∨ Filled g 9 N w' (Text.marks q0 n)) := by
  have H := hid h
  clear h
  have hgs : n = 0 ∨ g < w.heap.size := by
    rcases H.out with h | ⟨_, _, h⟩
    · exact .inl h
    · exact .inr h.size
  go_enter Tryd.func13, Tryd.ntmps13
  go_wp2
  go_loopw [1, 5] (fun z i wr => ∃ (k : Nat) (q : Int), k ≤ n ∧ z = .int .i64 q ∧ Hid (q = q0 + k) ∧ 1 ≤ q ∧ q ≤ 1000000000 ∧ i = .int .i64 k ∧ Mod (fun k => k = g) w wr ∧ (n = 0 ∨ Filled g 9 N wr (Text.marks q0 k))) (fun _ i _ => n - (intOf i).toNat)
  case atStart =>
    refine ⟨0, q0, by omega, rfl, by show q0 = q0 + _; omega, by omega, by omega, rfl, Mod.refl _ _, ?_⟩
    rcases H.out with h | ⟨_, _, h⟩
    · exact .inl h
    · exact .inr h
  case round =>
    obtain ⟨k, q, hk, rfl, hq, q1, q2, rfl, hM, hF0⟩ := hrel
    by_cases hlt : k < n
    · rcases H.out with h | ⟨rfl, hN, _⟩
      · omega
      have hF := hF0.resolve_left (by omega)
      clear hF0
      go_wp2_with fail
      refine (markText_any q q1 (by omega) _).mono ?_
      rintro e w1 ⟨rfl, hm1⟩
      have hF1 := hF.mod hm1 (fun f => f)
      have hM1 := hM.thenNone hm1
      have hl0 := Text.marks_length q0 k
      obtain ⟨v0, d0⟩ := hF1.cell (off := k) (by omega)
      have z0 := hF1.free k
      have HF := hid hF1
      have Hl0 := hid hl0
      clear hF hF1 hl0 hM hm1
      go_wp2
      go_roundw
      case rel =>
        have hq' := hq.out
        refine ⟨k + 1, q + 1, by omega, rfl, by show q + 1 = _; omega, by omega, by omega, by go_num, by (repeat (first | with_reducible exact Mod.refl _ _ | with_reducible refine Mod.drewN ?_ _ | with_reducible refine Mod.drew ?_ | with_reducible refine Mod.alloc ?_ _ | ((with_reducible refine Mod.setNew ?_ ?_ _ _ _); (rotate_left; omega)) | with_reducible refine Mod.setAt ?_ _ _ _ | with_reducible exact hM1 | with_reducible refine Mod.thenNone ?_ hM1 )), .inr ?_⟩
        have e : Text.marks q0 (k + 1) = Text.marks q0 k ++ [.string ⟨(markW q).toArray⟩] := by
          simp [Text.marks, tcell, ← hq']
        rw [e]
        exact HF.out.push (by simp [Hl0.out]) (by omega) _
      case measure => simp [intOf]; omega
    · have hk' : k = n := by omega
      subst hk'
      go_wp2
      go_ret
      exact ⟨ret_int hq.out, hM, hF0⟩

theorem Text.marks_at (q0 : Int) (n k : Nat) (hk : k < n) : (Text.marks q0 n)[k]? = some (.string ⟨(markW (q0 + k)).toArray⟩) := by
  induction n with
  | zero => omega
  | succ n ih =>
    have hl := Text.marks_length q0 n
    unfold Text.marks
    by_cases e : k = n
    · subst e
      rw [List.getElem?_append_right (by omega), hl, Nat.sub_self]
      rfl
    · rw [List.getElem?_append_left (by rw [hl]; omega)]
      exact ih (by omega)

set_option maxRecDepth 100000 in
set_option maxHeartbeats 1000000 in
theorem heldStringS_any (n c : Nat) (a : Option Addr) (g N : Nat) (w : World) (q0 : Int) (hq0 : 1 ≤ q0) (hq1 : q0 ≤ 1000) (hn : n ≤ 1048577) (h : n = 0 ∨ a = some ⟨g, 0, none⟩ ∧ n * 1 ≤ N ∧ Filled g 9 N w (Text.marks q0 n)) :
    Calls Tryd.prog 14 #[.slice a n c, .int .i64 q0] w fun e w' => e = .returned (.int .i64 (q0 + n)) ∧ Mod (fun _ => False) w w' := by
  have H := hid h
  clear h
  go_enter Tryd.func14, Tryd.ntmps14
  go_wp2
  go_loopw [1, 5] (fun z i wr => ∃ (k : Nat) (q : Int), k ≤ n ∧ z = .int .i64 q ∧ Hid (q = q0 + k) ∧ 1 ≤ q ∧ q ≤ 1000000000 ∧ i = .int .i64 k ∧ Mod (fun _ => False) w wr) (fun _ i _ => n - (intOf i).toNat)
  case atStart => exact ⟨0, q0, by omega, rfl, by show q0 = q0 + _; omega, by omega, by omega, rfl, Mod.refl _ _⟩
  case round =>
    obtain ⟨k, q, hk, rfl, hq, q1, q2, rfl, hM⟩ := hrel
    by_cases hlt : k < n
    · rcases H.out with h | ⟨rfl, hN, hF⟩
      · omega
      have hc := (hF.mod hM (fun f => f)).read (Text.marks_at q0 n k hlt)
      rw [← hq.out] at hc
      have p0 := hold hc
      clear hF hc
      go_wp2
      refine wp_region_mod (by kernel_rfl) (by kernel_rfl) ?_
      refine RM.const (v := ?_) (fun _ => rfl) (fun xq wq hSq => ?_) ?_; rotate_left; (focus (go_simp; (first | done | with_reducible rfl | ((split; (exfalso; omega)); with_reducible rfl)))); (try simp only [Act.put, List.setIfInBounds_toArray, List.set_cons_zero, List.set_cons_succ])
      refine RM.const (v := ?_) (fun _ => rfl) (fun xq wq hSq => ?_) ?_; rotate_left; (focus (go_simp; (first | done | with_reducible rfl | ((split; (exfalso; omega)); with_reducible rfl)))); (try simp only [Act.put, List.setIfInBounds_toArray, List.set_cons_zero, List.set_cons_succ])
      refine RM.const (v := ?_) (fun _ => rfl) (fun xq wq hSq => ?_) ?_; rotate_left; (focus (go_simp; (first | done | with_reducible rfl | ((split; (exfalso; omega)); with_reducible rfl)))); (try simp only [Act.put, List.setIfInBounds_toArray, List.set_cons_zero, List.set_cons_succ])
      refine RM.const (v := ?_) (fun _ => rfl) (fun xq wq hSq => ?_) ?_; rotate_left; (focus (go_simp; (first | done | with_reducible rfl | ((split; (exfalso; omega)); with_reducible rfl)))); (try simp only [Act.put, List.setIfInBounds_toArray, List.set_cons_zero, List.set_cons_succ])
      refine RM.const (v := ?_) (fun _ => rfl) (fun xq wq hSq => ?_) ?_; rotate_left; (focus (go_simp; (first | done | with_reducible rfl | ((split; (exfalso; omega)); with_reducible rfl)))); (try simp only [Act.put, List.setIfInBounds_toArray, List.set_cons_zero, List.set_cons_succ])
      refine RM.callc (v := ?_) (f := ?_) (args := ?_) (fun _ => rfl) (fun xq wq hSq => ?_) (fun wq hSq => ?_) ?_; rotate_left 3; (focus (go_simp; (refine ⟨?_, ?_⟩ <;> with_reducible rfl))); (focus (exact markText_any q q1 (by omega) _)); (try simp only [Act.put, List.setIfInBounds_toArray, List.set_cons_zero, List.set_cons_succ])
      refine RM.const (v := ?_) (fun _ => rfl) (fun xq wq hSq => ?_) ?_; rotate_left; (focus (go_simp; (first | done | with_reducible rfl | ((split; (exfalso; omega)); with_reducible rfl)))); (try simp only [Act.put, List.setIfInBounds_toArray, List.set_cons_zero, List.set_cons_succ])
      refine RM.done (fun xq wq hSq hUq => ?_)
      clear p0
      go_wp2
      go_roundw
      case rel => exact ⟨k + 1, q + 1, by omega, rfl, by have := hq.out; show q + 1 = _; omega, by omega, by have := hq.out; omega, by go_num, hM.thenNone hSq⟩
      case measure => simp [intOf]; omega
    · have hk' : k = n := by omega
      subst hk'
      go_wp2
      go_ret
      exact ⟨ret_int hq.out, hM⟩

end Go.Proofs.YthffgbhphjkdeaaDoor
namespace Go.Proofs.YthffgbhphjkdeaaDoor
open Go.RowKit

/-- Texts that bear marks. -/
def markedT (l : List (List UInt8)) (q : SlP) : Res where
  foot := fun k => (Value.slice q.a l.length q.c).ownBlock = some k
  says := fun w => l.length = 0 ∨ ∃ g N, q.a = some ⟨g, 0, none⟩ ∧ l.length * 1 ≤ N ∧ Filled g 9 N w (Text.marks 1 l.length)
  stable := fun S w w' h hm hs => h.imp id fun ⟨g, N, h1, h2, h3⟩ => ⟨g, N, h1, h2, h3.mod hm (hs g (by rw [h1]; rfl))⟩
theorem markText_own (l : List (List UInt8)) (q : SlP) (w : World) (hl : l.length ≤ 1048577) (h : (ownRes tcell 9 1 l q).says w) :
    Calls Tryd.prog 13 #[.slice q.a l.length q.c, .int .i64 1] w fun e w' => ∃ _x : Unit, e = .returned (.int .i64 (1 + l.length)) ∧ True ∧ (markedT l q).says w' ∧ Mod (ownRes tcell 9 1 l q).foot w w' := by
  rcases own_filled h with h0 | ⟨g, N, h1, h2, h3, h4⟩
  · refine (markStringS_any l.length q.c q.a w.heap.size 0 w 1 (by omega) (by omega) (by omega) (.inl h0)).mono ?_
    rintro e w' ⟨he, hm, _⟩
    exact ⟨(), he, trivial, .inl h0, hm.mono fun k hk (e : k = w.heap.size) => by omega⟩
  · refine (markStringS_any l.length q.c q.a g N w 1 (by omega) (by omega) (by omega) (.inr ⟨h1, h3, h4⟩)).mono ?_
    rintro e w' ⟨he, hm, hf⟩
    exact ⟨(), he, trivial, hf.imp id fun hf => ⟨g, N, h1, h3, hf⟩, hm.mono fun k _ (e : k = g) => by subst e; show (Value.slice q.a l.length q.c).ownBlock = some k; rw [h1]; rfl⟩
theorem heldText_own (l : List (List UInt8)) (q : SlP) (w : World) (hl : l.length ≤ 1048577) (h : (markedT l q).says w) :
    Calls Tryd.prog 14 #[.slice q.a l.length q.c, .int .i64 1] w fun e w' => e = .returned (.int .i64 (1 + l.length)) ∧ Mod (fun _ => False) w w' := by
  rcases h with h0 | ⟨g, N, h1, h2, h3⟩
  · exact heldStringS_any l.length q.c q.a 0 0 w 1 (by omega) (by omega) (by omega) (.inl h0)
  · exact heldStringS_any l.length q.c q.a g N w 1 (by omega) (by omega) (by omega) (.inr ⟨h1, h2, h3⟩)


end Go.Proofs.YthffgbhphjkdeaaDoor
namespace Go.Proofs.YthffgbhphjkdeaaDoor
theorem tab_global : Tryd.prog.globalNamed "internal/strconv.uint64pow10" = some 5 := by kernel_rfl
theorem tab_type : (Tryd.prog.globals[5]?).map (·.type) = some 239 := by kernel_rfl
end Go.Proofs.YthffgbhphjkdeaaDoor

