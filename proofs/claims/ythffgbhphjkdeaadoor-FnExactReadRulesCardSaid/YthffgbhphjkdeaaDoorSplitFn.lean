/-
  PROVED: the library's cut of a text at a sign of one byte, and the reference's l30Split. Conditions: a bound on the length; the library's MaxLen holds a number.
-/
import Derived.Test.YthffgbhphjkdeaaDoorSplit
import Derived.Test.YthffgbhphjkdeaaDoorRows1
import Derived.Test.YthffgbhphjkdeaaDoorKeys
import Derived.Test.YthffgbhphjkdeaaDoorSxt
namespace Go.Proofs.YthffgbhphjkdeaaDoor
open Go.RowKit
set_option linter.unusedVariables false
set_option linter.unusedSimpArgs false

instance tfunSplit : TFun Tryd.prog 79 := ⟨Tryd.f79, by kernel_rfl, by kernel_rfl, by kernel_rfl⟩
theorem NewSlice.lit {w : World} {l : List (List UInt8)} (hl : l.length ≤ 4294967282) : NewSlice 9 1 w l.length (l.map tcell).flatten (.returned (.slice (some ⟨w.heap.size, 0, none⟩) l.length l.length)) (w.alloc (.cells (l.map tcell).flatten.toArray 9)) := by
  have hfl := flat_length (cells := tcell) (sz := 1) (fun _ => rfl) l
  refine ⟨_, _, rfl, ⟨by rw [hfl], .inr ⟨w.heap.size, l.length, _, rfl, Nat.le_refl _, heap_alloc_new w _, Nat.le_refl _, by unfold maxLen; omega, by rw [List.size_toArray, hfl], ?_⟩⟩, (Mod.refl _ w).alloc _⟩
  exact List.take_of_length_le (by show (l.map tcell).flatten.length ≤ _; omega)
theorem tcell_flat (l : List (List UInt8)) : (l.map tcell).flatten = l.map fun x => Value.string ⟨x.toArray⟩ := by
  induction l with
  | nil => rfl
  | cons x l ih => rw [List.map_cons, List.flatten_cons, ih]; rfl
theorem split_new (t : List UInt8) (c : UInt8) (ht : t.length ≤ 1048576) (w : World) (hz : Num0 w) : Calls Tryd.prog 79 #[.string ⟨t.toArray⟩, .string ⟨#[c]⟩] w (NewR (Nat × Nat) (fun p => .slice (some ⟨p.1, 0, none⟩) (splitL c t).length p.2) (textsRes (splitL c t)) w) := by
  obtain ⟨m, hm⟩ := hz
  refine (Tryd.strings_Split ⟨t.toArray⟩ ⟨#[c]⟩ m w (by show t.toArray.size < _; simp; omega) hm (by show 1 ≤ 1; decide)).mono ?_
  rintro e w' ⟨rfl, rfl⟩
  have hl := splitL_len c t
  rw [countB_sign, splitB_sign, ← tcell_flat]
  exact rows_of (splitL_ne c t) (fun _ => rfl) (NewSlice.lit (by omega))

theorem drop_take_at {t : List UInt8} {b k : Nat} {c : UInt8} (hbk : b ≤ k) (hk : t[k]? = some c) : t.drop b = (t.drop b).take (k - b) ++ c :: t.drop (k + 1) := by
  have h1 : (t.drop b)[k - b]? = some c := by rw [List.getElem?_drop, show b + (k - b) = k by omega]; exact hk
  have hlt := (List.getElem?_eq_some_iff.1 h1).1
  have h2 : (t.drop b).drop (k - b) = c :: (t.drop b).drop (k - b + 1) := by
    rw [List.drop_eq_getElem_cons hlt]
    have := (List.getElem?_eq_some_iff.1 h1).2
    rw [this]
  have h3 : (t.drop b).drop (k - b + 1) = t.drop (k + 1) := by rw [List.drop_drop]; congr 1; omega
  rw [h3] at h2
  rw [← h2, List.take_append_drop]
/-- The reference's cut up to place k: the pieces, and where the next begins. -/
structure CutTo (c : UInt8) (t : List UInt8) (k b : Nat) (out : List (List UInt8)) : Prop where
  whole : splitL c t = out ++ splitL c (t.drop b)
  le : b ≤ k
  none : c ∉ (t.drop b).take (k - b)
theorem CutTo.cut {c : UInt8} {t : List UInt8} {k b : Nat} {out : List (List UInt8)} (h : CutTo c t k b out) (hk : t[k]? = some c) : CutTo c t (k + 1) (k + 1) (out ++ [(t.drop b).take (k - b)]) where
  whole := by
    have e := drop_take_at h.le hk
    rw [h.whole]
    conv => lhs; rw [e, splitL_cut h.none]
    simp
  le := Nat.le_refl _
  none := by simp
theorem CutTo.step {c x : UInt8} {t : List UInt8} {k b : Nat} {out : List (List UInt8)} (h : CutTo c t k b out) (hk : t[k]? = some x) (hx : x ≠ c) : CutTo c t (k + 1) b out where
  whole := h.whole
  le := Nat.le_succ_of_le h.le
  none := by
    have hle := h.le
    rw [show k + 1 - b = k - b + 1 by omega, List.take_add_one]
    have h1 : (t.drop b)[k - b]? = some x := by rw [List.getElem?_drop, show b + (k - b) = k by omega]; exact hk
    rw [h1]
    intro hm
    rcases List.mem_append.1 hm with hm | hm
    · exact h.none hm
    · have : c = x := by simpa using hm
      exact hx this.symm
theorem CutTo.last {c : UInt8} {t : List UInt8} {b : Nat} {out : List (List UInt8)} (h : CutTo c t t.length b out) : splitL c t = out ++ [(t.drop b).take (t.length - b)] := by
  have e : (t.drop b).take (t.length - b) = t.drop b := List.take_of_length_le (by rw [List.length_drop]; omega)
  rw [h.whole, e]
  have := h.none
  rw [e] at this
  rw [splitL_whole this]

set_option maxRecDepth 100000 in
set_option maxHeartbeats 4000000 in
theorem l30Split_new (t : List UInt8) (c : UInt8) (ht : t.length ≤ 1048576) (w : World) : Calls Tryd.prog 76 #[.string ⟨t.toArray⟩, .int .u8 (c.toNat : Int)] w (NewSlice 9 1 w (splitL c t).length ((splitL c t).map tcell).flatten) := by
  refine calls_sx Tryd.func76 rfl rfl (fun a h1 h2 h3 => (((Fr.nil h1 h2).arg (h3 1 _ rfl)).arg (h3 0 _ rfl))) ?_
  repeat (first | refine SX.seq ?_ | refine SXl.nil ?_ | refine SX.region ?_ | refine SQ.thenNormal ?_ | refine SX.block ?_ | refine SX.skip ?_ | refine SX.condT rfl ?_ | refine SX.condF rfl ?_ | (refine SXl.no rfl rfl rfl ?_) | (refine l_move ?_; (first | refine SXl.v (OpW.move rfl) rfl ?_ ?_ ?_); rfl; rfl) | (refine l_assign ?_; (first | refine SXl.v (OpW.assign rfl) rfl ?_ ?_ ?_); rfl; rfl) | (refine l_len ?_; (first | refine SXl.v (OpW.lenStr rfl) rfl ?_ ?_ ?_); rfl; rfl) | (refine l_index ?_; (first | refine SXl.v (OpW.indexStr rfl rfl (by assumption)) rfl ?_ ?_ ?_); rfl; rfl) | (refine l_slice ?_; (first | refine SXl.v (OpW.sliceFrom rfl rfl (by omega)) rfl ?_ ?_ ?_ | refine SXl.v (OpW.sliceTo rfl rfl (by omega)) rfl ?_ ?_ ?_ | refine SXl.v (OpW.sliceOf rfl rfl rfl (by omega) (by omega)) rfl ?_ ?_ ?_); rfl; rfl) | (refine l_add ?_; (first | refine SXl.v (OpW.succ rfl rfl (by omega)) rfl ?_ ?_ ?_ | refine SXl.v (OpW.addi rfl rfl (by omega) (by omega)) rfl ?_ ?_ ?_ | refine SXl.v (OpW.add rfl rfl) rfl ?_ ?_ ?_); rfl; rfl) | (refine l_eql ?_; (first | refine SXl.v (OpW.eqlT rfl rfl (by omega)) rfl ?_ ?_ ?_ | refine SXl.v (OpW.eqlF rfl rfl (by omega)) rfl ?_ ?_ ?_ | refine SXl.v (OpW.eql rfl rfl) rfl ?_ ?_ ?_); rfl; rfl) | (refine l_leq ?_; (first | refine SXl.v (OpW.leqT rfl rfl (by omega)) rfl ?_ ?_ ?_ | refine SXl.v (OpW.leqF rfl rfl (by omega)) rfl ?_ ?_ ?_ | refine SXl.v (OpW.leq rfl rfl) rfl ?_ ?_ ?_); rfl; rfl) | (refine l_pick ?_; (first | refine SXl.v (OpW.pick rfl rfl rfl) rfl ?_ ?_ ?_); rfl; rfl) | (refine l_buildSlice ?_; first | (refine SXl.lit1 ?_ ?_ rfl rfl rfl (fun g => ?_); rfl; rfl) | (refine SXl.lit0 ?_ ?_ (fun _ h => h) rfl (fun g => ?_); rfl; rfl)) | (refine l_append ?_; first | (refine SXl.append 0 0 rfl rfl rfl rfl rfl rfl rfl rfl (by omega) (by omega) (fun a c => ?_); simp only [List.set_cons_zero, List.set_cons_succ]) | (refine SXl.append 1 0 rfl rfl rfl rfl rfl rfl rfl rfl (by omega) (by omega) (fun a c => ?_); simp only [List.set_cons_zero, List.set_cons_succ])) | refine SX.ret ?_ | refine SX.exit ?_ | refine SQ.thenRet ?_ | refine SQ.thenExit ?_ | refine SQ.blockNormal ?_ | refine SQ.blockRet ?_ | refine SQ.blockExit ?_ | refine SQ.blockOther rfl ?_)
  refine SX.loop3 (fun (p : Nat × Nat) (out : List (List UInt8)) (_ : Option Addr × Nat) => p.1 ≤ t.length + 1 ∧ out.length ≤ p.1 ∧ (if p.1 ≤ t.length then CutTo c t p.1 p.2 out else splitL c t = out)) (fun p _ _ => t.length + 1 - p.1) (fun _ _ _ => []) (fun _ out q => [⟨.slice q.1 out.length q.2, 9, 1, out.length, (out.map tcell).flatten⟩]) (fun _ _ _ => []) (fun p out q => [(0, .string ⟨t.toArray⟩), (1, .int .u8 (c.toNat : Int)), (5, .slice q.1 out.length q.2), (6, .int .i64 p.2), (7, .int .i64 p.1)]) (0, 0) [] (_, 0) ⟨by omega, by simp, by rw [if_pos (by omega)]; exact ⟨by simp, by simp, by simp⟩⟩ ?_ (fun _ hl => hl) ?_
  · (repeat (first | exact subF_nil _ | (refine subF_cons rfl ?_) | (refine subF_consv rfl (by rfl) ?_)))
  rintro ⟨k, b⟩ out ⟨a, cp⟩ ⟨hk, ho, hI⟩
  simp only at hk ho hI
  by_cases hle : k ≤ t.length
  · rw [if_pos hle] at hI
    have hbk := hI.le
    by_cases hlt : k < t.length
    · have hu : t[k]? = some t[k] := List.getElem?_eq_getElem hlt
      generalize t[k] = u at hu
      by_cases huc : u = c
      · subst huc
        have hn := hI.cut hu
        repeat (first | refine SX.seq ?_ | refine SXl.nil ?_ | refine SX.region ?_ | refine SQ.thenNormal ?_ | refine SX.block ?_ | refine SX.skip ?_ | refine SX.condT rfl ?_ | refine SX.condF rfl ?_ | (refine SXl.no rfl rfl rfl ?_) | (refine l_move ?_; (first | refine SXl.v (OpW.move rfl) rfl ?_ ?_ ?_); rfl; rfl) | (refine l_assign ?_; (first | refine SXl.v (OpW.assign rfl) rfl ?_ ?_ ?_); rfl; rfl) | (refine l_len ?_; (first | refine SXl.v (OpW.lenStr rfl) rfl ?_ ?_ ?_); rfl; rfl) | (refine l_index ?_; (first | refine SXl.v (OpW.indexStr rfl rfl (by assumption)) rfl ?_ ?_ ?_); rfl; rfl) | (refine l_slice ?_; (first | refine SXl.v (OpW.sliceFrom rfl rfl (by omega)) rfl ?_ ?_ ?_ | refine SXl.v (OpW.sliceTo rfl rfl (by omega)) rfl ?_ ?_ ?_ | refine SXl.v (OpW.sliceOf rfl rfl rfl (by omega) (by omega)) rfl ?_ ?_ ?_); rfl; rfl) | (refine l_add ?_; (first | refine SXl.v (OpW.succ rfl rfl (by omega)) rfl ?_ ?_ ?_ | refine SXl.v (OpW.addi rfl rfl (by omega) (by omega)) rfl ?_ ?_ ?_ | refine SXl.v (OpW.add rfl rfl) rfl ?_ ?_ ?_); rfl; rfl) | (refine l_eql ?_; (first | refine SXl.v (OpW.eqlT rfl rfl (by omega)) rfl ?_ ?_ ?_ | refine SXl.v (OpW.eqlF rfl rfl (by omega)) rfl ?_ ?_ ?_ | refine SXl.v (OpW.eql rfl rfl) rfl ?_ ?_ ?_); rfl; rfl) | (refine l_leq ?_; (first | refine SXl.v (OpW.leqT rfl rfl (by omega)) rfl ?_ ?_ ?_ | refine SXl.v (OpW.leqF rfl rfl (by omega)) rfl ?_ ?_ ?_ | refine SXl.v (OpW.leq rfl rfl) rfl ?_ ?_ ?_); rfl; rfl) | (refine l_pick ?_; (first | refine SXl.v (OpW.pick rfl rfl rfl) rfl ?_ ?_ ?_); rfl; rfl) | (refine l_buildSlice ?_; first | (refine SXl.lit1 ?_ ?_ rfl rfl rfl (fun g => ?_); rfl; rfl) | (refine SXl.lit0 ?_ ?_ (fun _ h => h) rfl (fun g => ?_); rfl; rfl)) | (refine l_append ?_; first | (refine SXl.append 0 0 rfl rfl rfl rfl rfl rfl rfl rfl (by omega) (by omega) (fun a c => ?_); simp only [List.set_cons_zero, List.set_cons_succ]) | (refine SXl.append 1 0 rfl rfl rfl rfl rfl rfl rfl rfl (by omega) (by omega) (fun a c => ?_); simp only [List.set_cons_zero, List.set_cons_succ])) | refine SX.ret ?_ | refine SX.exit ?_ | refine SQ.thenRet ?_ | refine SQ.thenExit ?_ | refine SQ.blockNormal ?_ | refine SQ.blockRet ?_ | refine SQ.blockExit ?_ | refine SQ.blockOther rfl ?_)
        refine SQ.round3 (k + 1, k + 1) (out ++ [(t.drop b).take (k - b)]) (_, _) ⟨by simp only; omega, by simp; omega, by simp only; rw [if_pos (by omega)]; exact hn⟩ (by simp only; omega) ?_ (fun w hl => by rw [List.length_append, List.map_append, List.flatten_append]; exact hl.drop1)
        (repeat (first | exact subF_nil _ | (refine subF_cons rfl ?_) | (refine subF_consv rfl (by rw [List.length_append]; rfl) ?_)))
      · have hn := hI.step hu huc
        have hne : ¬ (u.toNat : Int) = c.toNat := fun e => huc (UInt8.toNat_inj.1 (by omega))
        repeat (first | refine SX.seq ?_ | refine SXl.nil ?_ | refine SX.region ?_ | refine SQ.thenNormal ?_ | refine SX.block ?_ | refine SX.skip ?_ | refine SX.condT rfl ?_ | refine SX.condF rfl ?_ | (refine SXl.no rfl rfl rfl ?_) | (refine l_move ?_; (first | refine SXl.v (OpW.move rfl) rfl ?_ ?_ ?_); rfl; rfl) | (refine l_assign ?_; (first | refine SXl.v (OpW.assign rfl) rfl ?_ ?_ ?_); rfl; rfl) | (refine l_len ?_; (first | refine SXl.v (OpW.lenStr rfl) rfl ?_ ?_ ?_); rfl; rfl) | (refine l_index ?_; (first | refine SXl.v (OpW.indexStr rfl rfl (by assumption)) rfl ?_ ?_ ?_); rfl; rfl) | (refine l_slice ?_; (first | refine SXl.v (OpW.sliceFrom rfl rfl (by omega)) rfl ?_ ?_ ?_ | refine SXl.v (OpW.sliceTo rfl rfl (by omega)) rfl ?_ ?_ ?_ | refine SXl.v (OpW.sliceOf rfl rfl rfl (by omega) (by omega)) rfl ?_ ?_ ?_); rfl; rfl) | (refine l_add ?_; (first | refine SXl.v (OpW.succ rfl rfl (by omega)) rfl ?_ ?_ ?_ | refine SXl.v (OpW.addi rfl rfl (by omega) (by omega)) rfl ?_ ?_ ?_ | refine SXl.v (OpW.add rfl rfl) rfl ?_ ?_ ?_); rfl; rfl) | (refine l_eql ?_; (first | refine SXl.v (OpW.eqlT rfl rfl (by omega)) rfl ?_ ?_ ?_ | refine SXl.v (OpW.eqlF rfl rfl (by omega)) rfl ?_ ?_ ?_ | refine SXl.v (OpW.eql rfl rfl) rfl ?_ ?_ ?_); rfl; rfl) | (refine l_leq ?_; (first | refine SXl.v (OpW.leqT rfl rfl (by omega)) rfl ?_ ?_ ?_ | refine SXl.v (OpW.leqF rfl rfl (by omega)) rfl ?_ ?_ ?_ | refine SXl.v (OpW.leq rfl rfl) rfl ?_ ?_ ?_); rfl; rfl) | (refine l_pick ?_; (first | refine SXl.v (OpW.pick rfl rfl rfl) rfl ?_ ?_ ?_); rfl; rfl) | (refine l_buildSlice ?_; first | (refine SXl.lit1 ?_ ?_ rfl rfl rfl (fun g => ?_); rfl; rfl) | (refine SXl.lit0 ?_ ?_ (fun _ h => h) rfl (fun g => ?_); rfl; rfl)) | (refine l_append ?_; first | (refine SXl.append 0 0 rfl rfl rfl rfl rfl rfl rfl rfl (by omega) (by omega) (fun a c => ?_); simp only [List.set_cons_zero, List.set_cons_succ]) | (refine SXl.append 1 0 rfl rfl rfl rfl rfl rfl rfl rfl (by omega) (by omega) (fun a c => ?_); simp only [List.set_cons_zero, List.set_cons_succ])) | refine SX.ret ?_ | refine SX.exit ?_ | refine SQ.thenRet ?_ | refine SQ.thenExit ?_ | refine SQ.blockNormal ?_ | refine SQ.blockRet ?_ | refine SQ.blockExit ?_ | refine SQ.blockOther rfl ?_)
        refine SQ.round3 (k + 1, b) out (a, cp) ⟨by simp only; omega, by simp only; omega, by simp only; rw [if_pos (by omega)]; exact hn⟩ (by simp only; omega) ?_ (fun w hl => hl)
        (repeat (first | exact subF_nil _ | (refine subF_cons rfl ?_) | (refine subF_consv rfl (by rfl) ?_)))
    · have hk' : k = t.length := by omega
      subst hk'
      have hn := hI.last
      repeat (first | refine SX.seq ?_ | refine SXl.nil ?_ | refine SX.region ?_ | refine SQ.thenNormal ?_ | refine SX.block ?_ | refine SX.skip ?_ | refine SX.condT rfl ?_ | refine SX.condF rfl ?_ | (refine SXl.no rfl rfl rfl ?_) | (refine l_move ?_; (first | refine SXl.v (OpW.move rfl) rfl ?_ ?_ ?_); rfl; rfl) | (refine l_assign ?_; (first | refine SXl.v (OpW.assign rfl) rfl ?_ ?_ ?_); rfl; rfl) | (refine l_len ?_; (first | refine SXl.v (OpW.lenStr rfl) rfl ?_ ?_ ?_); rfl; rfl) | (refine l_index ?_; (first | refine SXl.v (OpW.indexStr rfl rfl (by assumption)) rfl ?_ ?_ ?_); rfl; rfl) | (refine l_slice ?_; (first | refine SXl.v (OpW.sliceFrom rfl rfl (by omega)) rfl ?_ ?_ ?_ | refine SXl.v (OpW.sliceTo rfl rfl (by omega)) rfl ?_ ?_ ?_ | refine SXl.v (OpW.sliceOf rfl rfl rfl (by omega) (by omega)) rfl ?_ ?_ ?_); rfl; rfl) | (refine l_add ?_; (first | refine SXl.v (OpW.succ rfl rfl (by omega)) rfl ?_ ?_ ?_ | refine SXl.v (OpW.addi rfl rfl (by omega) (by omega)) rfl ?_ ?_ ?_ | refine SXl.v (OpW.add rfl rfl) rfl ?_ ?_ ?_); rfl; rfl) | (refine l_eql ?_; (first | refine SXl.v (OpW.eqlT rfl rfl (by omega)) rfl ?_ ?_ ?_ | refine SXl.v (OpW.eqlF rfl rfl (by omega)) rfl ?_ ?_ ?_ | refine SXl.v (OpW.eql rfl rfl) rfl ?_ ?_ ?_); rfl; rfl) | (refine l_leq ?_; (first | refine SXl.v (OpW.leqT rfl rfl (by omega)) rfl ?_ ?_ ?_ | refine SXl.v (OpW.leqF rfl rfl (by omega)) rfl ?_ ?_ ?_ | refine SXl.v (OpW.leq rfl rfl) rfl ?_ ?_ ?_); rfl; rfl) | (refine l_pick ?_; (first | refine SXl.v (OpW.pick rfl rfl rfl) rfl ?_ ?_ ?_); rfl; rfl) | (refine l_buildSlice ?_; first | (refine SXl.lit1 ?_ ?_ rfl rfl rfl (fun g => ?_); rfl; rfl) | (refine SXl.lit0 ?_ ?_ (fun _ h => h) rfl (fun g => ?_); rfl; rfl)) | (refine l_append ?_; first | (refine SXl.append 0 0 rfl rfl rfl rfl rfl rfl rfl rfl (by omega) (by omega) (fun a c => ?_); simp only [List.set_cons_zero, List.set_cons_succ]) | (refine SXl.append 1 0 rfl rfl rfl rfl rfl rfl rfl rfl (by omega) (by omega) (fun a c => ?_); simp only [List.set_cons_zero, List.set_cons_succ])) | refine SX.ret ?_ | refine SX.exit ?_ | refine SQ.thenRet ?_ | refine SQ.thenExit ?_ | refine SQ.blockNormal ?_ | refine SQ.blockRet ?_ | refine SQ.blockExit ?_ | refine SQ.blockOther rfl ?_)
      refine SQ.round3 (t.length + 1, t.length + 1) (out ++ [(t.drop b).take (t.length - b)]) (_, _) ⟨by simp, by simp; omega, by simp only; rw [if_neg (by omega)]; exact hn⟩ (by simp only; omega) ?_ (fun w hl => by rw [List.length_append, List.map_append, List.flatten_append]; exact hl.drop1)
      (repeat (first | exact subF_nil _ | (refine subF_cons rfl ?_) | (refine subF_consv rfl (by rw [List.length_append]; rfl) ?_)))
  · rw [if_neg hle] at hI
    rw [hI]
    repeat (first | refine SX.seq ?_ | refine SXl.nil ?_ | refine SX.region ?_ | refine SQ.thenNormal ?_ | refine SX.block ?_ | refine SX.skip ?_ | refine SX.condT rfl ?_ | refine SX.condF rfl ?_ | (refine SXl.no rfl rfl rfl ?_) | (refine l_move ?_; (first | refine SXl.v (OpW.move rfl) rfl ?_ ?_ ?_); rfl; rfl) | (refine l_assign ?_; (first | refine SXl.v (OpW.assign rfl) rfl ?_ ?_ ?_); rfl; rfl) | (refine l_len ?_; (first | refine SXl.v (OpW.lenStr rfl) rfl ?_ ?_ ?_); rfl; rfl) | (refine l_index ?_; (first | refine SXl.v (OpW.indexStr rfl rfl (by assumption)) rfl ?_ ?_ ?_); rfl; rfl) | (refine l_slice ?_; (first | refine SXl.v (OpW.sliceFrom rfl rfl (by omega)) rfl ?_ ?_ ?_ | refine SXl.v (OpW.sliceTo rfl rfl (by omega)) rfl ?_ ?_ ?_ | refine SXl.v (OpW.sliceOf rfl rfl rfl (by omega) (by omega)) rfl ?_ ?_ ?_); rfl; rfl) | (refine l_add ?_; (first | refine SXl.v (OpW.succ rfl rfl (by omega)) rfl ?_ ?_ ?_ | refine SXl.v (OpW.addi rfl rfl (by omega) (by omega)) rfl ?_ ?_ ?_ | refine SXl.v (OpW.add rfl rfl) rfl ?_ ?_ ?_); rfl; rfl) | (refine l_eql ?_; (first | refine SXl.v (OpW.eqlT rfl rfl (by omega)) rfl ?_ ?_ ?_ | refine SXl.v (OpW.eqlF rfl rfl (by omega)) rfl ?_ ?_ ?_ | refine SXl.v (OpW.eql rfl rfl) rfl ?_ ?_ ?_); rfl; rfl) | (refine l_leq ?_; (first | refine SXl.v (OpW.leqT rfl rfl (by omega)) rfl ?_ ?_ ?_ | refine SXl.v (OpW.leqF rfl rfl (by omega)) rfl ?_ ?_ ?_ | refine SXl.v (OpW.leq rfl rfl) rfl ?_ ?_ ?_); rfl; rfl) | (refine l_pick ?_; (first | refine SXl.v (OpW.pick rfl rfl rfl) rfl ?_ ?_ ?_); rfl; rfl) | (refine l_buildSlice ?_; first | (refine SXl.lit1 ?_ ?_ rfl rfl rfl (fun g => ?_); rfl; rfl) | (refine SXl.lit0 ?_ ?_ (fun _ h => h) rfl (fun g => ?_); rfl; rfl)) | (refine l_append ?_; first | (refine SXl.append 0 0 rfl rfl rfl rfl rfl rfl rfl rfl (by omega) (by omega) (fun a c => ?_); simp only [List.set_cons_zero, List.set_cons_succ]) | (refine SXl.append 1 0 rfl rfl rfl rfl rfl rfl rfl rfl (by omega) (by omega) (fun a c => ?_); simp only [List.set_cons_zero, List.set_cons_succ])) | refine SX.ret ?_ | refine SX.exit ?_ | refine SQ.thenRet ?_ | refine SQ.thenExit ?_ | refine SQ.blockNormal ?_ | refine SQ.blockRet ?_ | refine SQ.blockExit ?_ | refine SQ.blockOther rfl ?_)
    refine SQ.body1 rfl rfl (fun w' hl => ⟨_, _, rfl, (hl.own _ List.mem_cons_self).1, hl.mod⟩)
end Go.Proofs.YthffgbhphjkdeaaDoor
