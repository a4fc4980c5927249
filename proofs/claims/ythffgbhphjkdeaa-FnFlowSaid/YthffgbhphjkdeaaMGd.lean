/-
  PROVED: contracts of functions and words on memory, several texts put together: what each says stands at its theorems. Conditions: as told there.
-/
import Derived.Test.YthffgbhphjkdeaaMGc
set_option linter.unusedVariables false
set_option linter.unusedSimpArgs false
namespace Go.Proofs.Ythffgbhphjkdeaa
open Go.RowKit

section
variable {P : Program} {n : Nat} {W : World} {R : Rg W} {L : List Blk} {O : List Own} {E : List Res} {w w' : World} {B : Nat}
/-- A new fact on memory that lies beyond B. -/
theorem Loc.toldB (hf : Far W L O E B) (h : Loc W R L O E w) {F1 : Res} (h1 : F1.says w) (h2 : ∀ k, F1.foot k → B ≤ k ∧ k < w.heap.size) : Loc W R L O (F1 :: E) w where
  mod := h.mod
  inv := h.inv
  blk := h.blk
  apart := h.apart
  own := h.own
  ownApart := h.ownApart
  res := fun F hF => by
    rcases List.mem_cons.1 hF with rfl | hF
    · refine ⟨h1, fun k hk => (h2 k hk).2, fun b hb f => ?_, fun o ho k hk f => ?_⟩
      · have := hf.blk b hb; have := (h2 _ f).1; omega
      · have := hf.own o ho k hk; have := (h2 _ f).1; omega
    · exact h.res F hF
  resNew := fun F hF k hk => by
    rcases List.mem_cons.1 hF with rfl | hF
    · exact Nat.le_trans hf.old (h2 k hk).1
    · exact h.resNew F hF k hk
  resApart := List.pairwise_cons.2 ⟨fun G hG k hk hk' => by have := hf.res G hG k hk'; have := (h2 k hk).1; omega, h.resApart⟩
/-- What a call handed back, told. -/
def WV {ξ : Type} (v : ξ → Value) (F1 : ξ → Res) (B : Nat) (w : World) (u : Value) : Prop := ∃ p, u = v p ∧ (F1 p).says w ∧ ∀ k, (F1 p).foot k → B ≤ k ∧ k < w.heap.size
theorem WV.keep {ξ : Type} {v : ξ → Value} {F1 : ξ → Res} {u : Value} (h : WV v F1 B w u) (hm : Mod (fun _ => False) w w') : WV v F1 B w' u := by
  obtain ⟨p, h1, h2, h3⟩ := h
  exact ⟨p, h1, (F1 p).stable _ _ _ h2 hm (fun _ _ f => f), fun k hk => ⟨(h3 k hk).1, Nat.lt_of_lt_of_le (h3 k hk).2 hm.size⟩⟩
structure SXw (P : Program) (n : Nat) (W : World) (R : Rg W) (ops : Array Oper) (L : List Blk) (O : List Own) (E : List Res) (B : Nat) (k : Nat) (U : List (Nat × ((Nat → Value) → World → Value → Prop))) (f : (Nat → Value) → List (Nat × Value)) (l : List Oper) (Q : Exit → Act → World → Prop) : Prop where
  run : ∀ F : (Nat → Value) → Act, (∀ x, Fr n (f x) (F x)) → RS P ops (Mod fun _ => False) (fun w => Loc W R L O E w ∧ B ≤ w.heap.size) Q k l F U
end
section
variable {P : Program} {n : Nat} {W : World} {R : Rg W} {L : List Blk} {O : List Own} {E : List Res} {U : List (Nat × ((Nat → Value) → World → Value → Prop))} {f : (Nat → Value) → List (Nat × Value)} {f0 : List (Nat × Value)} {Q : Exit → Act → World → Prop} {ops : Array Oper} {rest : List Oper} {k B : Nat}
theorem SX.drawnWT {id : Nat} {l : List Oper} (m : Nat) (hm : P.follows .mixedOrders = true) (hc : regOkTo m l.toArray = true) (ht : tailOk l.toArray m = true) (h : ∀ B, Far W L O E B → SXw P n W R l.toArray L O E B 0 [] (fun _ => f0) (l.take m) (fun _ a w => wpList P l.toArray Q (l.drop m) a w)) : SX P n W R L O E f0 (.region id l.toArray true) Q := ⟨fun a w hf hl =>
  wp_region_rs_tail m (fun w' => Loc W R L O E w' ∧ w.heap.size ≤ w'.heap.size) (Mod fun _ => False) hm hc ht ⟨hl.keep ((Mod.refl _ w).drew), Nat.le_refl _⟩ ((h w.heap.size hl.far).run _ fun _ => hf)⟩
theorem SXw.v {o : Oper} {v : Value} {d : Nat} (hr : ∀ x, OpW P n W R L O E (f x) o v) (hdst : o.dst = some d) (hw : ∀ x, wantO ops (f x) o = some true) (hd : Nat.blt d n = true) (h : SXw P n W R ops L O E B (k + 1) U (fun x => (d, v) :: f x) rest Q) : SXw P n W R ops L O E B k U f (o :: rest) Q := ⟨fun F hF =>
  RS.val [] (fun _ => v) rfl (fun _ _ _ => rfl) (fun x => wanted_of (hF x) (hw x)) (fun x w hS _ => wp_never ((hr x).run _ w (hF x) hS.1) fun _ _ ⟨h1, h2⟩ => ⟨h1, ⟨hS.1.keep h2, Nat.le_trans hS.2 h2.size⟩, h2⟩) (by rw [hdst]; exact h.run _ fun x => (hF x).put hd v)⟩
theorem SXw.no {o : Oper} {d : Nat} (hw : ∀ x, wantO ops (f x) o = some false) (hdst : o.dst = some d) (hd : Nat.blt d n = true) (h : SXw P n W R ops L O E B (k + 1) U (fun x => (d, undef) :: f x) rest Q) : SXw P n W R ops L O E B k U f (o :: rest) Q := ⟨fun F hF =>
  RS.skip (fun x => wanted_of (hF x) (hw x)) (by rw [hdst]; exact h.run _ fun x => (hF x).put hd undef)⟩
variable {d : Nat} {fn : FuncId} {ars : List Operand} {aT : Array TypeId} {ty : TypeId} {pos : String} {af : Array Edge} {gd : Option (Nat × Bool)}
/-- A call that hands back new memory. -/
theorem SXw.new {ξ : Type} {args : List Value} [TFun P fn] (v : ξ → Value) (F1 : ξ → Res) (hw : ∀ x, wantO ops (f x) ⟨some d, .call ⟨.value (.func fn), ars.toArray, aT⟩, ty, pos, af, gd⟩ = some true) (hd : Nat.blt d n = true) (ha : ∀ x, evL (f x) ars = some args)
    (hc : ∀ w, Loc W R L O E w → Calls P fn args.toArray w (NewR ξ v F1 w))
    (h : SXw P n W R ops L O E B (k + 1) ((k, fun _ => WV v F1 B) :: U) (fun x => (d, x k) :: f x) rest Q) : SXw P n W R ops L O E B k U f (⟨some d, .call ⟨.value (.func fn), ars.toArray, aT⟩, ty, pos, af, gd⟩ :: rest) Q := ⟨fun F hF =>
  RS.new [] (WV v F1 B) id (fun _ _ _ => rfl) rfl (fun _ _ _ h hm => h.keep hm) (fun x => wanted_of (hF x) (hw x)) (fun x w hS _ => by
    unfold Oper.wp
    rw [run_callop (hF x) (ha x) w _ _, Oper.upon_enter]
    refine (hc w hS.1).mono ?_
    rintro e w' ⟨p, rfl, h1, h2⟩
    exact ⟨v p, rfl, ⟨p, rfl, h1.1, fun k hk => ⟨Nat.le_trans hS.2 (h1.2 k hk).1, (h1.2 k hk).2⟩⟩, ⟨hS.1.keep h2, Nat.le_trans hS.2 h2.size⟩, h2⟩) (h.run _ fun x => (hF x).put hd _)⟩
theorem SXw.nil (h : ∀ x, SQ n W R L O E (f x) .normal Q) : SXw P n W R ops L O E B k U f [] Q := ⟨fun F hF => RS.done fun x w hS _ => (h x).run (F x) w (hF x) hS.1⟩
theorem SXw.tail {ξ : Type} {v : ξ → Value} {F1 : ξ → Res} (ka : Nat) (hf : Far W L O E B) (hA : (ka, fun _ => WV v F1 B) ∈ U) (h : ∀ x p, x ka = v p → SXl P n W R ops L O (F1 p :: E) (f x) rest Q) : SXw P n W R ops L O E B k U f [] (fun _ a w => wpList P ops Q rest a w) := ⟨fun F hF => RS.done fun x w hS hU => by
  obtain ⟨p, h1, h2, h3⟩ := hU _ hA
  exact (h x p h1).run (F x) w (hF x) (Loc.toldB hf hS.1 h2 h3)⟩
end
end Go.Proofs.Ythffgbhphjkdeaa
namespace Go.Proofs.Ythffgbhphjkdeaa
open Go.RowKit
set_option linter.unusedVariables false
set_option linter.unusedSimpArgs false

theorem icell_len (x : Int) : (icell x).length = 1 := rfl
theorem icell_one (x : Int) : ∀ u ∈ icell x, u.oneCell' = true := fun u hu => by simp [icell] at hu; subst hu; rfl
/-- A node and what is below its first j children. -/
def undTo (l : List Node) (n : Int) (kids : List Int) (j : Nat) : List Int := n :: ((kids.take j).map (allU l)).flatten
theorem undTo_succ {l : List Node} {n : Int} {kids : List Int} {j : Nat} {y : Int} (h : kids[j]? = some y) : undTo l n kids (j + 1) = undTo l n kids j ++ allU l y := by
  unfold undTo
  rw [List.take_add_one, h]
  simp
theorem undTo_len {l : List Node} (hv : treeOk l = true) {k : Nat} {x : Node} (hx : l[k]? = some x) {j : Nat} (hj : j ≤ x.kids.length) : (undTo l ((k + 1 : Nat) : Int) x.kids j).length ≤ 30000 := by
  have h1 := allU_len hv hx
  rw [allU_eq hv hx] at h1
  have h2 : (x.kids.map (allU l)).flatten = ((x.kids.take j).map (allU l)).flatten ++ ((x.kids.drop j).map (allU l)).flatten := by
    rw [← List.flatten_append, ← List.map_append, List.take_append_drop]
  rw [h2] at h1
  unfold undTo
  simp only [List.length_cons, List.length_append] at h1 ⊢
  omega
set_option maxRecDepth 100000 in
set_option maxHeartbeats 8000000 in
theorem allUnder_any (l : List Node) (o : Bool) (a : Option Addr) (c : Nat) (R : Nat → Prop) (hv : treeOk l = true) : ∀ (f k : Nat) (x : Node) (w : World), l[k]? = some x → dep l ((k + 1 : Nat) : Int) = 5 - (f : Int) → NodeSlice o R w a l →
    Calls Try.prog 94 #[.agg #[.slice a l.length c], .int .i64 ((k + 1 : Nat) : Int)] w (NewSlice 3 1 w (allU l ((k + 1 : Nat) : Int)).length ((allU l ((k + 1 : Nat) : Int)).map icell).flatten) := by
  intro f
  induction f with
  | zero =>
    intro k x w hx hd
    have := (ok_node hv hx).2.1
    omega
  | succ f ih =>
    intro k x w hx hd h
    have hlt := (List.getElem?_eq_some_iff.1 hx).1
    have hln := ok_len hv
    have hkl := ok_kids_len hv hx
    have hU := allU_eq hv hx
    have hUl := allU_len hv hx
    refine calls_sx Try.func94 rfl rfl (fun a h1 h2 h3 => ((Fr.nil h1 h2).arg (h3 1 _ rfl)).arg (h3 0 _ rfl)) ?_
    obtain ⟨b1, o1, x1, r1, rfl, hR1, hb1, hxk, hr1, hl1, hc1⟩ := h.get hlt
    obtain rfl : x1 = x := Option.some.inj (hxk.out.symm.trans hx)
    obtain ⟨up, kids, st, me, ru⟩ := x1
    obtain ⟨ka, kc, ra, rc, rfl, hk1, ht1, _⟩ := hr1
    simp only at hc1 hk1 hkl hU
    repeat (first | refine qan ?_ | refine qaj ?_ | refine qaf ?_ | refine qad ?_ | refine SX.block ?_ | (refine qat ?_; (refine qac (qap rfl (fun w hl => node_any _ _ _ _ k _ _ _ _ _ _ _ _ _ w (by omega) hlt (fun j v hv => hl.old (hc1 j v hv) (fun h => h)))) rfl ?_ ?_ ?_); rfl; rfl) | (refine l_field ?_; (refine qac (OpW.field rfl (nodeRow_a1 _ _ _ _ _ _ _ _ _)) rfl ?_ ?_ ?_); rfl; rfl) | (refine qau ?_; (refine qac (qam 1 rfl rfl rfl) rfl ?_ ?_ ?_); rfl; rfl) | (refine qao ?_; (refine qac (qai rfl) rfl ?_ ?_ ?_); rfl; rfl) | (refine qal ?_; (refine qac (qag rfl) rfl ?_ ?_ ?_); rfl; rfl) | (refine l_len ?_; (refine qac (OpW.len rfl) rfl ?_ ?_ ?_); rfl; rfl) | (refine l_box ?_; refine qaG ?_ ?_ rfl rfl (fun g => ?_); rfl; rfl) | (refine qaN ?_; first | (refine SXl.lit1 ?_ ?_ rfl rfl rfl (fun g => ?_); rfl; rfl) | (refine SXl.lit0 ?_ ?_ (fun _ h => h) rfl (fun g => ?_); rfl; rfl)))
    rename_i g2
    refine SX.loop3 (fun (j : Nat) (_ : Option Addr) (_ : Nat) => j ≤ kids.length) (fun j _ _ => kids.length - j) (fun _ _ _ => [⟨g2, [.slice (some ⟨b1, o1, none⟩) l.length c], 37⟩]) (fun j a' c' => [⟨.slice a' (undTo l ((k + 1 : Nat) : Int) kids j).length c', 3, 1, (undTo l ((k + 1 : Nat) : Int) kids j).length, ((undTo l ((k + 1 : Nat) : Int) kids j).map icell).flatten⟩]) (fun _ _ _ => []) (fun j a' c' => [(2, .pointer (some ⟨g2, 0, none⟩)), (5, .slice a' (undTo l ((k + 1 : Nat) : Int) kids j).length c'), (13, .slice ka kids.length kc), (14, .int .i64 kids.length), (15, .int .i64 j)]) 0 (some ⟨g, 0, none⟩) 1 (Nat.zero_le _) ?_ (fun _ hl => hl.toOwn (m := 1) (sz := 1) (fun h => h) rfl (by decide)) ?_
    · (repeat (first | exact subF_nil _ | (refine subF_cons rfl ?_) | (refine subF_consv rfl (by rfl) ?_)))
    intro j a' c' hj
    have hUj := undTo_len hv hx (by simpa using hj)
    simp only at hUj
    by_cases hjl : j < kids.length
    · obtain ⟨b3, o3, y, e3, hR3, hb3, hyk, hc3⟩ := IntSlice.get hk1 hjl
      subst e3
      replace hyk := hyk.out
      obtain ⟨ky, z, rfl, hz, hzu, hzd⟩ := ok_kid hv hx (List.mem_of_getElem? hyk)
      have hS := undTo_succ (l := l) (n := ((k + 1 : Nat) : Int)) hyk
      have hzl := allU_len hv hz
      repeat (first | refine qan ?_ | refine qaj ?_ | refine qaf ?_ | refine qad ?_ | refine SX.block ?_ | refine qaC ?_ | refine qaq rfl ?_ | (refine qau ?_; (first | refine qac (OpW.loadOld rfl (by assumption) (fun h => h)) rfl ?_ ?_ ?_ | refine qac (qam 0 rfl rfl rfl) rfl ?_ ?_ ?_); rfl; rfl) | (refine qao ?_; (refine qac (qai rfl) rfl ?_ ?_ ?_); rfl; rfl) | (refine qal ?_; (refine qac (qag rfl) rfl ?_ ?_ ?_); rfl; rfl) | (refine l_lss ?_; (refine qac (OpW.lssT rfl rfl (by omega)) rfl ?_ ?_ ?_); rfl; rfl) | (refine qaM ?_; (refine qac (qaO (by omega) rfl rfl) rfl ?_ ?_ ?_); rfl; rfl))
      refine qat ?_
      refine SXl.calln1 (v := fun q => .slice q.a (allU l ((ky + 1 : Nat) : Int)).length q.c) (F1 := ownRes icell 3 1 (allU l ((ky + 1 : Nat) : Int))) rfl rfl rfl (fun w hl => (ih ky z w hz (by rw [hzd, hd]; omega) (h.keep hl.mod)).mono fun _ _ h => new_own h) (fun q => ?_)
      refine l_append ?_
      refine SXl.appendS (cs := icell) 0 (allU l ((ky + 1 : Nat) : Int)) rfl rfl rfl rfl rfl rfl icell_len icell_one (fun w hl => ⟨_, own_in hl (.head _) (fun _ => rfl) (by decide)⟩) (by omega) (by omega) (fun a2 c2 => ?_)
      simp only [List.set_cons_zero, List.set_cons_succ]
      repeat (first | refine qaj ?_ | refine qaf ?_ | refine qad ?_ | (refine qao ?_; (refine qac (qai rfl) rfl ?_ ?_ ?_); rfl; rfl) | (refine qal ?_; (refine qac (qag rfl) rfl ?_ ?_ ?_); rfl; rfl) | (refine l_add ?_; (refine qac (OpW.succ rfl rfl (by omega)) rfl ?_ ?_ ?_); rfl; rfl) | refine qar ?_)
      refine SQ.round3 (j + 1) a2 c2 (by omega) (by omega) ?_ (fun w hl => by rw [hS, List.length_append, List.map_append, List.flatten_append]; exact hl.dropE)
      (repeat (first | exact subF_nil _ | (refine subF_cons rfl ?_) | (refine subF_consv rfl (by rw [hS, List.length_append]) ?_)))
    · have hj' : j = kids.length := by omega
      subst hj'
      have hall : undTo l ((k + 1 : Nat) : Int) kids kids.length = allU l ((k + 1 : Nat) : Int) := by rw [hU]; unfold undTo; rw [List.take_length]
      rw [hall] at *
      repeat (first | refine qan ?_ | refine qaj ?_ | refine qaf ?_ | refine qad ?_ | refine qas rfl ?_ | (refine qao ?_; (refine qac (qai rfl) rfl ?_ ?_ ?_); rfl; rfl) | (refine qal ?_; (refine qac (qag rfl) rfl ?_ ?_ ?_); rfl; rfl) | (refine l_lss ?_; (refine qac (OpW.lssF rfl rfl (by omega)) rfl ?_ ?_ ?_); rfl; rfl) | refine qaA ?_ | refine SX.exit ?_ | refine qaF ?_ | refine qaD ?_)
      refine qaz rfl rfl (fun w' hl => ⟨_, _, rfl, (hl.own _ List.mem_cons_self).1, hl.mod⟩)
set_option maxRecDepth 100000 in
set_option maxHeartbeats 8000000 in
theorem sallUnder_any (l : List Node) (o : Bool) (a : Option Addr) (c : Nat) (R : Nat → Prop) (hv : treeOk l = true) (hfit : ∀ x ∈ l, x.fits 1048576) : ∀ (f k : Nat) (x : Node) (w : World), l[k]? = some x → dep l ((k + 1 : Nat) : Int) = 5 - (f : Int) → NodeSlice o R w a l →
    Calls Try.prog 42 #[.agg #[.slice a l.length c], .int .i64 ((k + 1 : Nat) : Int)] w (NewSlice 3 1 w (allU l ((k + 1 : Nat) : Int)).length ((allU l ((k + 1 : Nat) : Int)).map icell).flatten) := by
  intro f
  induction f with
  | zero =>
    intro k x w hx hd
    have := (ok_node hv hx).2.1
    omega
  | succ f ih =>
    intro k x w hx hd h
    have hlt := (List.getElem?_eq_some_iff.1 hx).1
    have hln := ok_len hv
    have hkl := ok_kids_len hv hx
    have hU := allU_eq hv hx
    have hUl := allU_len hv hx
    have hin : inB ((k + 1 : Nat) : Int) 1 l.length = true := inB_true (by omega) (by omega)
    refine calls_sx Try.func42 rfl rfl (fun a h1 h2 h3 => ((Fr.nil h1 h2).arg (h3 1 _ rfl)).arg (h3 0 _ rfl)) ?_
    obtain ⟨b1, o1, x1, r1, rfl, hR1, hb1, hxk, hr1, hl1, hc1⟩ := h.get hlt
    obtain rfl : x1 = x := Option.some.inj (hxk.out.symm.trans hx)
    have hT := fun w (hm : Mod (fun _ => False) _ w) => streeOk_any l o (some ⟨b1, o1, none⟩) c R w (by omega) hfit (h.keep hm)
    rw [hv] at hT
    obtain ⟨up, kids, st, me, ru⟩ := x1
    obtain ⟨ka, kc, ra, rc, rfl, hk1, ht1, _⟩ := hr1
    simp only at hc1 hk1 hkl hU
    repeat (first | refine qan ?_ | refine qaj ?_ | refine qaf ?_ | refine qad ?_ | refine SX.block ?_ | refine qaC ?_ | refine qas rfl ?_ | (refine qat ?_; (first | refine qac (qap rfl (fun w hl => hT _ hl.mod)) rfl ?_ ?_ ?_ | refine qac (qap rfl (fun w hl => sisNode_any _ _ _ _ _)) rfl ?_ ?_ ?_ | refine qac (qap rfl (fun w hl => snode_any _ _ _ _ k _ _ _ _ _ _ _ _ _ w (by omega) hlt (fun j v hv => hl.old (hc1 j v hv) (fun h => h)))) rfl ?_ ?_ ?_); rfl; rfl) | (refine l_field ?_; (refine qac (OpW.field rfl (nodeRow_a1 _ _ _ _ _ _ _ _ _)) rfl ?_ ?_ ?_); rfl; rfl) | (refine qau ?_; (first | refine qac (qam 0 rfl rfl rfl) rfl ?_ ?_ ?_ | refine qac (qam 1 rfl rfl rfl) rfl ?_ ?_ ?_); rfl; rfl) | (refine qao ?_; (refine qac (qai rfl) rfl ?_ ?_ ?_); rfl; rfl) | (refine qal ?_; (refine qac (qag rfl) rfl ?_ ?_ ?_); rfl; rfl) | (refine qaT ?_; (refine qac (OpW.not rfl) rfl ?_ ?_ ?_); rfl; rfl) | (refine qaE ?_; (refine qac (qav rfl rfl rfl) rfl ?_ ?_ ?_); rfl; rfl) | (refine l_box ?_; refine qaG ?_ ?_ rfl rfl (fun g => ?_); rfl; rfl) | (refine qaN ?_; first | (refine SXl.lit1 ?_ ?_ rfl rfl rfl (fun g => ?_); rfl; rfl) | (refine SXl.lit0 ?_ ?_ (fun _ h => h) rfl (fun g => ?_); rfl; rfl)) | (refine l_append ?_; first | (refine SXl.append 0 0 rfl rfl rfl rfl rfl rfl rfl rfl (by omega) (by omega) (fun a c => ?_); simp only [List.set_cons_zero, List.set_cons_succ]) | (refine SXl.append 1 0 rfl rfl rfl rfl rfl rfl rfl rfl (by omega) (by omega) (fun a c => ?_); simp only [List.set_cons_zero, List.set_cons_succ])) | (rw [hin]))
    rename_i ct _ g2 _
    refine SX.loop3 (fun (j : Nat) (_ : Option Addr) (_ : Nat) => j ≤ kids.length) (fun j _ _ => kids.length - j) (fun _ _ _ => [⟨g2, [.slice (some ⟨b1, o1, none⟩) l.length ct], 37⟩]) (fun j a' c' => [⟨.slice a' (undTo l ((k + 1 : Nat) : Int) kids j).length c', 3, 1, (undTo l ((k + 1 : Nat) : Int) kids j).length, ((undTo l ((k + 1 : Nat) : Int) kids j).map icell).flatten⟩]) (fun _ _ _ => []) (fun j a' c' => [(2, .pointer (some ⟨g2, 0, none⟩)), (5, .slice a' (undTo l ((k + 1 : Nat) : Int) kids j).length c'), (6, .slice ka kids.length kc), (7, .int .i64 j)]) 0 _ _ (Nat.zero_le _) ?_ (fun _ hl => hl.drop1) ?_
    · (repeat (first | exact subF_nil _ | (refine subF_cons rfl ?_) | (refine subF_consv rfl (by rfl) ?_)))
    intro j a' c' hj
    have hUj := undTo_len hv hx (by simpa using hj)
    simp only at hUj
    by_cases hjl : j < kids.length
    · obtain ⟨b3, o3, y, e3, hR3, hb3, hyk, hc3⟩ := IntSlice.get hk1 hjl
      subst e3
      replace hyk := hyk.out
      obtain ⟨ky, z, rfl, hz, hzu, hzd⟩ := ok_kid hv hx (List.mem_of_getElem? hyk)
      have hS := undTo_succ (l := l) (n := ((k + 1 : Nat) : Int)) hyk
      have hzl := allU_len hv hz
      repeat (first | refine qan ?_ | refine qaj ?_ | refine qaf ?_ | refine qad ?_ | refine SX.block ?_ | refine qaC ?_ | refine qaq rfl ?_ | (refine qao ?_; (refine qac (qai rfl) rfl ?_ ?_ ?_); rfl; rfl) | (refine l_len ?_; (refine qac (OpW.len rfl) rfl ?_ ?_ ?_); rfl; rfl) | (refine l_lss ?_; (refine qac (OpW.lssT rfl rfl (by omega)) rfl ?_ ?_ ?_); rfl; rfl))
      refine SX.drawnWT 7 (by kernel_rfl) (by kernel_rfl) (by kernel_rfl) (fun B hf => ?_)
      repeat (first | (refine SXw.new (ξ := SlP) (fun q => .slice q.a (allU l ((ky + 1 : Nat) : Int)).length q.c) (ownRes icell 3 1 (allU l ((ky + 1 : Nat) : Int))) (fun _ => rfl) rfl (fun _ => rfl) (fun w hl => (ih ky z w hz (by rw [hzd, hd]; omega) (h.keep hl.mod)).mono fun _ _ h => new_own h) ?_) | (refine SXw.v (fun _ => (OpW.loadOld rfl (by assumption) (fun h => h))) rfl (fun _ => rfl) rfl ?_) | (refine SXw.v (fun _ => (qam 0 rfl rfl rfl)) rfl (fun _ => rfl) rfl ?_) | (refine SXw.v (fun _ => (qai rfl)) rfl (fun _ => rfl) rfl ?_) | (refine SXw.v (fun _ => (qaO (by omega) rfl rfl)) rfl (fun _ => rfl) rfl ?_))
      refine SXw.tail 6 hf (.head _) (fun xq q hxq => ?_)
      simp only [hxq]
      refine l_append ?_
      refine SXl.appendS (cs := icell) 0 (allU l ((ky + 1 : Nat) : Int)) rfl rfl rfl rfl rfl rfl icell_len icell_one (fun w hl => ⟨_, own_in hl (.head _) (fun _ => rfl) (by decide)⟩) (by omega) (by omega) (fun a2 c2 => ?_)
      simp only [List.set_cons_zero, List.set_cons_succ]
      repeat (first | refine qaj ?_ | refine qaf ?_ | refine qad ?_ | (refine qao ?_; (refine qac (qai rfl) rfl ?_ ?_ ?_); rfl; rfl) | (refine qal ?_; (refine qac (qag rfl) rfl ?_ ?_ ?_); rfl; rfl) | (refine l_add ?_; (refine qac (OpW.succ rfl rfl (by omega)) rfl ?_ ?_ ?_); rfl; rfl) | refine qar ?_)
      refine SQ.round3 (j + 1) a2 c2 (by omega) (by omega) ?_ (fun w hl => by rw [hS, List.length_append, List.map_append, List.flatten_append]; exact hl.dropE)
      (repeat (first | exact subF_nil _ | (refine subF_cons rfl ?_) | (refine subF_consv rfl (by rw [hS, List.length_append]) ?_)))
    · have hj' : j = kids.length := by omega
      subst hj'
      have hall : undTo l ((k + 1 : Nat) : Int) kids kids.length = allU l ((k + 1 : Nat) : Int) := by rw [hU]; unfold undTo; rw [List.take_length]
      rw [hall] at *
      repeat (first | refine qan ?_ | refine qaj ?_ | refine qaf ?_ | refine qad ?_ | refine qas rfl ?_ | (refine qao ?_; (refine qac (qai rfl) rfl ?_ ?_ ?_); rfl; rfl) | (refine qal ?_; (refine qac (qag rfl) rfl ?_ ?_ ?_); rfl; rfl) | (refine l_len ?_; (refine qac (OpW.len rfl) rfl ?_ ?_ ?_); rfl; rfl) | (refine l_lss ?_; (refine qac (OpW.lssF rfl rfl (by omega)) rfl ?_ ?_ ?_); rfl; rfl) | refine qaA ?_ | refine SX.exit ?_ | refine qaF ?_ | refine qaD ?_)
      refine qaz rfl rfl (fun w' hl => ⟨_, _, rfl, (hl.own _ List.mem_cons_self).1, hl.mod⟩)
end Go.Proofs.Ythffgbhphjkdeaa
namespace Go.Proofs.Ythffgbhphjkdeaa
open Go.RowKit
set_option linter.unusedVariables false
set_option linter.unusedSimpArgs false

theorem own_from {w : World} {b base e sz n : Nat} {v : Value} {xs : List Value} (h : w.ownsRow b e sz v n xs) (hb : ∀ k, v.ownBlock = some k → base ≤ k) : w.ownsRow base e sz v n xs := by
  refine ⟨h.1, ?_⟩
  rcases h.2 with h2 | ⟨g, cap, cur, hv, _, hrest⟩
  · exact .inl h2
  · exact .inr ⟨g, cap, cur, hv, hb g (by rw [hv]; rfl), hrest⟩
def allW (l : List Node) (n : Int) : List Int := if treeOk l && inB n 1 l.length then allU l n else []
set_option maxRecDepth 100000 in
set_option maxHeartbeats 8000000 in
theorem allUnderW_any (l : List Node) (n : Int) (o : Bool) (a : Option Addr) (c : Nat) (R : Nat → Prop) (w : World) (hlen : l.length ≤ 1048576) (hfit : ∀ x ∈ l, x.fits 1048576) (h : NodeSlice o R w a l) :
    Calls Try.prog 40 #[.agg #[.slice a l.length c], .int .i64 n] w (NewSlice 3 1 w (allW l n).length ((allW l n).map icell).flatten) := by
  refine calls_sx Try.func40 rfl rfl (fun a h1 h2 h3 => ((Fr.nil h1 h2).arg (h3 1 _ rfl)).arg (h3 0 _ rfl)) ?_
  have hT := fun w' (hm : Mod (fun _ => False) w w') => treeOk_any l o a c R w' hlen hfit (h.keep hm)
  cases hv : treeOk l
  · have e : allW l n = [] := by simp [allW, hv]
    rw [e]
    rw [hv] at hT
    repeat (first | refine qan ?_ | refine qaj ?_ | refine qaf ?_ | refine qad ?_ | refine qaq rfl ?_ | (refine qaS rfl rfl rfl ?_) | (refine qat ?_; (refine qac (qap rfl (fun w hl => hT _ hl.mod)) rfl ?_ ?_ ?_); rfl; rfl) | (refine qau ?_; (refine qac (qam 0 rfl rfl rfl) rfl ?_ ?_ ?_); rfl; rfl) | (refine qao ?_; (refine qac (qai rfl) rfl ?_ ?_ ?_); rfl; rfl) | (refine qal ?_; (refine qac (qag rfl) rfl ?_ ?_ ?_); rfl; rfl) | (refine qaT ?_; (refine qac (OpW.not rfl) rfl ?_ ?_ ?_); rfl; rfl) | (refine qaE ?_; (refine qac (qav rfl rfl rfl) rfl ?_ ?_ ?_); rfl; rfl) | (refine l_box ?_; refine qaG ?_ ?_ rfl rfl (fun g => ?_); rfl; rfl) | refine qaA ?_ | refine qax ?_)
    refine qaz rfl rfl (fun w' hl => ⟨none, 0, rfl, World.ownsRow_nil _ _ _ _, hl.mod⟩)
  rw [hv] at hT
  cases hn : inB n 1 l.length
  · have e : allW l n = [] := by simp [allW, hn]
    rw [e]
    repeat (first | refine qan ?_ | refine qaj ?_ | refine qaf ?_ | refine qad ?_ | refine qaq rfl ?_ | (refine qat ?_; (first | refine qac (qap rfl (fun w hl => hT _ hl.mod)) rfl ?_ ?_ ?_ | refine qac (qap rfl (fun w hl => isNode_any _ _ _ _ _)) rfl ?_ ?_ ?_); rfl; rfl) | (refine qau ?_; (refine qac (qam 0 rfl rfl rfl) rfl ?_ ?_ ?_); rfl; rfl) | (refine qao ?_; (refine qac (qai rfl) rfl ?_ ?_ ?_); rfl; rfl) | (refine qal ?_; (refine qac (qag rfl) rfl ?_ ?_ ?_); rfl; rfl) | (refine qaT ?_; (refine qac (OpW.not rfl) rfl ?_ ?_ ?_); rfl; rfl) | (refine qaE ?_; (refine qac (qav rfl rfl rfl) rfl ?_ ?_ ?_); rfl; rfl) | (refine l_box ?_; refine qaG ?_ ?_ rfl rfl (fun g => ?_); rfl; rfl) | (rw [hn]) | refine qaA ?_ | refine qax ?_)
    refine qaz rfl rfl (fun w' hl => ⟨none, 0, rfl, World.ownsRow_nil _ _ _ _, hl.mod⟩)
  have e : allW l n = allU l n := by simp [allW, hv, hn]
  rw [e]
  obtain ⟨k, rfl, hk⟩ := inB_node hn
  have hx := List.getElem?_eq_getElem hk
  generalize l[k] = x at hx
  have hd := (ok_node hv hx).2.1
  repeat (first | refine qan ?_ | refine qaj ?_ | refine qaf ?_ | refine qad ?_ | refine qaC ?_ | refine qas rfl ?_ | (refine qat ?_; (first | refine qac (qap rfl (fun w hl => hT _ hl.mod)) rfl ?_ ?_ ?_ | refine qac (qap rfl (fun w hl => isNode_any _ _ _ _ _)) rfl ?_ ?_ ?_); rfl; rfl) | (refine qau ?_; (refine qac (qam 0 rfl rfl rfl) rfl ?_ ?_ ?_); rfl; rfl) | (refine qao ?_; (refine qac (qai rfl) rfl ?_ ?_ ?_); rfl; rfl) | (refine qal ?_; (refine qac (qag rfl) rfl ?_ ?_ ?_); rfl; rfl) | (refine qaT ?_; (refine qac (OpW.not rfl) rfl ?_ ?_ ?_); rfl; rfl) | (refine qaE ?_; (refine qac (qav rfl rfl rfl) rfl ?_ ?_ ?_); rfl; rfl) | (refine l_box ?_; refine qaG ?_ ?_ rfl rfl (fun g => ?_); rfl; rfl) | (rw [hn]))
  refine qat ?_
  refine SXl.calln1 (v := fun q => .slice q.a (allU l ((k + 1 : Nat) : Int)).length q.c) (F1 := ownRes icell 3 1 (allU l ((k + 1 : Nat) : Int))) rfl rfl rfl (fun w hl => (allUnder_any l o a c R hv (5 - dep l ((k + 1 : Nat) : Int)).toNat k x w hx (by omega) (h.keep hl.mod)).mono fun _ _ h => new_own h) (fun q => ?_)
  repeat (first | refine qaj ?_ | refine qad ?_ | (refine qal ?_; (refine qac (qag rfl) rfl ?_ ?_ ?_); rfl; rfl) | refine qaA ?_)
  refine qaz rfl rfl (fun w' hl => ⟨_, _, rfl, ?_, hl.mod⟩)
  have := hl.res _ (.head _)
  have h2 := hl.resNew _ (.head _)
  exact own_from this.1 h2
set_option maxRecDepth 100000 in
set_option maxHeartbeats 8000000 in
theorem sallUnderW_any (l : List Node) (n : Int) (o : Bool) (a : Option Addr) (c : Nat) (R : Nat → Prop) (w : World) (hlen : l.length ≤ 1048576) (hfit : ∀ x ∈ l, x.fits 1048576) (h : NodeSlice o R w a l) :
    Calls Try.prog 42 #[.agg #[.slice a l.length c], .int .i64 n] w (NewSlice 3 1 w (allW l n).length ((allW l n).map icell).flatten) := by
  have hT := fun w' (hm : Mod (fun _ => False) w w') => streeOk_any l o a c R w' hlen hfit (h.keep hm)
  cases hv : treeOk l
  · refine calls_sx Try.func42 rfl rfl (fun a h1 h2 h3 => ((Fr.nil h1 h2).arg (h3 1 _ rfl)).arg (h3 0 _ rfl)) ?_
    have e : allW l n = [] := by simp [allW, hv]
    rw [e]
    rw [hv] at hT
    repeat (first | refine qan ?_ | refine qaj ?_ | refine qaf ?_ | refine qad ?_ | refine qaq rfl ?_ | (refine qaS rfl rfl rfl ?_) | (refine qat ?_; (refine qac (qap rfl (fun w hl => hT _ hl.mod)) rfl ?_ ?_ ?_); rfl; rfl) | (refine qau ?_; (refine qac (qam 0 rfl rfl rfl) rfl ?_ ?_ ?_); rfl; rfl) | (refine qao ?_; (refine qac (qai rfl) rfl ?_ ?_ ?_); rfl; rfl) | (refine qal ?_; (refine qac (qag rfl) rfl ?_ ?_ ?_); rfl; rfl) | (refine qaT ?_; (refine qac (OpW.not rfl) rfl ?_ ?_ ?_); rfl; rfl) | (refine qaE ?_; (refine qac (qav rfl rfl rfl) rfl ?_ ?_ ?_); rfl; rfl) | (refine l_box ?_; refine qaG ?_ ?_ rfl rfl (fun g => ?_); rfl; rfl) | (refine qaN ?_; first | (refine SXl.lit1 ?_ ?_ rfl rfl rfl (fun g => ?_); rfl; rfl) | (refine SXl.lit0 ?_ ?_ (fun _ h => h) rfl (fun g => ?_); rfl; rfl)) | refine qaA ?_ | refine qax ?_)
    refine qaz rfl rfl (fun w' hl => ⟨_, _, rfl, (hl.own _ List.mem_cons_self).1, hl.mod⟩)
  rw [hv] at hT
  cases hn : inB n 1 l.length
  · refine calls_sx Try.func42 rfl rfl (fun a h1 h2 h3 => ((Fr.nil h1 h2).arg (h3 1 _ rfl)).arg (h3 0 _ rfl)) ?_
    have e : allW l n = [] := by simp [allW, hn]
    rw [e]
    repeat (first | refine qan ?_ | refine qaj ?_ | refine qaf ?_ | refine qad ?_ | refine qaq rfl ?_ | (refine qat ?_; (first | refine qac (qap rfl (fun w hl => hT _ hl.mod)) rfl ?_ ?_ ?_ | refine qac (qap rfl (fun w hl => sisNode_any _ _ _ _ _)) rfl ?_ ?_ ?_); rfl; rfl) | (refine qau ?_; (refine qac (qam 0 rfl rfl rfl) rfl ?_ ?_ ?_); rfl; rfl) | (refine qao ?_; (refine qac (qai rfl) rfl ?_ ?_ ?_); rfl; rfl) | (refine qal ?_; (refine qac (qag rfl) rfl ?_ ?_ ?_); rfl; rfl) | (refine qaT ?_; (refine qac (OpW.not rfl) rfl ?_ ?_ ?_); rfl; rfl) | (refine qaE ?_; (refine qac (qav rfl rfl rfl) rfl ?_ ?_ ?_); rfl; rfl) | (refine l_box ?_; refine qaG ?_ ?_ rfl rfl (fun g => ?_); rfl; rfl) | (refine qaN ?_; first | (refine SXl.lit1 ?_ ?_ rfl rfl rfl (fun g => ?_); rfl; rfl) | (refine SXl.lit0 ?_ ?_ (fun _ h => h) rfl (fun g => ?_); rfl; rfl)) | (rw [hn]) | refine qaA ?_ | refine qax ?_)
    refine qaz rfl rfl (fun w' hl => ⟨_, _, rfl, (hl.own _ List.mem_cons_self).1, hl.mod⟩)
  have e : allW l n = allU l n := by simp [allW, hv, hn]
  rw [e]
  obtain ⟨k, rfl, hk⟩ := inB_node hn
  have hx := List.getElem?_eq_getElem hk
  generalize l[k] = x at hx
  have hd := (ok_node hv hx).2.1
  exact sallUnder_any l o a c R hv hfit (5 - dep l ((k + 1 : Nat) : Int)).toNat k x w hx (by omega) h
end Go.Proofs.Ythffgbhphjkdeaa
namespace Go.Proofs.Ythffgbhphjkdeaa
open Go.RowKit
set_option linter.unusedVariables false
set_option linter.unusedSimpArgs false

/-- Operation k comes up: not before; whom it waits for have come; who has come up had its own behind it. -/
structure Adm (ops : Array Oper) (d : Nat → Bool) (k : Nat) : Prop where
  not : d k = false
  pre : ∀ i ∈ reach ops ops.size k, d i = true
  clo : ∀ j, d j = true → ∀ i ∈ reach ops ops.size j, d i = true
def upd (d : Nat → Bool) (k : Nat) : Nat → Bool := fun j => Nat.beq j k || d j
def upx (x : Nat → Value) (k : Nat) (v : Value) : Nat → Value := fun j => bif Nat.beq j k then v else x j
theorem Adm.done {ops : Array Oper} {d : Nat → Bool} {k : Nat} (h : Adm ops d k) (i : Nat) (hi : (reach ops ops.size k).contains i = true) : d i = true := h.pre i (by simpa using hi)
/-- Who waits for k has not come up. -/
theorem Adm.later {ops : Array Oper} {d : Nat → Bool} {k : Nat} (h : Adm ops d k) (j : Nat) (hj : (reach ops ops.size j).contains k = true) : d j = false := by
  cases hq : d j with
  | false => rfl
  | true =>
    have := h.clo j hq k (by simpa using hj)
    rw [h.not] at this
    cases this

/-- The walk in the text's order. d: who has come up; x: what the operations gave, by their number. -/
inductive RG (P : Program) (ops : Array Oper) (S : (Nat → Bool) → (Nat → Value) → World → Prop) (Q : Exit → Act → World → Prop) : Nat → List Oper → ((Nat → Value) → Act) → Prop
  | done {k : Nat} {F : (Nat → Value) → Act} (h : ∀ x w, S (fun i => Nat.blt i k) x w → Q .normal (F x) w) : RG P ops S Q k [] F
  | skip {k : Nat} {o : Oper} {rest : List Oper} {F : (Nat → Value) → Act} (hw : ∀ x, Region.wanted o (yielded ops (F x).tmps) = false) (hs : ∀ d x w, S d x w → S (upd d k) x w)
      (h : RG P ops S Q (k + 1) rest (fun x => (F x).put o.dst undef)) : RG P ops S Q k (o :: rest) F
  | val {k : Nat} {o : Oper} {rest : List Oper} {F : (Nat → Value) → Act} (us : List Nat) (g : (Nat → Value) → Value)
      (hus : (us.all fun i => (reach ops ops.size k).contains i) = true) (hg : ∀ x y, (∀ i ∈ us, x i = y i) → g x = g y)
      (hw : ∀ x, Region.wanted o (yielded ops (F x).tmps) = true)
      (ho : ∀ d x w, Adm ops d k → S d x w → o.wp P (F x) w (fun a' w' => a' = (F x).put o.dst (g x) ∧ S (upd d k) x w') never)
      (h : RG P ops S Q (k + 1) rest (fun x => (F x).put o.dst (g x))) : RG P ops S Q k (o :: rest) F
  | new {k : Nat} {o : Oper} {rest : List Oper} {F : (Nat → Value) → Act}
      (hw : ∀ x, Region.wanted o (yielded ops (F x).tmps) = true)
      (ho : ∀ d x w, Adm ops d k → S d x w → o.wp P (F x) w (fun a' w' => ∃ v, a' = (F x).put o.dst v ∧ S (upd d k) (upx x k v) w') never)
      (h : RG P ops S Q (k + 1) rest (fun x => (F x).put o.dst (x k))) : RG P ops S Q k (o :: rest) F

section
variable {P : Program} {ops : Array Oper} {S : (Nat → Bool) → (Nat → Value) → World → Prop} {Q : Exit → Act → World → Prop}
/-- What the walk says of one operation. -/
def SpecG (P : Program) (ops : Array Oper) (S : (Nat → Bool) → (Nat → Value) → World → Prop) (k : Nat) (o : Oper) (A : (Nat → Value) → Act) (g : (Nat → Value) → Value) : Prop :=
  ((∀ x, Region.wanted o (yielded ops (A x).tmps) = false) ∧ g = (fun _ => undef) ∧ ∀ d x w, S d x w → S (upd d k) x w) ∨
  (∃ us : List Nat, (∀ i ∈ us, i ∈ reach ops ops.size k) ∧ (∀ x y, (∀ i ∈ us, x i = y i) → g x = g y) ∧ (∀ x, Region.wanted o (yielded ops (A x).tmps) = true) ∧
    ∀ d x w, Adm ops d k → S d x w → o.wp P (A x) w (fun a' w' => a' = (A x).put o.dst (g x) ∧ S (upd d k) x w') never) ∨
  (g = (fun x => x k) ∧ (∀ x, Region.wanted o (yielded ops (A x).tmps) = true) ∧
    ∀ d x w, Adm ops d k → S d x w → o.wp P (A x) w (fun a' w' => ∃ v, a' = (A x).put o.dst v ∧ S (upd d k) (upx x k v) w') never)

theorem RG.out {k : Nat} {rest : List Oper} {F : (Nat → Value) → Act} (h : RG P ops S Q k rest F) :
    ∀ (a0 : Act) (G0 : Nat → (Nat → Value) → Value), (∀ j, j < rest.length → rest[j]? = ops[k + j]?) → F = (fun x => frm ops a0 G0 x k) →
    ∃ (G : Nat → (Nat → Value) → Value), (∀ i, i < k → G i = G0 i) ∧
      (∀ i o, k ≤ i → i < k + rest.length → ops[i]? = some o → SpecG P ops S i o (fun x => frm ops a0 G x i) (G i)) ∧
      (∀ x w, S (fun i => Nat.blt i (k + rest.length)) x w → Q .normal (frm ops a0 G x (k + rest.length)) w) := by
  have frmEq : ∀ (a0 : Act) (G G' : Nat → (Nat → Value) → Value) (m : Nat), (∀ i, i < m → G i = G' i) → ∀ x, frm ops a0 G x m = frm ops a0 G' x m := by
    intro a0 G G' m
    induction m with
    | zero => intro _ _; rfl
    | succ m ih => intro hG x; simp only [frm]; rw [ih (fun i hi => hG i (by omega)) x, hG m (by omega)]
  have more : ∀ (k : Nat) (o : Oper) (rest : List Oper) (g : (Nat → Value) → Value) (a0 : Act) (G0 : Nat → (Nat → Value) → Value),
      (∀ j, j < (o :: rest).length → (o :: rest)[j]? = ops[k + j]?) → SpecG P ops S k o (fun x => frm ops a0 G0 x k) g →
      (∀ (a1 : Act) (G1 : Nat → (Nat → Value) → Value), (∀ j, j < rest.length → rest[j]? = ops[k + 1 + j]?) → (fun x => (frm ops a0 G0 x k).put o.dst (g x)) = (fun x => frm ops a1 G1 x (k + 1)) →
        ∃ (G : Nat → (Nat → Value) → Value), (∀ i, i < k + 1 → G i = G1 i) ∧
          (∀ i o, k + 1 ≤ i → i < k + 1 + rest.length → ops[i]? = some o → SpecG P ops S i o (fun x => frm ops a1 G x i) (G i)) ∧
          (∀ x w, S (fun i => Nat.blt i (k + 1 + rest.length)) x w → Q .normal (frm ops a1 G x (k + 1 + rest.length)) w)) →
      ∃ (G : Nat → (Nat → Value) → Value), (∀ i, i < k → G i = G0 i) ∧
        (∀ i o', k ≤ i → i < k + (o :: rest).length → ops[i]? = some o' → SpecG P ops S i o' (fun x => frm ops a0 G x i) (G i)) ∧
        (∀ x w, S (fun i => Nat.blt i (k + (o :: rest).length)) x w → Q .normal (frm ops a0 G x (k + (o :: rest).length)) w) := by
    intro k o rest g a0 G0 hr hsp ih
    have ho : ops[k]? = some o := by simpa using (hr 0 (by simp)).symm
    have hd : dstOf ops k = o.dst := by simp [dstOf, ho]
    let G1 : Nat → (Nat → Value) → Value := fun i => if i = k then g else G0 i
    have g1 : ∀ i, i < k → G1 i = G0 i := fun i hi => if_neg (by omega)
    have gk : G1 k = g := if_pos rfl
    obtain ⟨G, e1, e2, e3⟩ := ih a0 G1 (fun j hj => by have := hr (j + 1) (by simp; omega); simpa [Nat.add_assoc, Nat.add_comm 1 j] using this)
      (by funext x; simp only [frm, gk, hd]; rw [frmEq a0 G1 G0 k g1 x])
    refine ⟨G, fun i hi => (e1 i (by omega)).trans (g1 i hi), fun i o' hi hlt ho' => ?_, by simpa [Nat.add_assoc, Nat.add_comm 1] using e3⟩
    by_cases e : i = k
    · subst e
      obtain rfl : o = o' := by rw [ho] at ho'; simpa using ho'
      have fe := frmEq a0 G G0 i (fun j hj => (e1 j (by omega)).trans (g1 j hj))
      have ge : G i = g := (e1 i (by omega)).trans gk
      rw [ge, show (fun x => frm ops a0 G x i) = fun x => frm ops a0 G0 x i from funext fe]
      exact hsp
    · exact e2 i o' (by omega) (by simp only [List.length_cons] at hlt; omega) ho'
  induction h with
  | @done k F h =>
    intro a0 G0 hr hF
    subst hF
    exact ⟨G0, fun i _ => rfl, fun i o hi hlt ho => by simp at hlt; omega, h⟩
  | @skip k o rest F hw hs h ih =>
    intro a0 G0 hr hF
    subst hF
    exact more k o rest (fun _ => undef) a0 G0 hr (.inl ⟨hw, rfl, hs⟩) ih
  | @val k o rest F us g hus hg hw hop h ih =>
    intro a0 G0 hr hF
    subst hF
    exact more k o rest g a0 G0 hr (.inr (.inl ⟨us, contains_all hus, hg, hw, hop⟩)) ih
  | @new k o rest F hw hop h ih =>
    intro a0 G0 hr hF
    subst hF
    exact more k o rest (fun x => x k) a0 G0 hr (.inr (.inr ⟨rfl, hw, hop⟩)) ih

/-- WHATEVER ORDER of the first n: the walk in the text's order serves; behind them the rest goes in its own order. -/
theorem RG.any {n : Nat} {a0 : Act} {w0 : World} (hc : regOkTo n ops = true) (ht : n = ops.size ∨ tailOk ops n = true) (h : RG P ops S (fun _ a w => wpList P ops Q (ops.toList.drop n) a w) 0 (ops.toList.take n) (fun _ => a0)) (hS : S (fun _ => false) (fun _ => undef) w0) :
    wpAny P .any ops Q ops.size (Array.replicate ops.size false) a0 w0 := by
  obtain ⟨c1, c2, c3, c4⟩ := regOk_spec hc
  have hnle : n ≤ ops.size := by
    rcases ht with rfl | ht
    · exact Nat.le_refl _
    · simp only [tailOk, Bool.and_eq_true, decide_eq_true_eq] at ht
      omega
  have htn : 0 + (ops.toList.take n).length = n := by simp; omega
  obtain ⟨G, _, hspec, hfin⟩ := h.out a0 (fun _ _ => undef) (fun j hj => by
    have hj' : j < n := by omega
    simp [hj']) rfl
  rw [htn] at hfin
  have gdep : ∀ i o, i < n → ops[i]? = some o → ∀ x y, (∀ j, (j ∈ reach ops ops.size i ∨ j = i) → x j = y j) → G i x = G i y := fun i o hin ho x y hxy => by
    have hs := hspec i o (Nat.zero_le _) (by rw [htn]; exact hin) ho
    rcases hs with ⟨_, hg, _⟩ | ⟨us, hus, hg, _⟩ | ⟨hg, _⟩
    · rw [hg]
    · exact hg x y fun j hj => hxy j (.inl (hus j hj))
    · rw [hg]; show x i = y i; rw [hxy i (.inr rfl)]
  have main : ∀ (fuel : Nat) (listed : Array Bool) (a : Act) (w : World) (x : Nat → Value), listed.size = ops.size → (unlistedTo n listed).length = fuel →
      (∀ i, listed.getD i false = true → ∀ o, ops[i]? = some o → ∀ e ∈ o.after, Region.binds .any e = true → listed.getD e.on false = true) →
      (∀ t, n ≤ t → t < ops.size → listed.getD t true = false) →
      Laid ops a0 G x (fun i => listed.getD i false = true) a → S (fun i => listed.getD i false) x w → wpAny P .any ops Q (fuel + (ops.size - n)) listed a w := by
    intro fuel
    induction fuel with
    | zero =>
      intro listed a w x hsz hfu hcl htl hla hSw
      have hall : ∀ i, i < n → listed.getD i false = true := fun i hi => by
        have h0 : unlistedTo n listed = [] := List.eq_nil_of_length_eq_zero hfu
        by_cases hn' : listed.getD i false = true
        · exact hn'
        · have : i ∈ unlistedTo n listed := by
            unfold unlistedTo
            rw [List.mem_filter, List.mem_range]
            have hi' : i < listed.size := by omega
            simp only [Array.getD_eq_getD_getElem?, Array.getElem?_eq_getElem hi', Option.getD_some, Bool.not_eq_true] at hn' ⊢
            exact ⟨hi, by rw [hn']; rfl⟩
          rw [h0] at this; simp at this
      have hon : ∀ i, listed.getD i false = true → i < n := fun i hi => by
        by_cases h : i < n
        · exact h
        · by_cases h2 : i < ops.size
          · have := getD_both (htl i (Nat.le_of_not_lt h) h2)
            rw [this] at hi; cases hi
          · rw [Array.getD_eq_getD_getElem?, Array.getElem?_eq_none (by omega)] at hi; cases hi
      have eL : listed = headDone n ops.size := by
        have hds : (headDone n ops.size).size = ops.size := by simp [headDone]; omega
        apply Array.ext (by rw [hds, hsz])
        intro i h1 h2
        have e1 : listed.getD i false = listed[i] := by simp [h1]
        by_cases hi : i < n
        · have := hall i hi
          rw [e1] at this
          rw [this]
          simp [headDone, hi]
        · have := getD_both (htl i (Nat.le_of_not_lt hi) (by omega))
          rw [e1] at this
          rw [this]
          simp [headDone, Array.getElem_append, hi]
      have e : a = frm ops a0 G x n := by
        have hb := laid_frm hc a0 G x n (by omega)
        have ht : a.tmps = (frm ops a0 G x n).tmps := by
          apply Array.ext_getElem?
          intro t
          by_cases hs : t < a0.tmps.size
          · by_cases he : ∃ i, i < n ∧ dstOf ops i = some t
            · obtain ⟨i, hin, hi⟩ := he
              rw [hla.on i t (hall i hin) hi hs, hb.on i t hin hi hs]
            · rw [hla.off t (fun i hli hi => he ⟨i, hon i hli, hi⟩), hb.off t (fun i hin hi => he ⟨i, hin, hi⟩)]
          · rw [Array.getElem?_eq_none (by rw [hla.size]; exact Nat.le_of_not_lt hs), Array.getElem?_eq_none (by rw [hb.size]; exact Nat.le_of_not_lt hs)]
        have hd : a.defers = (frm ops a0 G x n).defers := hla.defers.trans hb.defers.symm
        cases a; cases hf : frm ops a0 G x n
        rw [hf] at ht hd
        simp only at ht hd
        rw [ht, hd]
      have hlen : (ops.toList.drop n).length = ops.size - n := by simp
      have ed : (fun i => listed.getD i false) = fun i => Nat.blt i n := by
        funext i
        by_cases hi : i < n
        · rw [hall i hi]
          exact (show Nat.blt i n = true by simpa using hi).symm
        · have h1 : listed.getD i false = false := by
            cases hq : listed.getD i false with
            | false => rfl
            | true => exact (hi (hon i hq)).elim
          rw [h1]
          cases hq : Nat.blt i n with
          | false => rfl
          | true => exact (hi (by simpa using hq)).elim
      have hw := hfin x w (ed ▸ hSw)
      rw [← e] at hw
      rcases ht with rfl | ht
      · have e0 : ops.toList.drop ops.size = [] := List.drop_eq_nil_of_le (by simp)
        rw [e0] at hw
        rw [Nat.zero_add, Nat.sub_self]
        refine ⟨?_, hw⟩
        cases hr : Region.ready .any ops listed with
        | nil => rfl
        | cons i rest =>
          have hi : i ∈ Region.ready .any ops listed := by rw [hr]; exact List.mem_cons_self
          obtain ⟨h1, o, ho, _⟩ := mem_ready.1 hi
          have hlt := (Array.getElem?_eq_some_iff.1 ho).1
          have h2 := hall i hlt
          have hi' : i < listed.size := by omega
          simp only [Array.getD_eq_getD_getElem?, Array.getElem?_eq_getElem hi', Option.getD_some] at h1 h2
          rw [h1] at h2; cases h2
      · simp only [tailOk, Bool.and_eq_true, decide_eq_true_eq] at ht
        obtain ⟨⟨⟨hn, hs1⟩, hs2⟩, hs3⟩ := ht
        have := wpAny_of_seq (md := .any) (ops.toList.drop n) n listed a w (fun j => by simp [List.getElem?_drop]) (by rw [hlen, eL]; exact hs3) hw
        rw [hlen] at this
        rw [Nat.zero_add]
        exact this
    | succ fuel ih =>
      intro listed a w x hsz hfu hcl htl hla hSw
      have inv : HeadInv .any ops n listed := ⟨hsz, fun j oj hj hl e he hb => hcl j hl oj hj e he hb, htl⟩
      obtain ⟨j0, hj0⟩ : ∃ j0, j0 < n ∧ listed.getD j0 true = false := by
        cases hu : unlistedTo n listed with
        | nil => rw [hu] at hfu; cases hfu
        | cons j r =>
          have : j ∈ unlistedTo n listed := by rw [hu]; exact List.mem_cons_self
          unfold unlistedTo at this
          rw [List.mem_filter, List.mem_range] at this
          exact ⟨j, this.1, by simpa using this.2⟩
      have lt_of_listed : ∀ j, listed.getD j false = true → j < n := fun i hi => by
        by_cases h : i < n
        · exact h
        · by_cases h2 : i < ops.size
          · have := getD_both (htl i (Nat.le_of_not_lt h) h2)
            rw [this] at hi; cases hi
          · rw [Array.getD_eq_getD_getElem?, Array.getElem?_eq_none (by omega)] at hi; cases hi
      -- an operation that comes up
      have step : ∀ i ∈ Region.ready .any ops listed, wpOp P ops Q i (wpAny P .any ops Q (fuel + (ops.size - n)) (listed.setIfInBounds i true)) a w := by
        intro i hi
        have hin : i < n := by
          by_cases h : i < n
          · exact h
          · rcases ht with rfl | ht
            · obtain ⟨_, o, ho, _⟩ := mem_ready.1 hi
              exact (Array.getElem?_eq_some_iff.1 ho).1
            · simp only [tailOk, Bool.and_eq_true, decide_eq_true_eq] at ht
              obtain ⟨⟨⟨hn, hs1⟩, hs2⟩, hs3⟩ := ht
              exact (tail_waits hs1 hs2 hn inv (n - j0) j0 rfl hj0.1 hj0.2 i (Nat.le_of_not_lt h) hi).elim
        obtain ⟨h1, o, ho, h2⟩ := mem_ready.1 hi
        have hlt := (Array.getElem?_eq_some_iff.1 ho).1
        have hli : i < listed.size := by omega
        have hun : listed.getD i false = false := by
          simp only [Array.getD_eq_getD_getElem?, Array.getElem?_eq_getElem hli, Option.getD_some] at h1 ⊢
          exact h1
        have hd : dstOf ops i = o.dst := by simp [dstOf, ho]
        have hset : ∀ j, (listed.setIfInBounds i true).getD j false = true ↔ listed.getD j false = true ∨ j = i := fun j => by
          by_cases e : i = j
          · subst e; simp [hli]
          · rw [getD_set_ne false e]
            exact ⟨.inl, fun h => h.elim id fun h => (e h.symm).elim⟩
        have hcl' : ∀ j, (listed.setIfInBounds i true).getD j false = true → ∀ p, ops[j]? = some p → ∀ e ∈ p.after, Region.binds .any e = true → (listed.setIfInBounds i true).getD e.on false = true := fun j hj p hp e he hb => by
          rw [hset] at hj ⊢
          rcases hj with hj | rfl
          · exact .inl (hcl j hj p hp e he hb)
          · obtain rfl : o = p := by rw [ho] at hp; simpa using hp
            exact .inl (h2 e he hb)
        have hsz' : (listed.setIfInBounds i true).size = ops.size := by simpa using hsz
        have hfu' : (unlistedTo n (listed.setIfInBounds i true)).length = fuel := by
          have e : unlistedTo n (listed.setIfInBounds i true) = (unlistedTo n listed).erase i := by
            unfold unlistedTo
            rw [List.Nodup.erase_eq_filter (List.nodup_range.filter _), List.filter_filter]
            refine List.filter_congr fun j _ => ?_
            by_cases hj : i = j
            · subst hj; simp [hli]
            · rw [getD_set_ne true hj]; simp [Ne.symm hj]
          rw [e, List.length_erase_of_mem, hfu]
          · rfl
          · unfold unlistedTo
            rw [List.mem_filter, List.mem_range]
            exact ⟨hin, by rw [h1]; rfl⟩
        have htl' : ∀ t, n ≤ t → t < ops.size → (listed.setIfInBounds i true).getD t true = false := fun t ht ht' => by rw [getD_set_ne true (by omega)]; exact htl t ht ht'
        have hself : ∀ t ∈ o.looksAt ops, (∃ j, dstOf ops j = some t ∧ listed.getD j false = true ∧ j < i) ∨ ∀ j, dstOf ops j = some t → ¬ listed.getD j false = true ∧ ¬ j < i := fun t ht => by
          by_cases hex : ∃ j, j < n ∧ dstOf ops j = some t
          · obtain ⟨j, hjn, hj⟩ := hex
            obtain ⟨p, hp, hpt⟩ := Option.bind_eq_some_iff.1 hj
            obtain ⟨e, he, hb, rfl⟩ := c4 i j o p t hin hjn ho hp hpt ht
            exact .inl ⟨e.on, hj, h2 e he hb, c2 i o ho e he hb⟩
          · exact .inr fun j hj => ⟨fun hl => hex ⟨j, lt_of_listed j hl, hj⟩, fun hl => hex ⟨j, by omega, hj⟩⟩
        have hreach : ∀ j ∈ reach ops ops.size i, listed.getD j false = true :=
          reach_listed (L := fun j => listed.getD j false = true) hcl ops.size i (fun p hp e he hb => by
            obtain rfl : o = p := by rw [ho] at hp; simpa using hp
            exact h2 e he hb)
        have hdist : ∀ j t, listed.getD j false = true → dstOf ops j = some t → dstOf ops i = some t → j = i := fun j t _ hj hi' => by
          obtain ⟨p, hp, hpt⟩ := Option.bind_eq_some_iff.1 hj
          obtain ⟨q, hq, hqt⟩ := Option.bind_eq_some_iff.1 hi'
          exact c3 j i p q t (lt_of_listed j ‹_›) hin hp hq hqt hpt
        have hsel : ∀ cs c, o.op ≠ .select cs c := fun cs c => Region.noSelect_spec c1 i o cs c ho
        have hfr := laid_frm hc a0 G x i (by omega)
        obtain ⟨he, hwa⟩ := Laid.same hla hfr hsel hself
        have hlaid' : Laid ops a0 G x (fun j => (listed.setIfInBounds i true).getD j false = true) (a.put o.dst (G i x)) := by
          have := hla.put i hdist
          rw [hd] at this
          have e : (fun j => listed.getD j false = true ∨ j = i) = fun j => (listed.setIfInBounds i true).getD j false = true := funext fun j => propext (hset j).symm
          rwa [e] at this
        have hs := hspec i o (Nat.zero_le _) (by rw [htn]; omega) ho
        have adm : Adm ops (fun j => listed.getD j false) i := ⟨hun, hreach, fun j hj => reach_listed (L := fun j => listed.getD j false = true) hcl ops.size j (fun q hq e he hb => hcl j hj q hq e he hb)⟩
        have hupd : (fun j => (listed.setIfInBounds i true).getD j false) = upd (fun j => listed.getD j false) i := by
          funext j
          by_cases e : j = i
          · subst e
            rw [(hset j).2 (.inr rfl)]
            simp [upd]
          · rw [getD_set_ne false (fun h => e h.symm)]
            have e' : Nat.beq j i = false := Bool.eq_false_iff.2 fun h => e (Nat.eq_of_beq_eq_true h)
            simp [upd, e']
        unfold wpOp
        simp only [ho]
        rcases hs with ⟨hw, hg, hsk⟩ | ⟨us, hus, _, hw, hop⟩ | ⟨hg, hw, hop⟩
        · rw [hwa, hw x]
          simp only [Bool.false_eq_true, if_false]
          have hgu : G i x = undef := by rw [hg]
          rw [hgu] at hlaid'
          exact ih _ _ w x hsz' hfu' hcl' htl' hlaid' (by rw [hupd]; exact hsk _ _ _ hSw)
        · rw [hwa, hw x]
          simp only [if_true]
          refine .inl (Oper.wp_mono ?_ (upon_transfer (R := fun v w' => v = G i x ∧ S (upd (fun j => listed.getD j false) i) x w') (b := frm ops a0 G x i) (by rw [hla.size, hfr.size]) he ?_))
          · rintro a' w' ⟨v, rfl, rfl, hS'⟩
            exact ih _ _ w' x hsz' hfu' hcl' htl' hlaid' (by rw [hupd]; exact hS')
          · refine Oper.wp_mono ?_ (hop _ x w adm hSw)
            rintro a' w' ⟨h1, h2⟩
            exact ⟨_, h1, rfl, h2⟩
        · rw [hwa, hw x]
          simp only [if_true]
          refine .inl (Oper.wp_mono ?_ (upon_transfer (R := fun v w' => S (upd (fun j => listed.getD j false) i) (upx x i v) w') (b := frm ops a0 G x i) (by rw [hla.size, hfr.size]) he ?_))
          · rintro a' w' ⟨v, rfl, hS'⟩
            have yi : upx x i v i = v := by simp [upx]
            have yo : ∀ j, j ≠ i → upx x i v j = x j := fun j hj => by
              have e' : Nat.beq j i = false := Bool.eq_false_iff.2 fun h => hj (Nat.eq_of_beq_eq_true h)
              simp [upx, e']
            have hGy : ∀ j, listed.getD j false = true → ∀ p, ops[j]? = some p → G j (upx x i v) = G j x := fun j hj p hp => by
              refine gdep j p (lt_of_listed j hj) hp (upx x i v) x fun m hm => yo m fun e => ?_
              subst e
              rcases hm with hm | rfl
              · have := reach_listed (L := fun j => listed.getD j false = true) hcl ops.size j (fun q hq e he hb => hcl j hj q hq e he hb) m hm
                rw [this] at hun; cases hun
              · rw [hj] at hun; cases hun
            have hla' : Laid ops a0 G (upx x i v) (fun j => listed.getD j false = true) a := by
              refine ⟨hla.defers, hla.size, fun j t hj ht hs => ?_, hla.off⟩
              obtain ⟨p, hp, _⟩ := Option.bind_eq_some_iff.1 ht
              rw [hGy j hj p hp]
              exact hla.on j t hj ht hs
            have hlaid2 : Laid ops a0 G (upx x i v) (fun j => (listed.setIfInBounds i true).getD j false = true) (a.put o.dst v) := by
              have := hla'.put i hdist
              rw [hd, show G i (upx x i v) = v by rw [hg]; exact yi] at this
              have e : (fun j => listed.getD j false = true ∨ j = i) = fun j => (listed.setIfInBounds i true).getD j false = true := funext fun j => propext (hset j).symm
              rwa [e] at this
            exact ih _ _ w' (upx x i v) hsz' hfu' hcl' htl' hlaid2 (by rw [hupd]; exact hS')
          · refine Oper.wp_mono ?_ (hop _ x w adm hSw)
            rintro a' w' ⟨v, h1, h2⟩
            exact ⟨v, h1, h2⟩
      rw [show fuel + 1 + (ops.size - n) = (fuel + (ops.size - n)) + 1 by omega]
      refine ⟨fun hr => ?_, step⟩
      exfalso
      have hall : ∀ i, i < ops.size → listed.getD i false = true := by
        intro i
        induction i using Nat.strongRecOn with
        | _ i ihi =>
          intro hi
          by_cases hn : listed.getD i false = true
          · exact hn
          · have hli : i < listed.size := by omega
            have : i ∈ Region.ready .any ops listed := mem_ready.2 ⟨by
                simp only [Array.getD_eq_getD_getElem?, Array.getElem?_eq_getElem hli, Option.getD_some, Bool.not_eq_true] at hn ⊢
                exact hn, ops[i], Array.getElem?_eq_getElem hi, fun e he hb => ihi e.on (c2 i _ (Array.getElem?_eq_getElem hi) e he hb) (by have := c2 i _ (Array.getElem?_eq_getElem hi) e he hb; omega)⟩
            rw [hr] at this; simp at this
      have h1 := hall j0 (by omega)
      rw [getD_both hj0.2] at h1
      cases h1
  have hcount : (unlistedTo n (Array.replicate ops.size false)).length = n := by
    unfold unlistedTo
    rw [List.filter_eq_self.2, List.length_range]
    intro i hi
    have hi' : i < ops.size := by have := List.mem_range.1 hi; omega
    simp [hi']
  have := main n _ a0 w0 (fun _ => undef) (by simp) hcount (fun i hi => ?_) (fun t _ ht => getD_in (by simpa using ht) (getD_replicate_false _ _)) ⟨rfl, rfl, fun i t hi => ?_, fun _ _ => rfl⟩ (by rw [show (fun i => (Array.replicate ops.size false).getD i false) = fun _ => false from funext fun i => getD_replicate_false _ _]; exact hS)
  · rwa [show n + (ops.size - n) = ops.size by omega] at this
  all_goals
    exfalso
    rw [getD_replicate_false] at hi
    cases hi

theorem wp_region_rg {id : Nat} {a : Act} {w : World} (n : Nat) (S : (Nat → Bool) → (Nat → Value) → World → Prop) (hm : P.follows .mixedOrders = true) (hc : regOkTo n ops = true) (ht : n = ops.size ∨ tailOk ops n = true) (hS : S (fun _ => false) (fun _ => undef) w.drew)
    (h : RG P ops S (fun _ a w => wpList P ops Q (ops.toList.drop n) a w) 0 (ops.toList.take n) (fun _ => a)) : (Code.region id ops true).wp P Q a w :=
  wp_region_any hm (RG.any hc ht h hS)
end
end Go.Proofs.Ythffgbhphjkdeaa
namespace Go.Proofs.Ythffgbhphjkdeaa
open Go.RowKit
set_option linter.unusedVariables false
set_option linter.unusedSimpArgs false

/-- The number of an int. -/
def intOf : Value → Int
  | .int _ n => n
  | _ => 0
/-- A part of a tuple. -/
def tupAt : Value → Nat → Value
  | .tuple vs, i => (vs[i]?).getD undef
  | _, _ => undef
/-- What is known of the values of operations that have come up. -/
def Kall {ζ : Type} : List (Nat × (ζ → Value → Prop)) → (Nat → Bool) → (Nat → Value) → ζ → Prop
  | [], _, _, _ => True
  | e :: l, d, x, p => (d e.1 = true → e.2 p (x e.1)) ∧ Kall l d x p
def Sg {ζ : Type} (W : World) (R : Rg W) (Ld : (Nat → Bool) → ζ → List Blk) (Od : (Nat → Bool) → ζ → List Own) (Ed : (Nat → Bool) → ζ → List Res) (Ks : List (Nat × (ζ → Value → Prop))) (d : Nat → Bool) (x : Nat → Value) (w : World) : Prop :=
  ∃ p, Loc W R (Ld d p) (Od d p) (Ed d p) w ∧ Kall Ks d x p
theorem kall_none {ζ : Type} (x : Nat → Value) (p : ζ) : ∀ Ks : List (Nat × (ζ → Value → Prop)), Kall Ks (fun _ => false) x p
  | [] => trivial
  | _ :: l => ⟨fun h => (Bool.false_ne_true h).elim, kall_none x p l⟩
theorem kall_other {ζ : Type} {d : Nat → Bool} {x : Nat → Value} {p : ζ} {k : Nat} : ∀ {Ks : List (Nat × (ζ → Value → Prop))}, (Ks.all fun e => !Nat.beq e.1 k) = true → Kall Ks d x p → Kall Ks (upd d k) x p
  | [], _, _ => trivial
  | e :: l, h, hk => by
    rw [List.all_cons, Bool.and_eq_true] at h
    refine ⟨fun hd => hk.1 ?_, kall_other h.2 hk.2⟩
    have h1 : Nat.beq e.1 k = false := by simpa using h.1
    unfold upd at hd
    rw [h1] at hd
    simpa using hd
structure SXg {ζ : Type} (P : Program) (n : Nat) (W : World) (R : Rg W) (ops : Array Oper) (Ld : (Nat → Bool) → ζ → List Blk) (Od : (Nat → Bool) → ζ → List Own) (Ed : (Nat → Bool) → ζ → List Res) (Ks : List (Nat × (ζ → Value → Prop))) (k : Nat) (f : (Nat → Value) → List (Nat × Value)) (l : List Oper) (Q : Exit → Act → World → Prop) : Prop where
  run : ∀ F : (Nat → Value) → Act, (∀ x, Fr n (f x) (F x)) → RG P ops (Sg W R Ld Od Ed Ks) Q k l F
/-- What an operation leaves. -/
def PostG {ζ : Type} (W : World) (R : Rg W) (Ld : (Nat → Bool) → ζ → List Blk) (Od : (Nat → Bool) → ζ → List Own) (Ed : (Nat → Bool) → ζ → List Res) (Ks : List (Nat × (ζ → Value → Prop))) (d : Nat → Bool) (k : Nat) (x : Nat → Value) (dst : Option Tmp) (e : Exit) (a : Act) (w : World) : Prop :=
  e = .normal ∧ a.defers = [] ∧ ∃ (p : ζ) (v : Value), (∀ dd, dst = some dd → a.tmps[dd]? = some v) ∧ Loc W R (Ld (upd d k) p) (Od (upd d k) p) (Ed (upd d k) p) w ∧ Kall Ks (upd d k) (upx x k v) p

theorem wp_of_list {P : Program} {ops : Array Oper} {o : Oper} {a : Act} {w : World} {K : Act → World → Prop} (hd : a.defers = []) (hw : Region.wanted o (yielded ops a.tmps) = true)
    (h : wpList P ops (fun e a' w' => e = .normal ∧ a'.defers = [] ∧ K a' w') [o] a w) : o.wp P a w (fun a' w' => ∃ v, a' = a.put o.dst v ∧ K a' w') never := by
  unfold wpList at h
  rw [if_pos hw] at h
  rcases h with h | ⟨_, _, _, h, _⟩
  · unfold Oper.wp at *
    generalize (execOp a.eval o).run P w = r at *
    cases r with
    | ok n w' =>
      cases n <;> simp only [Oper.upon, wpList] at h ⊢
      case value v => exact ⟨v, rfl, h.2.2⟩
      case skip => exact ⟨undef, rfl, h.2.2⟩
      case defer d =>
        have h1 := h.2.1
        rw [put_defers'] at h1
        cases h1
      case enter f args =>
        refine Calls.mono h fun e w'' he => ?_
        cases e with
        | returned u => exact ⟨u, rfl, he.2.2⟩
        | panicked c => exact absurd he.1 (by simp)
        | outgrown => obtain ⟨_, _, hf, _⟩ := he; exact absurd hf (by simp)
      case row row args => exact Rows.mono h fun u w'' he => ⟨u, rfl, he.2.2⟩
    | halt x w' =>
      cases x <;> simp only [Oper.upon, never] at h ⊢
      exact absurd h.1 (by simp)
  · exact absurd h (by simp)

section
variable {ζ : Type} {P : Program} {n : Nat} {W : World} {R : Rg W} {L L' : List Blk} {O O' : List Own} {E E' : List Res} {Ld : (Nat → Bool) → ζ → List Blk} {Od : (Nat → Bool) → ζ → List Own} {Ed : (Nat → Bool) → ζ → List Res} {Ks : List (Nat × (ζ → Value → Prop))} {f : (Nat → Value) → List (Nat × Value)} {f0 : List (Nat × Value)} {Q : Exit → Act → World → Prop} {ops : Array Oper} {rest : List Oper} {k : Nat}
theorem SX.drawnG {id : Nat} {l : List Oper} (m : Nat) (Ld : (Nat → Bool) → ζ → List Blk) (Od : (Nat → Bool) → ζ → List Own) (Ed : (Nat → Bool) → ζ → List Res) (Ks : List (Nat × (ζ → Value → Prop))) (p0 : ζ) (hm : P.follows .mixedOrders = true) (hc : regOkTo m l.toArray = true) (ht : (Nat.beq m l.toArray.size || tailOk l.toArray m) = true)
    (h0 : Ld (fun _ => false) p0 = L ∧ Od (fun _ => false) p0 = O ∧ Ed (fun _ => false) p0 = E)
    (h : SXg P n W R l.toArray Ld Od Ed Ks 0 (fun _ => f0) (l.take m) (fun _ a w => wpList P l.toArray Q (l.drop m) a w)) : SX P n W R L O E f0 (.region id l.toArray true) Q := ⟨fun a w hf hl => by
  refine wp_region_rg m (Sg W R Ld Od Ed Ks) hm hc ?_ ⟨p0, ?_, kall_none _ _ _⟩ (h.run _ fun _ => hf)
  · rcases Bool.or_eq_true_iff.1 ht with h1 | h1
    · exact .inl (Nat.eq_of_beq_eq_true h1)
    · exact .inr h1
  · rw [h0.1, h0.2.1, h0.2.2]
    exact hl.keep ((Mod.refl _ w).drew)⟩
theorem SXg.v {o : Oper} {d : Nat} (us : List Nat) (v : (Nat → Value) → Value) (hus : (us.all fun i => (reach ops ops.size k).contains i) = true) (hv : ∀ x y : Nat → Value, (∀ i ∈ us, x i = y i) → v x = v y)
    (hr : ∀ dn x p, Adm ops dn k → Kall Ks dn x p → OpW P n W R (Ld dn p) (Od dn p) (Ed dn p) (f x) o (v x)) (hdst : o.dst = some d) (hw : ∀ x, wantO ops (f x) o = some true) (hd : Nat.blt d n = true)
    (hs : ∀ dn p, Ld (upd dn k) p = Ld dn p ∧ Od (upd dn k) p = Od dn p ∧ Ed (upd dn k) p = Ed dn p) (hk : (Ks.all fun e => !Nat.beq e.1 k) = true)
    (h : SXg P n W R ops Ld Od Ed Ks (k + 1) (fun x => (d, v x) :: f x) rest Q) : SXg P n W R ops Ld Od Ed Ks k f (o :: rest) Q := ⟨fun F hF =>
  RG.val us v hus hv (fun x => wanted_of (hF x) (hw x)) (fun dn x w ha ⟨p, hl, hK⟩ => wp_never ((hr dn x p ha hK).run _ w (hF x) hl) fun _ _ ⟨h1, h2⟩ => ⟨h1, p, by rw [(hs dn p).1, (hs dn p).2.1, (hs dn p).2.2]; exact hl.keep h2, kall_other hk hK⟩)
    (by rw [hdst]; exact h.run _ fun x => (hF x).put hd (v x))⟩
/-- A value that hangs on no other. -/
theorem SXg.v0 {o : Oper} {d : Nat} {v : Value} (hr : ∀ dn x p, Adm ops dn k → Kall Ks dn x p → OpW P n W R (Ld dn p) (Od dn p) (Ed dn p) (f x) o v) (hdst : o.dst = some d) (hw : ∀ x, wantO ops (f x) o = some true) (hd : Nat.blt d n = true)
    (hs : ∀ dn p, Ld (upd dn k) p = Ld dn p ∧ Od (upd dn k) p = Od dn p ∧ Ed (upd dn k) p = Ed dn p) (hk : (Ks.all fun e => !Nat.beq e.1 k) = true)
    (h : SXg P n W R ops Ld Od Ed Ks (k + 1) (fun x => (d, v) :: f x) rest Q) : SXg P n W R ops Ld Od Ed Ks k f (o :: rest) Q :=
  SXg.v [] (fun _ => v) rfl (fun _ _ _ => rfl) hr hdst hw hd hs hk h
theorem SXg.no {o : Oper} {d : Nat} (hw : ∀ x, wantO ops (f x) o = some false) (hdst : o.dst = some d) (hd : Nat.blt d n = true)
    (hs : ∀ dn p, Ld (upd dn k) p = Ld dn p ∧ Od (upd dn k) p = Od dn p ∧ Ed (upd dn k) p = Ed dn p) (hk : (Ks.all fun e => !Nat.beq e.1 k) = true)
    (h : SXg P n W R ops Ld Od Ed Ks (k + 1) (fun x => (d, undef) :: f x) rest Q) : SXg P n W R ops Ld Od Ed Ks k f (o :: rest) Q := ⟨fun F hF =>
  RG.skip (fun x => wanted_of (hF x) (hw x)) (fun dn x w ⟨p, hl, hK⟩ => ⟨p, by rw [(hs dn p).1, (hs dn p).2.1, (hs dn p).2.2]; exact hl, kall_other hk hK⟩) (by rw [hdst]; exact h.run _ fun x => (hF x).put hd undef)⟩
/-- Any operation, by its rule outside regions. -/
theorem SXg.l {o : Oper} {d : Nat} (hdst : o.dst = some d) (hw : ∀ x, wantO ops (f x) o = some true) (hd : Nat.blt d n = true)
    (hr : ∀ dn x p, Adm ops dn k → Kall Ks dn x p → SXl P n W R ops (Ld dn p) (Od dn p) (Ed dn p) (f x) [o] (PostG W R Ld Od Ed Ks dn k x (some d)))
    (h : SXg P n W R ops Ld Od Ed Ks (k + 1) (fun x => (d, x k) :: f x) rest Q) : SXg P n W R ops Ld Od Ed Ks k f (o :: rest) Q := ⟨fun F hF =>
  RG.new (fun x => wanted_of (hF x) (hw x)) (fun dn x w ha ⟨p, hl, hK⟩ => by
    have h1 := wp_of_list (hF x).defers (wanted_of (hF x) (hw x)) ((hr dn x p ha hK).run _ w (hF x) hl)
    refine Oper.wp_mono ?_ h1
    rintro a' w' ⟨v, rfl, p', v', hv, h2, h3⟩
    have e := hv d rfl
    rw [hdst] at e
    rw [put_at _ d v (Nat.lt_of_lt_of_le (by simpa using hd) (hF x).size)] at e
    obtain rfl := Option.some.inj e
    exact ⟨v, rfl, p', h2, h3⟩) (by rw [hdst]; exact h.run _ fun x => (hF x).put hd _)⟩
/-- An operation that nobody takes a value from. -/
theorem SXg.s {o : Oper} (hdst : o.dst = none) (hw : ∀ x, wantO ops (f x) o = some true)
    (hr : ∀ dn x p, Adm ops dn k → Kall Ks dn x p → SXl P n W R ops (Ld dn p) (Od dn p) (Ed dn p) (f x) [o] (PostG W R Ld Od Ed Ks dn k x none)) (hk : (Ks.all fun e => !Nat.beq e.1 k) = true)
    (h : SXg P n W R ops Ld Od Ed Ks (k + 1) f rest Q) : SXg P n W R ops Ld Od Ed Ks k f (o :: rest) Q := ⟨fun F hF =>
  RG.new (fun x => wanted_of (hF x) (hw x)) (fun dn x w ha ⟨p, hl, hK⟩ => by
    have h1 := wp_of_list (hF x).defers (wanted_of (hF x) (hw x)) ((hr dn x p ha hK).run _ w (hF x) hl)
    refine Oper.wp_mono ?_ h1
    rintro a' w' ⟨v, rfl, p', v', _, h2, h3⟩
    refine ⟨v, rfl, p', h2, ?_⟩
    have other : ∀ (Ks : List (Nat × (ζ → Value → Prop))) (v v' : Value), (Ks.all fun e => !Nat.beq e.1 k) = true → Kall Ks (upd dn k) (upx x k v) p' → Kall Ks (upd dn k) (upx x k v') p' := by
      intro Ks v v'
      induction Ks with
      | nil => intro _ _; trivial
      | cons e l ih =>
        intro hk hK
        rw [List.all_cons, Bool.and_eq_true] at hk
        have h1 : Nat.beq e.1 k = false := by simpa using hk.1
        have e1 : ∀ v, upx x k v e.1 = x e.1 := fun v => by unfold upx; rw [h1]; rfl
        exact ⟨fun hd => by have := hK.1 hd; rw [e1] at this ⊢; exact this, ih hk.2 hK.2⟩
    exact other Ks v' v hk h3) (by rw [hdst]; exact h.run _ fun x => (hF x).puto _)⟩
theorem SQ.g {f' : List (Nat × Value)} {dn : Nat → Bool} {x : Nat → Value} {d : Nat} (p : ζ) (v : Value) (hv : look f' d = some v) (hL : ∀ w, Loc W R L O E w → Loc W R (Ld (upd dn k) p) (Od (upd dn k) p) (Ed (upd dn k) p) w) (hk : Kall Ks (upd dn k) (upx x k v) p) :
    SQ n W R L O E f' .normal (PostG W R Ld Od Ed Ks dn k x (some d)) := ⟨fun a w hf hl => ⟨rfl, hf.defers, p, v, fun dd hd => (Option.some.inj hd) ▸ hf.at_ _ _ hv, hL w hl, hk⟩⟩
theorem SQ.gs {f' : List (Nat × Value)} {dn : Nat → Bool} {x : Nat → Value} (p : ζ) (hL : ∀ w, Loc W R L O E w → Loc W R (Ld (upd dn k) p) (Od (upd dn k) p) (Ed (upd dn k) p) w) (hk : Kall Ks (upd dn k) (upx x k undef) p) :
    SQ n W R L O E f' .normal (PostG W R Ld Od Ed Ks dn k x none) := ⟨fun a w hf hl => ⟨rfl, hf.defers, p, undef, fun dd hd => (nomatch hd), hL w hl, hk⟩⟩
theorem SXg.nil (h : ∀ x p, Kall Ks (fun i => Nat.blt i k) x p → SQ n W R (Ld (fun i => Nat.blt i k) p) (Od (fun i => Nat.blt i k) p) (Ed (fun i => Nat.blt i k) p) (f x) .normal Q) : SXg P n W R ops Ld Od Ed Ks k f [] Q := ⟨fun F hF =>
  RG.done fun x w ⟨p, hl, hK⟩ => (h x p hK).run (F x) w (hF x) hl⟩
theorem SXg.nilW (h : ∀ x p, Kall Ks (fun i => Nat.blt i k) x p → SQ n W R (Ld (fun i => Nat.blt i k) p) (Od (fun i => Nat.blt i k) p) (Ed (fun i => Nat.blt i k) p) (f x) .normal Q) : SXg P n W R ops Ld Od Ed Ks k f [] (fun _ a w => wpList P ops Q [] a w) := ⟨fun F hF =>
  RG.done fun x w ⟨p, hl, hK⟩ => (h x p hK).run (F x) w (hF x) hl⟩
theorem SXg.tail (h : ∀ x p, Kall Ks (fun i => Nat.blt i k) x p → SXl P n W R ops (Ld (fun i => Nat.blt i k) p) (Od (fun i => Nat.blt i k) p) (Ed (fun i => Nat.blt i k) p) (f x) rest Q) : SXg P n W R ops Ld Od Ed Ks k f [] (fun _ a w => wpList P ops Q rest a w) := ⟨fun F hF =>
  RG.done fun x w ⟨p, hl, hK⟩ => (h x p hK).run (F x) w (hF x) hl⟩
theorem Loc.blkPerm {w : World} (h : Loc W R L O E w) (hs : L'.Perm L) : Loc W R L' O E w where
  mod := h.mod
  inv := h.inv
  blk := fun b hb => h.blk b (hs.subset hb)
  apart := (hs.symm.pairwise_iff (fun {a b} hab e => hab e.symm)).1 h.apart
  own := fun o ho => ⟨(h.own o ho).1, fun b hb => (h.own o ho).2 b (hs.subset hb)⟩
  ownApart := h.ownApart
  res := fun F hF => ⟨(h.res F hF).1, (h.res F hF).2.1, fun b hb => (h.res F hF).2.2.1 b (hs.subset hb), (h.res F hF).2.2.2⟩
  resNew := h.resNew
  resApart := h.resApart
theorem Loc.blkSub {w : World} (h : Loc W R L O E w) (hs : L'.Sublist L) : Loc W R L' O E w where
  mod := h.mod
  inv := h.inv
  blk := fun b hb => h.blk b (hs.subset hb)
  apart := h.apart.sublist hs
  own := fun o ho => ⟨(h.own o ho).1, fun b hb => (h.own o ho).2 b (hs.subset hb)⟩
  ownApart := h.ownApart
  res := fun F hF => ⟨(h.res F hF).1, (h.res F hF).2.1, fun b hb => (h.res F hF).2.2.1 b (hs.subset hb), (h.res F hF).2.2.2⟩
  resNew := h.resNew
  resApart := h.resApart
/-- Of the blocks only the first are held on. -/
theorem Loc.blkTake {w : World} (h : Loc W R L O E w) (k : Nat) : Loc W R (L.take k) O E w := h.blkSub (List.take_sublist k L)
theorem Loc.blkLast {b : Blk} {w : World} (h : Loc W R (b :: L) O E w) : Loc W R (L ++ [b]) O E w := h.blkPerm (List.perm_append_singleton b L)
end
end Go.Proofs.Ythffgbhphjkdeaa
namespace Go.Proofs.Ythffgbhphjkdeaa
open Go.RowKit
set_option linter.unusedVariables false
set_option linter.unusedSimpArgs false

section
variable {P : Program} {n : Nat} {W : World} {R : Rg W} {L : List Blk} {O : List Own} {E : List Res} {f : List (Nat × Value)} {Q : Exit → Act → World → Prop} {ops : Array Oper} {rest : List Oper} {d : Option Tmp} {x : Operand} {ty T : TypeId} {pos : String} {af : Array Edge} {gd : Option (Nat × Bool)}
theorem l_makeInterface (h : SXl P n W R ops L O E f (⟨d, .makeInterface T x, ty, pos, af, gd⟩ :: rest) Q) : SXl P n W R ops L O E f (⟨d, .makeInterface T x, ty, pos, af, gd⟩ :: rest) Q := h
theorem l_makeFunc {fn : Fn} {a b : Array Operand} (h : SXl P n W R ops L O E f (⟨d, .makeFunc fn a b, ty, pos, af, gd⟩ :: rest) Q) : SXl P n W R ops L O E f (⟨d, .makeFunc fn a b, ty, pos, af, gd⟩ :: rest) Q := h
theorem OpW.makeInterface {dsc : TypeDesc} {v : Value} (hx : evO f x = some v) (hu : P.underlying T = some dsc) (hi : (match dsc with | .interface _ => true | _ => false) = false) : OpW P n W R L O E f ⟨d, .makeInterface T x, ty, pos, af, gd⟩ (.iface T v) :=
  OpW.of (fun a w hf hl => by
    cases dsc <;> simp at hi <;> simp [execOp, hf.eval hx, Instr.makeInterface, run_underlying hu])
theorem OpW.makeFunc {fn : Fn} {bound : List Operand} {vs : List Value} (hb : evL f bound = some vs) : OpW P n W R L O E f ⟨d, .makeFunc fn #[] bound.toArray, ty, pos, af, gd⟩ (.func fn #[] vs.toArray) :=
  OpW.of (fun a w hf hl => by
    have e := evL_map hf bound vs hb
    simp [execOp, Instr.makeFunc, e])
end
/-- A row of ints of the call's own, as a block. -/
theorem own_block {w : World} {base e c : Nat} {a : Option Addr} {xs : List Int} (h : w.ownsRow base e 1 (.slice a xs.length c) xs.length (xs.map icell).flatten) (h0 : 0 < xs.length) :
    ∃ (g : Nat) (spare : List Value), a = some ⟨g, 0, none⟩ ∧ base ≤ g ∧ g < w.heap.size ∧ w.heap[g]? = some (.cells (xs.map (Value.int .i64) ++ spare).toArray e (0, 0)) ∧
      ∀ (w' : World) (ys : List Int), ys.length = xs.length → w'.heap[g]? = some (.cells (ys.map (Value.int .i64) ++ spare).toArray e (0, 0)) → w'.ownsRow base e 1 (.slice a ys.length c) ys.length (ys.map icell).flatten := by
  have hfl : ∀ zs : List Int, (zs.map icell).flatten = zs.map (Value.int .i64) := fun zs => by
    induction zs with
    | nil => rfl
    | cons z zs ih => rw [List.map_cons, List.flatten_cons, ih]; rfl
  rcases h.2 with ⟨_, hn⟩ | ⟨g, cap, cur, hv, hb, hh, hnc, hcm, hcs, ht⟩
  · omega
  injection hv with ha _ hc
  subst ha hc
  rw [hfl, Nat.mul_one] at ht
  refine ⟨g, cur.toList.drop xs.length, rfl, hb, (Array.getElem?_eq_some_iff.1 hh).1, ?_, fun w' ys hl hw => ?_⟩
  · rw [hh, ← ht, List.take_append_drop]
  · refine ⟨by rw [hfl]; simp, .inr ⟨g, c, _, rfl, hb, hw, by omega, hcm, ?_, ?_⟩⟩
    · have : cur.toList.length = c * 1 := by simpa using hcs
      simp
      omega
    · rw [hfl, Nat.mul_one, List.toList_toArray, List.take_left' (by simp)]
set_option maxRecDepth 100000 in
set_option maxHeartbeats 8000000 in
theorem flowLess_any (l : List Node) (o : Bool) (a : Option Addr) (c : Nat) (R : Nat → Prop) (hlen : l.length ≤ 1048576) (w : World) (h : NodeSlice o R w a l) (gt go gr cc m : Nat) (ht : w.cell? ⟨gt, 0, none⟩ = some (.slice a l.length c)) (ho : w.cell? ⟨go, 0, none⟩ = some (.slice (some ⟨gr, 0, none⟩) m cc))
    (i j : Nat) (u1 u2 : Int) (hi : i < m) (hj : j < m) (hxi : w.cell? ⟨gr, 0 + i, none⟩ = some (.int .i64 u1)) (hyj : w.cell? ⟨gr, 0 + j, none⟩ = some (.int .i64 u2)) (hx : inB u1 1 l.length = true) (hy : inB u2 1 l.length = true) :
    Calls Try.prog 129 #[.int .i64 (i : Int), .int .i64 (j : Int), .pointer (some ⟨gt, 0, none⟩), .pointer (some ⟨go, 0, none⟩)] w fun e w' => e = .returned (.bool (decide (ordAt l u1 < ordAt l u2))) ∧ Mod (fun _ => False) w w' := by
  refine calls_sx Try.func129 rfl rfl (fun a h1 h2 h3 => ((((Fr.nil h1 h2).arg (h3 3 _ rfl)).arg (h3 2 _ rfl)).arg (h3 1 _ rfl)).arg (h3 0 _ rfl)) ?_
  obtain ⟨ka, kc, ra, rc, _, hN, _⟩ := node_row (c := c) hlen h hx
  obtain ⟨ka2, kc2, ra2, rc2, _, hN2, _⟩ := node_row (c := c) hlen h hy
  have hct : ∀ j v, ([.slice a l.length c] : List Value)[j]? = some v → w.cell? ⟨gt, 0 + j, none⟩ = some v := fun j v hv => by
    cases j with
    | zero => simp at hv; subst hv; exact ht
    | succ j => simp at hv
  repeat (first | refine qan ?_ | refine qaj ?_ | refine qaf ?_ | refine qad ?_ | (refine qal ?_; (refine qac (qag rfl) rfl ?_ ?_ ?_); rfl; rfl))
  refine SX.drawnG (ζ := Unit) 18 (fun _ _ => []) (fun _ _ => []) (fun _ _ => []) [] () (by kernel_rfl) (by kernel_rfl) (by kernel_rfl) ⟨rfl, rfl, rfl⟩ ?_
  repeat (first | (refine SXg.v0 (fun dn x p ha hK => (OpW.loadRowOld (r := [.slice a l.length c]) rfl hct rfl (Nat.succ_pos _) (fun h => h))) rfl (fun _ => rfl) rfl (fun _ _ => ⟨rfl, rfl, rfl⟩) rfl ?_) | (refine SXg.v0 (fun dn x p ha hK => (OpW.loadOld rfl ho (fun h => h))) rfl (fun _ => rfl) rfl (fun _ _ => ⟨rfl, rfl, rfl⟩) rfl ?_) | (refine SXg.v0 (fun dn x p ha hK => (OpW.loadOld rfl hxi (fun h => h))) rfl (fun _ => rfl) rfl (fun _ _ => ⟨rfl, rfl, rfl⟩) rfl ?_) | (refine SXg.v0 (fun dn x p ha hK => (OpW.loadOld rfl hyj (fun h => h))) rfl (fun _ => rfl) rfl (fun _ _ => ⟨rfl, rfl, rfl⟩) rfl ?_) | (refine SXg.v0 (fun dn x p ha hK => (qap (args := [.agg #[.slice a l.length c], .int .i64 u1]) rfl (fun w hl => hN _ hl.mod))) rfl (fun _ => rfl) rfl (fun _ _ => ⟨rfl, rfl, rfl⟩) rfl ?_) | (refine SXg.v0 (fun dn x p ha hK => (qap (args := [.agg #[.slice a l.length c], .int .i64 u2]) rfl (fun w hl => hN2 _ hl.mod))) rfl (fun _ => rfl) rfl (fun _ _ => ⟨rfl, rfl, rfl⟩) rfl ?_) | (refine SXg.v0 (fun dn x p ha hK => (OpW.nodeSty rfl)) rfl (fun _ => rfl) rfl (fun _ _ => ⟨rfl, rfl, rfl⟩) rfl ?_) | (refine SXg.v0 (fun dn x p ha hK => (OpW.styOrd rfl)) rfl (fun _ => rfl) rfl (fun _ _ => ⟨rfl, rfl, rfl⟩) rfl ?_) | (refine SXg.v0 (fun dn x p ha hK => (qai rfl)) rfl (fun _ => rfl) rfl (fun _ _ => ⟨rfl, rfl, rfl⟩) rfl ?_) | (refine SXg.v0 (fun dn x p ha hK => (qag rfl)) rfl (fun _ => rfl) rfl (fun _ _ => ⟨rfl, rfl, rfl⟩) rfl ?_) | (refine SXg.v0 (fun dn x p ha hK => (OpW.lss rfl rfl)) rfl (fun _ => rfl) rfl (fun _ _ => ⟨rfl, rfl, rfl⟩) rfl ?_) | (refine SXg.v0 (fun dn x p ha hK => (qaO (by omega) rfl rfl)) rfl (fun _ => rfl) rfl (fun _ _ => ⟨rfl, rfl, rfl⟩) rfl ?_))
  refine SXg.nilW (fun xq _ _ => ?_)
  refine qad ?_
  refine qaA ?_
  refine qaz rfl rfl (fun w' hl => ⟨rfl, hl.mod⟩)
theorem kids_in {l : List Node} (hv : treeOk l = true) {n : Int} (hn : inB n 1 l.length = true) : (nodeAt l n).kids.length ≤ 12 ∧ ∀ y ∈ (nodeAt l n).kids, inB y 1 l.length = true := by
  obtain ⟨k, x, rfl, hk, hx, hnx⟩ := node_get hn
  rw [hnx]
  refine ⟨ok_kids_len hv hx, fun y hy => ?_⟩
  obtain ⟨ky, z, rfl, hz, _, _⟩ := ok_kid hv hx hy
  have := (List.getElem?_eq_some_iff.1 hz).1
  exact inB_true (by omega) (by omega)
theorem filter_snoc {p : Int → Bool} {xs : List Int} {j : Nat} {y : Int} (h : xs[j]? = some y) : (xs.take (j + 1)).filter p = (xs.take j).filter p ++ if p y then [y] else [] := by
  rw [List.take_add_one, h, List.filter_append]
  cases hp : p y <;> simp [hp]
theorem sorted_tiny {l : List Node} {xs : List Int} (h : xs.length ≤ 1) : sorted l xs = xs := by
  match xs, h with
  | [], _ => rfl
  | [x], _ => simp [sorted, insK, posK]
set_option maxRecDepth 100000 in
set_option maxHeartbeats 8000000 in
theorem flowKids_any (l : List Node) (n : Int) (o : Bool) (a : Option Addr) (c : Nat) (R : Nat → Prop) (w : World) (hv : treeOk l = true) (hn : inB n 1 l.length = true) (h : NodeSlice o R w a l) :
    Calls Try.prog 95 #[.agg #[.slice a l.length c], .int .i64 n] w (NewSlice 3 1 w (sorted l ((nodeAt l n).kids.filter (inFlow l))).length ((sorted l ((nodeAt l n).kids.filter (inFlow l))).map icell).flatten) := by
  have hlen := ok_len hv
  have hlen2 : l.length ≤ 1048576 := by omega
  obtain ⟨ka, kc, ra, rc, hk1, hN, _⟩ := node_row (c := c) hlen2 h hn
  obtain ⟨hkl, hkv⟩ := kids_in hv hn
  refine calls_sx Try.func95 rfl rfl (fun a h1 h2 h3 => ((Fr.nil h1 h2).arg (h3 1 _ rfl)).arg (h3 0 _ rfl)) ?_
  generalize nodeAt l n = zn at *
  repeat (first | refine qan ?_ | refine qaj ?_ | refine qaf ?_ | refine qad ?_ | refine SX.block ?_ | (refine qat ?_; (refine qac (qap rfl (fun w hl => hN _ hl.mod)) rfl ?_ ?_ ?_); rfl; rfl) | (refine l_field ?_; (refine qac (OpW.nodeKids rfl) rfl ?_ ?_ ?_); rfl; rfl) | (refine qau ?_; (refine qac (qam 1 rfl rfl rfl) rfl ?_ ?_ ?_); rfl; rfl) | (refine qao ?_; (refine qac (qai rfl) rfl ?_ ?_ ?_); rfl; rfl) | (refine qal ?_; (refine qac (qag rfl) rfl ?_ ?_ ?_); rfl; rfl) | (refine l_len ?_; (refine qac (OpW.len rfl) rfl ?_ ?_ ?_); rfl; rfl) | (refine qaR ?_; refine SXl.alloc ?_ ?_ (fun g => ?_); rfl; rfl) | (refine l_box ?_; refine qaG ?_ ?_ rfl rfl (fun g => ?_); rfl; rfl))
  rename_i g2
  revert g; intro g5
  generalize zn.kids = ks at *
  have hpl : ∀ j, ((ks.take j).filter (inFlow l)).length ≤ 12 := fun j => Nat.le_trans (List.length_filter_le _ _) (by rw [List.length_take]; omega)
  refine SX.ownNil 3 1 ?_
  refine SX.loop3 (fun (j : Nat) (_ : Option Addr) (_ : Nat) => j ≤ ks.length) (fun j _ _ => ks.length - j) (fun j a' c' => [⟨g5, [.slice a' ((ks.take j).filter (inFlow l)).length c'], 84⟩, ⟨g2, [.slice a l.length c], 37⟩]) (fun j a' c' => [⟨.slice a' ((ks.take j).filter (inFlow l)).length c', 3, 1, ((ks.take j).filter (inFlow l)).length, (((ks.take j).filter (inFlow l)).map icell).flatten⟩]) (fun _ _ _ => []) (fun j _ _ => [(2, .pointer (some ⟨g2, 0, none⟩)), (5, .pointer (some ⟨g5, 0, none⟩)), (12, .slice ka ks.length kc), (13, .int .i64 ks.length), (14, .int .i64 j)]) 0 none 0 (Nat.zero_le _) ?_ (fun _ hl => hl) ?_
  · (repeat (first | exact subF_nil _ | (refine subF_cons rfl ?_) | (refine subF_consv rfl (by rfl) ?_)))
  intro j a' c' hj
  have hpj := hpl j
  by_cases hjl : j < ks.length
  · obtain ⟨b3, o3, y, e3, hR3, hb3, hyk, hc3⟩ := IntSlice.get hk1 hjl
    subst e3
    replace hyk := hyk.out
    obtain ⟨ka2, kc2, ra2, rc2, _, hN2, _⟩ := node_row (c := c) hlen2 h (hkv y (List.mem_of_getElem? hyk))
    have hS := filter_snoc (p := inFlow l) hyk
    have hF : inFlow l y = (!(nodeAt l y).style.hidden && !(nodeAt l y).style.apart) := rfl
    rw [hF] at hS
    clear hF
    generalize nodeAt l y = z at *
    cases h1 : z.style.hidden
    · cases h2 : z.style.apart
      · rw [h1, h2] at hS
        simp only [Bool.not_false, Bool.and_self, if_true] at hS
        repeat (first | refine qan ?_ | refine qaj ?_ | refine qaf ?_ | refine qad ?_ | refine SX.block ?_ | refine qaC ?_ | refine qaq rfl ?_ | (refine qat ?_; (refine qac (qap rfl (fun w hl => hN2 _ hl.mod)) rfl ?_ ?_ ?_); rfl; rfl) | (refine l_field ?_; (refine qac (OpW.nodeSty rfl) rfl ?_ ?_ ?_); rfl; rfl) | (refine qau ?_; (first | refine qac (qaw 0 rfl rfl rfl) rfl ?_ ?_ ?_ | refine qac (qaw 1 rfl rfl rfl) rfl ?_ ?_ ?_ | refine qac (OpW.loadOld rfl (by assumption) (fun h => h)) rfl ?_ ?_ ?_ | refine qac (qam 1 rfl rfl rfl) rfl ?_ ?_ ?_); rfl; rfl) | (refine qak ?_; (refine qac (qae rfl) rfl ?_ ?_ ?_); rfl; rfl) | (refine qao ?_; (refine qac (qai rfl) rfl ?_ ?_ ?_); rfl; rfl) | (refine qal ?_; (refine qac (qag rfl) rfl ?_ ?_ ?_); rfl; rfl) | (refine l_add ?_; (refine qac (OpW.succ rfl rfl (by omega)) rfl ?_ ?_ ?_); rfl; rfl) | (refine l_lss ?_; (refine qac (OpW.lssT rfl rfl (by omega)) rfl ?_ ?_ ?_); rfl; rfl) | (refine qaT ?_; (refine qac (OpW.not rfl) rfl ?_ ?_ ?_); rfl; rfl) | (refine qaE ?_; (refine qac (qav rfl rfl rfl) rfl ?_ ?_ ?_); rfl; rfl) | (refine qaM ?_; (refine qac (qaO (by omega) rfl rfl) rfl ?_ ?_ ?_); rfl; rfl) | (refine qaR ?_; refine SXl.alloc ?_ ?_ (fun g => ?_); rfl; rfl) | (refine qay ?_; first | ((first | refine qah 0 ?_ rfl rfl rfl rfl rfl rfl ?_ | refine qah 1 ?_ rfl rfl rfl rfl rfl rfl ?_ | refine qah 2 ?_ rfl rfl rfl rfl rfl rfl ?_); rfl; simp only [List.set_cons_zero, List.set_cons_succ]) | ((first | refine qaa 0 ?_ rfl rfl rfl rfl rfl rfl rfl ?_ | refine qaa 1 ?_ rfl rfl rfl rfl rfl rfl rfl ?_ | refine qaa 2 ?_ rfl rfl rfl rfl rfl rfl rfl ?_); rfl; simp only [List.set_cons_zero, List.set_cons_succ]) | ((first | refine qab 0 ?_ rfl rfl rfl rfl rfl rfl rfl ?_ | refine qab 1 ?_ rfl rfl rfl rfl rfl rfl rfl ?_ | refine qab 2 ?_ rfl rfl rfl rfl rfl rfl rfl ?_); rfl; simp only [over, List.set_cons_zero, List.set_cons_succ])) | (refine qaN ?_; first | (refine SXl.lit1 ?_ ?_ rfl rfl rfl (fun g => ?_); rfl; rfl) | (refine SXl.lit0 ?_ ?_ (fun _ h => h) rfl (fun g => ?_); rfl; rfl)) | (refine l_append ?_; first | (refine SXl.append 0 0 rfl rfl rfl rfl rfl rfl rfl rfl (by omega) (by omega) (fun a c => ?_); simp only [List.set_cons_zero, List.set_cons_succ]) | (refine SXl.append 1 0 rfl rfl rfl rfl rfl rfl rfl rfl (by omega) (by omega) (fun a c => ?_); simp only [List.set_cons_zero, List.set_cons_succ])) | (rw [h1]) | (rw [h2]) | refine qar ?_)
        refine SQ.round3 (j + 1) a c (by omega) (by omega) ?_ (fun w hl => by rw [hS, List.length_append, List.map_append, List.flatten_append]; exact hl.drop1.drop1)
        (repeat (first | exact subF_nil _ | (refine subF_cons rfl ?_) | (refine subF_consv rfl (by rw [hS, List.length_append]) ?_)))
      · rw [h1, h2] at hS
        simp only [Bool.not_false, Bool.not_true, Bool.and_false, Bool.false_eq_true, if_false, List.append_nil] at hS
        repeat (first | refine qan ?_ | refine qaj ?_ | refine qaf ?_ | refine qad ?_ | refine SX.block ?_ | refine qaC ?_ | refine qaq rfl ?_ | refine qas rfl ?_ | (refine qat ?_; (refine qac (qap rfl (fun w hl => hN2 _ hl.mod)) rfl ?_ ?_ ?_); rfl; rfl) | (refine l_field ?_; (refine qac (OpW.nodeSty rfl) rfl ?_ ?_ ?_); rfl; rfl) | (refine qau ?_; (first | refine qac (qaw 0 rfl rfl rfl) rfl ?_ ?_ ?_ | refine qac (OpW.loadOld rfl (by assumption) (fun h => h)) rfl ?_ ?_ ?_ | refine qac (qam 1 rfl rfl rfl) rfl ?_ ?_ ?_); rfl; rfl) | (refine qak ?_; (refine qac (qae rfl) rfl ?_ ?_ ?_); rfl; rfl) | (refine qao ?_; (refine qac (qai rfl) rfl ?_ ?_ ?_); rfl; rfl) | (refine qal ?_; (refine qac (qag rfl) rfl ?_ ?_ ?_); rfl; rfl) | (refine l_add ?_; (refine qac (OpW.succ rfl rfl (by omega)) rfl ?_ ?_ ?_); rfl; rfl) | (refine l_lss ?_; (refine qac (OpW.lssT rfl rfl (by omega)) rfl ?_ ?_ ?_); rfl; rfl) | (refine qaT ?_; (refine qac (OpW.not rfl) rfl ?_ ?_ ?_); rfl; rfl) | (refine qaE ?_; (refine qac (qav rfl rfl rfl) rfl ?_ ?_ ?_); rfl; rfl) | (refine qaM ?_; (refine qac (qaO (by omega) rfl rfl) rfl ?_ ?_ ?_); rfl; rfl) | (refine qaR ?_; refine SXl.alloc ?_ ?_ (fun g => ?_); rfl; rfl) | (refine qay ?_; first | ((first | refine qah 0 ?_ rfl rfl rfl rfl rfl rfl ?_ | refine qah 1 ?_ rfl rfl rfl rfl rfl rfl ?_ | refine qah 2 ?_ rfl rfl rfl rfl rfl rfl ?_); rfl; simp only [List.set_cons_zero, List.set_cons_succ]) | ((first | refine qaa 0 ?_ rfl rfl rfl rfl rfl rfl rfl ?_ | refine qaa 1 ?_ rfl rfl rfl rfl rfl rfl rfl ?_ | refine qaa 2 ?_ rfl rfl rfl rfl rfl rfl rfl ?_); rfl; simp only [List.set_cons_zero, List.set_cons_succ]) | ((first | refine qab 0 ?_ rfl rfl rfl rfl rfl rfl rfl ?_ | refine qab 1 ?_ rfl rfl rfl rfl rfl rfl rfl ?_ | refine qab 2 ?_ rfl rfl rfl rfl rfl rfl rfl ?_); rfl; simp only [over, List.set_cons_zero, List.set_cons_succ])) | (rw [h1]) | (rw [h2]) | refine qar ?_)
        refine SQ.round3 (j + 1) a' c' (by omega) (by omega) ?_ (fun w hl => by rw [hS]; exact hl.drop1)
        (repeat (first | exact subF_nil _ | (refine subF_cons rfl ?_) | (refine subF_consv rfl (by rfl) ?_)))
    · rw [h1] at hS
      simp only [Bool.not_true, Bool.false_and, Bool.false_eq_true, if_false, List.append_nil] at hS
      repeat (first | refine qan ?_ | refine qaj ?_ | refine qaf ?_ | refine qad ?_ | refine SX.block ?_ | refine qaC ?_ | refine qaq rfl ?_ | refine qas rfl ?_ | (refine qaS rfl rfl rfl ?_) | (refine qat ?_; (refine qac (qap rfl (fun w hl => hN2 _ hl.mod)) rfl ?_ ?_ ?_); rfl; rfl) | (refine l_field ?_; (refine qac (OpW.nodeSty rfl) rfl ?_ ?_ ?_); rfl; rfl) | (refine qau ?_; (first | refine qac (qaw 0 rfl rfl rfl) rfl ?_ ?_ ?_ | refine qac (OpW.loadOld rfl (by assumption) (fun h => h)) rfl ?_ ?_ ?_ | refine qac (qam 1 rfl rfl rfl) rfl ?_ ?_ ?_); rfl; rfl) | (refine qak ?_; (refine qac (qae rfl) rfl ?_ ?_ ?_); rfl; rfl) | (refine qao ?_; (refine qac (qai rfl) rfl ?_ ?_ ?_); rfl; rfl) | (refine qal ?_; (refine qac (qag rfl) rfl ?_ ?_ ?_); rfl; rfl) | (refine l_add ?_; (refine qac (OpW.succ rfl rfl (by omega)) rfl ?_ ?_ ?_); rfl; rfl) | (refine l_lss ?_; (refine qac (OpW.lssT rfl rfl (by omega)) rfl ?_ ?_ ?_); rfl; rfl) | (refine qaT ?_; (refine qac (OpW.not rfl) rfl ?_ ?_ ?_); rfl; rfl) | (refine qaE ?_; (refine qac (qav rfl rfl rfl) rfl ?_ ?_ ?_); rfl; rfl) | (refine qaM ?_; (refine qac (qaO (by omega) rfl rfl) rfl ?_ ?_ ?_); rfl; rfl) | (refine qaR ?_; refine SXl.alloc ?_ ?_ (fun g => ?_); rfl; rfl) | (refine qay ?_; first | ((first | refine qah 0 ?_ rfl rfl rfl rfl rfl rfl ?_ | refine qah 1 ?_ rfl rfl rfl rfl rfl rfl ?_ | refine qah 2 ?_ rfl rfl rfl rfl rfl rfl ?_); rfl; simp only [List.set_cons_zero, List.set_cons_succ]) | ((first | refine qaa 0 ?_ rfl rfl rfl rfl rfl rfl rfl ?_ | refine qaa 1 ?_ rfl rfl rfl rfl rfl rfl rfl ?_ | refine qaa 2 ?_ rfl rfl rfl rfl rfl rfl rfl ?_); rfl; simp only [List.set_cons_zero, List.set_cons_succ]) | ((first | refine qab 0 ?_ rfl rfl rfl rfl rfl rfl rfl ?_ | refine qab 1 ?_ rfl rfl rfl rfl rfl rfl rfl ?_ | refine qab 2 ?_ rfl rfl rfl rfl rfl rfl rfl ?_); rfl; simp only [over, List.set_cons_zero, List.set_cons_succ])) | (rw [h1]) | refine qar ?_)
      refine SQ.round3 (j + 1) a' c' (by omega) (by omega) ?_ (fun w hl => by rw [hS]; exact hl.drop1)
      (repeat (first | exact subF_nil _ | (refine subF_cons rfl ?_) | (refine subF_consv rfl (by rfl) ?_)))
  · obtain rfl : j = ks.length := by omega
    rw [List.take_length] at *
    have hFv : ∀ y ∈ ks.filter (inFlow l), inB y 1 l.length = true := fun y hy => hkv y (List.mem_filter.1 hy).1
    have hFl := sorted_len (l := l) (ks.filter (inFlow l))
    generalize ks.filter (inFlow l) = F at *
    by_cases h2 : 2 ≤ F.length
    rotate_left
    · repeat (first | refine qan ?_ | refine qaj ?_ | refine qaf ?_ | refine qad ?_ | refine qas rfl ?_ | (refine l_makeInterface ?_; (refine qac (OpW.makeInterface rfl Try.underlying84 rfl) rfl ?_ ?_ ?_); rfl; rfl) | (refine l_makeFunc ?_; (refine qac (OpW.makeFunc rfl) rfl ?_ ?_ ?_); rfl; rfl) | (refine qat ?_; (refine qac (qap rfl (fun w hl => sliceTiny_any _ _ _ _ _ (by omega))) rfl ?_ ?_ ?_); rfl; rfl) | (refine qau ?_; (refine qac (qaw 0 rfl rfl rfl) rfl ?_ ?_ ?_); rfl; rfl) | (refine qal ?_; (refine qac (qag rfl) rfl ?_ ?_ ?_); rfl; rfl) | (refine l_lss ?_; (refine qac (OpW.lssF rfl rfl (by omega)) rfl ?_ ?_ ?_); rfl; rfl) | refine qaA ?_ | refine SX.exit ?_ | refine qaF ?_ | refine qaD ?_)
      refine qaz rfl rfl (fun w' hl => ⟨a', c', ?_, ?_, hl.mod⟩)
      · rw [hFl]
      · rw [sorted_tiny (by omega)]
        exact (hl.own _ List.mem_cons_self).1
    repeat (first | refine qan ?_ | refine qaj ?_ | refine qaf ?_ | refine qad ?_ | refine qas rfl ?_ | (refine l_makeInterface ?_; (refine qac (OpW.makeInterface rfl Try.underlying84 rfl) rfl ?_ ?_ ?_); rfl; rfl) | (refine l_makeFunc ?_; (refine qac (OpW.makeFunc rfl) rfl ?_ ?_ ?_); rfl; rfl) | (refine qau ?_; (refine qac (qaw 0 rfl rfl rfl) rfl ?_ ?_ ?_); rfl; rfl) | (refine l_lss ?_; (refine qac (OpW.lssF rfl rfl (by omega)) rfl ?_ ?_ ?_); rfl; rfl) | refine SX.exit ?_ | refine qaF ?_ | refine qaD ?_)
    refine qat ?_
    refine SXl.callR (v := .tuple #[]) (o' := ⟨.slice a' F.length c', 3, 1, F.length, ((sorted l F).map icell).flatten⟩) 0 rfl rfl rfl rfl (fun w' hl => ?_) rfl rfl ?_
    · have hown := (hl.own _ List.mem_cons_self).1
      have hap := (hl.own _ List.mem_cons_self).2
      simp only at hown hap
      obtain ⟨gr, spare, rfl, hgr, hglt, hrow, hback⟩ := own_block hown (by omega)
      have a2 : gr ≠ g2 := fun e => hap _ (.tail _ (.head _)) (by rw [e]; rfl)
      have a5 : gr ≠ g5 := fun e => hap _ (.head _) (by rw [e]; rfl)
      have hb2 := (hl.blk _ (.tail _ (.head _))).2
      have hb5 := (hl.blk _ (.head _)).2
      simp only at hb2 hb5
      have hless : LessK l [.pointer (some ⟨g2, 0, none⟩), .pointer (some ⟨g5, 0, none⟩)] gr spare F w' := fun w2 ys hm2 hr2 hl2 hmem i j x y hi hj => by
        have hg2 := hm2.blk hb2 (fun e => a2 e.symm)
        have hg5 := hm2.blk hb5 (fun e => a5 e.symm)
        have cell : ∀ (k : Nat) (u : Int), ys[k]? = some u → w2.cell? ⟨gr, 0 + k, none⟩ = some (.int .i64 u) := fun k u hk => by
          have hlt := (List.getElem?_eq_some_iff.1 hk).1
          refine blk_cell hr2 ?_
          rw [Nat.zero_add, List.getElem?_append_left (by simpa using hlt), List.getElem?_map, hk]; rfl
        exact flowLess_any l o a c R hlen2 w2 (h.keep (hl.mod.then hm2 fun k hk e => by omega)) g2 g5 gr c' F.length (blk_cell hg2 rfl) (blk_cell hg5 rfl) i j x y (by rw [← hl2]; exact (List.getElem?_eq_some_iff.1 hi).1) (by rw [← hl2]; exact (List.getElem?_eq_some_iff.1 hj).1) (cell i x hi) (cell j y hj) (hFv x (hmem x (List.mem_of_getElem? hi))) (hFv y (hmem y (List.mem_of_getElem? hj)))
      refine (sliceStable_any l _ gr c' spare F w' hglt hrow h2 (by omega) hless).mono ?_
      rintro e w2 ⟨rfl, hm, hr⟩
      refine ⟨rfl, hm.mono fun k _ e => by rw [e]; rfl, ?_⟩
      have := hback w2 (sorted l F) hFl hr
      rw [hFl] at this
      exact this
    repeat (first | refine qan ?_ | refine qaj ?_ | refine qaf ?_ | refine qad ?_ | (refine qau ?_; (refine qac (qaw 0 rfl rfl rfl) rfl ?_ ?_ ?_); rfl; rfl) | (refine qal ?_; (refine qac (qag rfl) rfl ?_ ?_ ?_); rfl; rfl) | refine qaA ?_)
    refine qaz rfl rfl (fun w' hl => ⟨a', c', ?_, ?_, hl.mod⟩)
    · rw [hFl]
    · rw [hFl]
      exact (hl.own _ List.mem_cons_self).1
set_option maxRecDepth 100000 in
set_option maxHeartbeats 8000000 in
theorem flowKidsW_any (l : List Node) (n : Int) (o : Bool) (a : Option Addr) (c : Nat) (R : Nat → Prop) (w : World) (hlen : l.length ≤ 1048576) (hfit : ∀ x ∈ l, x.fits 1048576) (h : NodeSlice o R w a l) :
    Calls Try.prog 45 #[.agg #[.slice a l.length c], .int .i64 n] w (NewSlice 3 1 w (flowW l n).length ((flowW l n).map icell).flatten) := by
  refine calls_sx Try.func45 rfl rfl (fun a h1 h2 h3 => ((Fr.nil h1 h2).arg (h3 1 _ rfl)).arg (h3 0 _ rfl)) ?_
  have hT := fun w' (hm : Mod (fun _ => False) w w') => treeOk_any l o a c R w' hlen hfit (h.keep hm)
  cases hv : treeOk l
  · have e : flowW l n = [] := by simp [flowW, hv]
    rw [e]
    rw [hv] at hT
    repeat (first | refine qan ?_ | refine qaj ?_ | refine qaf ?_ | refine qad ?_ | refine qaq rfl ?_ | (refine qaS rfl rfl rfl ?_) | (refine qat ?_; (refine qac (qap rfl (fun w hl => hT _ hl.mod)) rfl ?_ ?_ ?_); rfl; rfl) | (refine qau ?_; (refine qac (qam 0 rfl rfl rfl) rfl ?_ ?_ ?_); rfl; rfl) | (refine qao ?_; (refine qac (qai rfl) rfl ?_ ?_ ?_); rfl; rfl) | (refine qal ?_; (refine qac (qag rfl) rfl ?_ ?_ ?_); rfl; rfl) | (refine qaT ?_; (refine qac (OpW.not rfl) rfl ?_ ?_ ?_); rfl; rfl) | (refine qaE ?_; (refine qac (qav rfl rfl rfl) rfl ?_ ?_ ?_); rfl; rfl) | (refine l_box ?_; refine qaG ?_ ?_ rfl rfl (fun g => ?_); rfl; rfl) | refine qaA ?_ | refine qax ?_)
    refine qaz rfl rfl (fun w' hl => ⟨none, 0, rfl, World.ownsRow_nil _ _ _ _, hl.mod⟩)
  rw [hv] at hT
  cases hn : inB n 1 l.length
  · have e : flowW l n = [] := by simp [flowW, hn]
    rw [e]
    repeat (first | refine qan ?_ | refine qaj ?_ | refine qaf ?_ | refine qad ?_ | refine qaq rfl ?_ | (refine qat ?_; (first | refine qac (qap rfl (fun w hl => hT _ hl.mod)) rfl ?_ ?_ ?_ | refine qac (qap rfl (fun w hl => isNode_any _ _ _ _ _)) rfl ?_ ?_ ?_); rfl; rfl) | (refine qau ?_; (refine qac (qam 0 rfl rfl rfl) rfl ?_ ?_ ?_); rfl; rfl) | (refine qao ?_; (refine qac (qai rfl) rfl ?_ ?_ ?_); rfl; rfl) | (refine qal ?_; (refine qac (qag rfl) rfl ?_ ?_ ?_); rfl; rfl) | (refine qaT ?_; (refine qac (OpW.not rfl) rfl ?_ ?_ ?_); rfl; rfl) | (refine qaE ?_; (refine qac (qav rfl rfl rfl) rfl ?_ ?_ ?_); rfl; rfl) | (refine l_box ?_; refine qaG ?_ ?_ rfl rfl (fun g => ?_); rfl; rfl) | (rw [hn]) | refine qaA ?_ | refine qax ?_)
    refine qaz rfl rfl (fun w' hl => ⟨none, 0, rfl, World.ownsRow_nil _ _ _ _, hl.mod⟩)
  have e : flowW l n = sorted l ((nodeAt l n).kids.filter (inFlow l)) := by simp [flowW, hv, hn]
  rw [e]
  repeat (first | refine qan ?_ | refine qaj ?_ | refine qaf ?_ | refine qad ?_ | refine qaC ?_ | refine qas rfl ?_ | (refine qat ?_; (first | refine qac (qap rfl (fun w hl => hT _ hl.mod)) rfl ?_ ?_ ?_ | refine qac (qap rfl (fun w hl => isNode_any _ _ _ _ _)) rfl ?_ ?_ ?_); rfl; rfl) | (refine qau ?_; (refine qac (qam 0 rfl rfl rfl) rfl ?_ ?_ ?_); rfl; rfl) | (refine qao ?_; (refine qac (qai rfl) rfl ?_ ?_ ?_); rfl; rfl) | (refine qal ?_; (refine qac (qag rfl) rfl ?_ ?_ ?_); rfl; rfl) | (refine qaT ?_; (refine qac (OpW.not rfl) rfl ?_ ?_ ?_); rfl; rfl) | (refine qaE ?_; (refine qac (qav rfl rfl rfl) rfl ?_ ?_ ?_); rfl; rfl) | (refine l_box ?_; refine qaG ?_ ?_ rfl rfl (fun g => ?_); rfl; rfl) | (rw [hn]))
  have hK := fun w' (hm : Mod (fun _ => False) w w') => flowKids_any l n o a c R w' hv hn (h.keep hm)
  generalize sorted l ((nodeAt l n).kids.filter (inFlow l)) = F at *
  refine qat ?_
  refine SXl.calln1 (v := fun q => .slice q.a F.length q.c) (F1 := ownRes icell 3 1 F) rfl rfl rfl (fun w hl => (hK _ hl.mod).mono fun _ _ h => new_own h) (fun q => ?_)
  repeat (first | refine qaj ?_ | refine qad ?_ | (refine qal ?_; (refine qac (qag rfl) rfl ?_ ?_ ?_); rfl; rfl) | refine qaA ?_)
  refine qaz rfl rfl (fun w' hl => ⟨_, _, rfl, ?_, hl.mod⟩)
  have := hl.res _ (.head _)
  have h2 := hl.resNew _ (.head _)
  exact own_from this.1 h2
set_option maxRecDepth 100000 in
set_option maxHeartbeats 8000000 in
theorem apartKids_any (l : List Node) (n : Int) (o : Bool) (a : Option Addr) (c : Nat) (R : Nat → Prop) (w : World) (hv : treeOk l = true) (hn : inB n 1 l.length = true) (h : NodeSlice o R w a l) :
    Calls Try.prog 96 #[.agg #[.slice a l.length c], .int .i64 n] w (NewSlice 3 1 w ((nodeAt l n).kids.filter (standsApart l)).length (((nodeAt l n).kids.filter (standsApart l)).map icell).flatten) := by
  have hlen := ok_len hv
  have hlen2 : l.length ≤ 1048576 := by omega
  obtain ⟨ka, kc, ra, rc, hk1, hN, _⟩ := node_row (c := c) hlen2 h hn
  obtain ⟨hkl, hkv⟩ := kids_in hv hn
  refine calls_sx Try.func96 rfl rfl (fun a h1 h2 h3 => ((Fr.nil h1 h2).arg (h3 1 _ rfl)).arg (h3 0 _ rfl)) ?_
  generalize nodeAt l n = zn at *
  repeat (first | refine qan ?_ | refine qaj ?_ | refine qaf ?_ | refine qad ?_ | refine SX.block ?_ | (refine qat ?_; (refine qac (qap rfl (fun w hl => hN _ hl.mod)) rfl ?_ ?_ ?_); rfl; rfl) | (refine l_field ?_; (refine qac (OpW.nodeKids rfl) rfl ?_ ?_ ?_); rfl; rfl) | (refine qau ?_; (refine qac (qam 0 rfl rfl rfl) rfl ?_ ?_ ?_); rfl; rfl) | (refine qao ?_; (refine qac (qai rfl) rfl ?_ ?_ ?_); rfl; rfl) | (refine qal ?_; (refine qac (qag rfl) rfl ?_ ?_ ?_); rfl; rfl) | (refine l_len ?_; (refine qac (OpW.len rfl) rfl ?_ ?_ ?_); rfl; rfl) | (refine l_box ?_; refine qaG ?_ ?_ rfl rfl (fun g => ?_); rfl; rfl))
  revert g; intro g2
  generalize zn.kids = ks at *
  have hpl : ∀ j, ((ks.take j).filter (standsApart l)).length ≤ 12 := fun j => Nat.le_trans (List.length_filter_le _ _) (by rw [List.length_take]; omega)
  refine SX.ownNil 3 1 ?_
  refine SX.loop3 (fun (j : Nat) (_ : Option Addr) (_ : Nat) => j ≤ ks.length) (fun j _ _ => ks.length - j) (fun j a' c' => [⟨g2, [.slice a l.length c], 37⟩]) (fun j a' c' => [⟨.slice a' ((ks.take j).filter (standsApart l)).length c', 3, 1, ((ks.take j).filter (standsApart l)).length, (((ks.take j).filter (standsApart l)).map icell).flatten⟩]) (fun _ _ _ => []) (fun j a' c' => [(2, .pointer (some ⟨g2, 0, none⟩)), (5, .slice a' ((ks.take j).filter (standsApart l)).length c'), (12, .slice ka ks.length kc), (13, .int .i64 ks.length), (14, .int .i64 j)]) 0 none 0 (Nat.zero_le _) ?_ (fun _ hl => hl) ?_
  · (repeat (first | exact subF_nil _ | (refine subF_cons rfl ?_) | (refine subF_consv rfl (by rfl) ?_)))
  intro j a' c' hj
  have hpj := hpl j
  by_cases hjl : j < ks.length
  · obtain ⟨b3, o3, y, e3, hR3, hb3, hyk, hc3⟩ := IntSlice.get hk1 hjl
    subst e3
    replace hyk := hyk.out
    obtain ⟨ka2, kc2, ra2, rc2, _, hN2, _⟩ := node_row (c := c) hlen2 h (hkv y (List.mem_of_getElem? hyk))
    have hS := filter_snoc (p := standsApart l) hyk
    have hF : standsApart l y = (!(nodeAt l y).style.hidden && (nodeAt l y).style.apart) := rfl
    rw [hF] at hS
    clear hF
    generalize nodeAt l y = z at *
    cases h1 : z.style.hidden
    · cases h2 : z.style.apart
      · rw [h1, h2] at hS
        simp only [Bool.and_false, Bool.false_eq_true, if_false, List.append_nil] at hS
        repeat (first | refine qan ?_ | refine qaj ?_ | refine qaf ?_ | refine qad ?_ | refine SX.block ?_ | refine qaC ?_ | refine qaq rfl ?_ | refine qas rfl ?_ | (refine qat ?_; (refine qac (qap rfl (fun w hl => hN2 _ hl.mod)) rfl ?_ ?_ ?_); rfl; rfl) | (refine l_field ?_; (refine qac (OpW.nodeSty rfl) rfl ?_ ?_ ?_); rfl; rfl) | (refine qau ?_; (first | refine qac (qaw 0 rfl rfl rfl) rfl ?_ ?_ ?_ | refine qac (OpW.loadOld rfl (by assumption) (fun h => h)) rfl ?_ ?_ ?_ | refine qac (qam 0 rfl rfl rfl) rfl ?_ ?_ ?_); rfl; rfl) | (refine qak ?_; (refine qac (qae rfl) rfl ?_ ?_ ?_); rfl; rfl) | (refine qao ?_; (refine qac (qai rfl) rfl ?_ ?_ ?_); rfl; rfl) | (refine qal ?_; (refine qac (qag rfl) rfl ?_ ?_ ?_); rfl; rfl) | (refine l_add ?_; (refine qac (OpW.succ rfl rfl (by omega)) rfl ?_ ?_ ?_); rfl; rfl) | (refine l_lss ?_; (refine qac (OpW.lssT rfl rfl (by omega)) rfl ?_ ?_ ?_); rfl; rfl) | (refine qaT ?_; (refine qac (OpW.not rfl) rfl ?_ ?_ ?_); rfl; rfl) | (refine qaE ?_; (refine qac (qav rfl rfl rfl) rfl ?_ ?_ ?_); rfl; rfl) | (refine qaM ?_; (refine qac (qaO (by omega) rfl rfl) rfl ?_ ?_ ?_); rfl; rfl) | (refine qaR ?_; refine SXl.alloc ?_ ?_ (fun g => ?_); rfl; rfl) | (refine qay ?_; first | ((first | refine qaa 0 ?_ rfl rfl rfl rfl rfl rfl rfl ?_ | refine qaa 1 ?_ rfl rfl rfl rfl rfl rfl rfl ?_ | refine qaa 2 ?_ rfl rfl rfl rfl rfl rfl rfl ?_); rfl; simp only [List.set_cons_zero, List.set_cons_succ]) | ((first | refine qab 0 ?_ rfl rfl rfl rfl rfl rfl rfl ?_ | refine qab 1 ?_ rfl rfl rfl rfl rfl rfl rfl ?_ | refine qab 2 ?_ rfl rfl rfl rfl rfl rfl rfl ?_); rfl; simp only [over, List.set_cons_zero, List.set_cons_succ])) | (rw [h1]) | (rw [h2]) | refine qar ?_)
        refine SQ.round3 (j + 1) a' c' (by omega) (by omega) ?_ (fun w hl => by rw [hS]; exact hl.drop1)
        (repeat (first | exact subF_nil _ | (refine subF_cons rfl ?_) | (refine subF_consv rfl (by rw [hS]) ?_)))
      · rw [h1, h2] at hS
        simp only [Bool.not_false, Bool.and_self, if_true] at hS
        repeat (first | refine qan ?_ | refine qaj ?_ | refine qaf ?_ | refine qad ?_ | refine SX.block ?_ | refine qaC ?_ | refine qaq rfl ?_ | (refine qat ?_; (refine qac (qap rfl (fun w hl => hN2 _ hl.mod)) rfl ?_ ?_ ?_); rfl; rfl) | (refine l_field ?_; (refine qac (OpW.nodeSty rfl) rfl ?_ ?_ ?_); rfl; rfl) | (refine qau ?_; (first | refine qac (qaw 0 rfl rfl rfl) rfl ?_ ?_ ?_ | refine qac (OpW.loadOld rfl (by assumption) (fun h => h)) rfl ?_ ?_ ?_ | refine qac (qam 0 rfl rfl rfl) rfl ?_ ?_ ?_); rfl; rfl) | (refine qak ?_; (refine qac (qae rfl) rfl ?_ ?_ ?_); rfl; rfl) | (refine qao ?_; (refine qac (qai rfl) rfl ?_ ?_ ?_); rfl; rfl) | (refine qal ?_; (refine qac (qag rfl) rfl ?_ ?_ ?_); rfl; rfl) | (refine l_add ?_; (refine qac (OpW.succ rfl rfl (by omega)) rfl ?_ ?_ ?_); rfl; rfl) | (refine l_lss ?_; (refine qac (OpW.lssT rfl rfl (by omega)) rfl ?_ ?_ ?_); rfl; rfl) | (refine qaT ?_; (refine qac (OpW.not rfl) rfl ?_ ?_ ?_); rfl; rfl) | (refine qaE ?_; (refine qac (qav rfl rfl rfl) rfl ?_ ?_ ?_); rfl; rfl) | (refine qaM ?_; (refine qac (qaO (by omega) rfl rfl) rfl ?_ ?_ ?_); rfl; rfl) | (refine qaR ?_; refine SXl.alloc ?_ ?_ (fun g => ?_); rfl; rfl) | (refine qay ?_; first | ((first | refine qaa 0 ?_ rfl rfl rfl rfl rfl rfl rfl ?_ | refine qaa 1 ?_ rfl rfl rfl rfl rfl rfl rfl ?_ | refine qaa 2 ?_ rfl rfl rfl rfl rfl rfl rfl ?_); rfl; simp only [List.set_cons_zero, List.set_cons_succ]) | ((first | refine qab 0 ?_ rfl rfl rfl rfl rfl rfl rfl ?_ | refine qab 1 ?_ rfl rfl rfl rfl rfl rfl rfl ?_ | refine qab 2 ?_ rfl rfl rfl rfl rfl rfl rfl ?_); rfl; simp only [over, List.set_cons_zero, List.set_cons_succ])) | (refine qaN ?_; first | (refine SXl.lit1 ?_ ?_ rfl rfl rfl (fun g => ?_); rfl; rfl) | (refine SXl.lit0 ?_ ?_ (fun _ h => h) rfl (fun g => ?_); rfl; rfl)) | (refine l_append ?_; first | (refine SXl.append 0 0 rfl rfl rfl rfl rfl rfl rfl rfl (by omega) (by omega) (fun a c => ?_); simp only [List.set_cons_zero, List.set_cons_succ]) | (refine SXl.append 1 0 rfl rfl rfl rfl rfl rfl rfl rfl (by omega) (by omega) (fun a c => ?_); simp only [List.set_cons_zero, List.set_cons_succ])) | (rw [h1]) | (rw [h2]) | refine qar ?_)
        refine SQ.round3 (j + 1) a c (by omega) (by omega) ?_ (fun w hl => by rw [hS, List.length_append, List.map_append, List.flatten_append]; exact hl.drop1.drop1)
        (repeat (first | exact subF_nil _ | (refine subF_cons rfl ?_) | (refine subF_consv rfl (by rw [hS, List.length_append]; rfl) ?_)))
    · rw [h1] at hS
      simp only [Bool.not_true, Bool.false_and, Bool.false_eq_true, if_false, List.append_nil] at hS
      repeat (first | refine qan ?_ | refine qaj ?_ | refine qaf ?_ | refine qad ?_ | refine SX.block ?_ | refine qaC ?_ | refine qaq rfl ?_ | refine qas rfl ?_ | (refine qaS rfl rfl rfl ?_) | (refine qat ?_; (refine qac (qap rfl (fun w hl => hN2 _ hl.mod)) rfl ?_ ?_ ?_); rfl; rfl) | (refine l_field ?_; (refine qac (OpW.nodeSty rfl) rfl ?_ ?_ ?_); rfl; rfl) | (refine qau ?_; (first | refine qac (qaw 0 rfl rfl rfl) rfl ?_ ?_ ?_ | refine qac (OpW.loadOld rfl (by assumption) (fun h => h)) rfl ?_ ?_ ?_ | refine qac (qam 0 rfl rfl rfl) rfl ?_ ?_ ?_); rfl; rfl) | (refine qak ?_; (refine qac (qae rfl) rfl ?_ ?_ ?_); rfl; rfl) | (refine qao ?_; (refine qac (qai rfl) rfl ?_ ?_ ?_); rfl; rfl) | (refine qal ?_; (refine qac (qag rfl) rfl ?_ ?_ ?_); rfl; rfl) | (refine l_add ?_; (refine qac (OpW.succ rfl rfl (by omega)) rfl ?_ ?_ ?_); rfl; rfl) | (refine l_lss ?_; (refine qac (OpW.lssT rfl rfl (by omega)) rfl ?_ ?_ ?_); rfl; rfl) | (refine qaT ?_; (refine qac (OpW.not rfl) rfl ?_ ?_ ?_); rfl; rfl) | (refine qaE ?_; (refine qac (qav rfl rfl rfl) rfl ?_ ?_ ?_); rfl; rfl) | (refine qaM ?_; (refine qac (qaO (by omega) rfl rfl) rfl ?_ ?_ ?_); rfl; rfl) | (refine qaR ?_; refine SXl.alloc ?_ ?_ (fun g => ?_); rfl; rfl) | (refine qay ?_; first | ((first | refine qaa 0 ?_ rfl rfl rfl rfl rfl rfl rfl ?_ | refine qaa 1 ?_ rfl rfl rfl rfl rfl rfl rfl ?_ | refine qaa 2 ?_ rfl rfl rfl rfl rfl rfl rfl ?_); rfl; simp only [List.set_cons_zero, List.set_cons_succ]) | ((first | refine qab 0 ?_ rfl rfl rfl rfl rfl rfl rfl ?_ | refine qab 1 ?_ rfl rfl rfl rfl rfl rfl rfl ?_ | refine qab 2 ?_ rfl rfl rfl rfl rfl rfl rfl ?_); rfl; simp only [over, List.set_cons_zero, List.set_cons_succ])) | (rw [h1]) | refine qar ?_)
      refine SQ.round3 (j + 1) a' c' (by omega) (by omega) ?_ (fun w hl => by rw [hS]; exact hl.drop1)
      (repeat (first | exact subF_nil _ | (refine subF_cons rfl ?_) | (refine subF_consv rfl (by rw [hS]) ?_)))
  · obtain rfl : j = ks.length := by omega
    rw [List.take_length] at *
    repeat (first | refine qan ?_ | refine qaj ?_ | refine qaf ?_ | refine qad ?_ | refine qas rfl ?_ | (refine qao ?_; (refine qac (qai rfl) rfl ?_ ?_ ?_); rfl; rfl) | (refine qal ?_; (refine qac (qag rfl) rfl ?_ ?_ ?_); rfl; rfl) | (refine l_lss ?_; (refine qac (OpW.lssF rfl rfl (by omega)) rfl ?_ ?_ ?_); rfl; rfl) | refine qaA ?_ | refine SX.exit ?_ | refine qaF ?_ | refine qaD ?_)
    refine qaz rfl rfl (fun w' hl => ⟨a', c', rfl, (hl.own _ List.mem_cons_self).1, hl.mod⟩)
set_option maxRecDepth 100000 in
set_option maxHeartbeats 8000000 in
theorem apartKidsW_any (l : List Node) (n : Int) (o : Bool) (a : Option Addr) (c : Nat) (R : Nat → Prop) (w : World) (hlen : l.length ≤ 1048576) (hfit : ∀ x ∈ l, x.fits 1048576) (h : NodeSlice o R w a l) :
    Calls Try.prog 46 #[.agg #[.slice a l.length c], .int .i64 n] w (NewSlice 3 1 w (apartW l n).length ((apartW l n).map icell).flatten) := by
  refine calls_sx Try.func46 rfl rfl (fun a h1 h2 h3 => ((Fr.nil h1 h2).arg (h3 1 _ rfl)).arg (h3 0 _ rfl)) ?_
  have hT := fun w' (hm : Mod (fun _ => False) w w') => treeOk_any l o a c R w' hlen hfit (h.keep hm)
  cases hv : treeOk l
  · have e : apartW l n = [] := by simp [apartW, hv]
    rw [e]
    rw [hv] at hT
    repeat (first | refine qan ?_ | refine qaj ?_ | refine qaf ?_ | refine qad ?_ | refine qaq rfl ?_ | (refine qaS rfl rfl rfl ?_) | (refine qat ?_; (refine qac (qap rfl (fun w hl => hT _ hl.mod)) rfl ?_ ?_ ?_); rfl; rfl) | (refine qau ?_; (refine qac (qam 0 rfl rfl rfl) rfl ?_ ?_ ?_); rfl; rfl) | (refine qao ?_; (refine qac (qai rfl) rfl ?_ ?_ ?_); rfl; rfl) | (refine qal ?_; (refine qac (qag rfl) rfl ?_ ?_ ?_); rfl; rfl) | (refine qaT ?_; (refine qac (OpW.not rfl) rfl ?_ ?_ ?_); rfl; rfl) | (refine qaE ?_; (refine qac (qav rfl rfl rfl) rfl ?_ ?_ ?_); rfl; rfl) | (refine l_box ?_; refine qaG ?_ ?_ rfl rfl (fun g => ?_); rfl; rfl) | refine qaA ?_ | refine qax ?_)
    refine qaz rfl rfl (fun w' hl => ⟨none, 0, rfl, World.ownsRow_nil _ _ _ _, hl.mod⟩)
  rw [hv] at hT
  cases hn : inB n 1 l.length
  · have e : apartW l n = [] := by simp [apartW, hn]
    rw [e]
    repeat (first | refine qan ?_ | refine qaj ?_ | refine qaf ?_ | refine qad ?_ | refine qaq rfl ?_ | (refine qat ?_; (first | refine qac (qap rfl (fun w hl => hT _ hl.mod)) rfl ?_ ?_ ?_ | refine qac (qap rfl (fun w hl => isNode_any _ _ _ _ _)) rfl ?_ ?_ ?_); rfl; rfl) | (refine qau ?_; (refine qac (qam 0 rfl rfl rfl) rfl ?_ ?_ ?_); rfl; rfl) | (refine qao ?_; (refine qac (qai rfl) rfl ?_ ?_ ?_); rfl; rfl) | (refine qal ?_; (refine qac (qag rfl) rfl ?_ ?_ ?_); rfl; rfl) | (refine qaT ?_; (refine qac (OpW.not rfl) rfl ?_ ?_ ?_); rfl; rfl) | (refine qaE ?_; (refine qac (qav rfl rfl rfl) rfl ?_ ?_ ?_); rfl; rfl) | (refine l_box ?_; refine qaG ?_ ?_ rfl rfl (fun g => ?_); rfl; rfl) | (rw [hn]) | refine qaA ?_ | refine qax ?_)
    refine qaz rfl rfl (fun w' hl => ⟨none, 0, rfl, World.ownsRow_nil _ _ _ _, hl.mod⟩)
  have e : apartW l n = (nodeAt l n).kids.filter (standsApart l) := by simp [apartW, hv, hn]
  rw [e]
  repeat (first | refine qan ?_ | refine qaj ?_ | refine qaf ?_ | refine qad ?_ | refine qaC ?_ | refine qas rfl ?_ | (refine qat ?_; (first | refine qac (qap rfl (fun w hl => hT _ hl.mod)) rfl ?_ ?_ ?_ | refine qac (qap rfl (fun w hl => isNode_any _ _ _ _ _)) rfl ?_ ?_ ?_); rfl; rfl) | (refine qau ?_; (refine qac (qam 0 rfl rfl rfl) rfl ?_ ?_ ?_); rfl; rfl) | (refine qao ?_; (refine qac (qai rfl) rfl ?_ ?_ ?_); rfl; rfl) | (refine qal ?_; (refine qac (qag rfl) rfl ?_ ?_ ?_); rfl; rfl) | (refine qaT ?_; (refine qac (OpW.not rfl) rfl ?_ ?_ ?_); rfl; rfl) | (refine qaE ?_; (refine qac (qav rfl rfl rfl) rfl ?_ ?_ ?_); rfl; rfl) | (refine l_box ?_; refine qaG ?_ ?_ rfl rfl (fun g => ?_); rfl; rfl) | (rw [hn]))
  have hK := fun w' (hm : Mod (fun _ => False) w w') => apartKids_any l n o a c R w' hv hn (h.keep hm)
  generalize (nodeAt l n).kids.filter (standsApart l) = F at *
  refine qat ?_
  refine SXl.calln1 (v := fun q => .slice q.a F.length q.c) (F1 := ownRes icell 3 1 F) rfl rfl rfl (fun w hl => (hK _ hl.mod).mono fun _ _ h => new_own h) (fun q => ?_)
  repeat (first | refine qaj ?_ | refine qad ?_ | (refine qal ?_; (refine qac (qag rfl) rfl ?_ ?_ ?_); rfl; rfl) | refine qaA ?_)
  refine qaz rfl rfl (fun w' hl => ⟨_, _, rfl, ?_, hl.mod⟩)
  have := hl.res _ (.head _)
  have h2 := hl.resNew _ (.head _)
  exact own_from this.1 h2
end Go.Proofs.Ythffgbhphjkdeaa
namespace Go.Proofs.Ythffgbhphjkdeaa
open Go.RowKit
set_option linter.unusedVariables false
set_option linter.unusedSimpArgs false

/-- Where a node's slices lie. -/
structure NodeP where
  ka : Option Addr
  kc : Nat
  ra : Option Addr
  rc : Nat
abbrev PNode := Node × NodeP
def rowP (x : PNode) : List Value := nodeRow x.1.up x.2.ka x.1.kids.length x.2.kc x.1.style x.1.measured x.2.ra x.1.rules.length x.2.rc
theorem rowP_len (x : PNode) : (rowP x).length = 64 := rfl
theorem rowP_one (x : PNode) : ∀ u ∈ rowP x, u.oneCell' = true := by
  have := nodeRow_ones x.1.up x.2.ka x.1.kids.length x.2.kc x.1.style x.1.measured x.2.ra x.1.rules.length x.2.rc
  simpa [rowP] using this
def kidsO (x : PNode) : Own := ⟨.slice x.2.ka x.1.kids.length x.2.kc, 3, 1, x.1.kids.length, (x.1.kids.map icell).flatten⟩
def rulesO (x : PNode) : Own := ⟨.slice x.2.ra x.1.rules.length x.2.rc, 152, 3, x.1.rules.length, (x.1.rules.map Rule.cells).flatten⟩
def partsO : List PNode → List Own
  | [] => []
  | x :: l => kidsO x :: rulesO x :: partsO l
def nodesO (l : List PNode) (a : Option Addr) (c : Nat) : Own := ⟨.slice a l.length c, 86, 64, l.length, (l.map rowP).flatten⟩
def treeO (l : List PNode) (a : Option Addr) (c : Nat) : List Own := nodesO l a c :: partsO l
abbrev bare (l : List PNode) : List Node := l.map Prod.fst
theorem partsO_cons (x : PNode) (l : List PNode) : partsO (x :: l) = kidsO x :: rulesO x :: partsO l := rfl
theorem partsO_append (l m : List PNode) : partsO (l ++ m) = partsO l ++ partsO m := by
  induction l with
  | nil => rfl
  | cons x l ih => rw [List.cons_append, partsO_cons, partsO_cons, ih, List.cons_append, List.cons_append]
theorem partsO_mem {l : List PNode} {x : PNode} (h : x ∈ l) : kidsO x ∈ partsO l ∧ rulesO x ∈ partsO l := by
  induction l with
  | nil => exact (List.not_mem_nil h).elim
  | cons y l ih =>
    rw [partsO_cons]
    rcases List.mem_cons.1 h with rfl | h
    · exact ⟨.head _, .tail _ (.head _)⟩
    · have := ih h
      exact ⟨.tail _ (.tail _ this.1), .tail _ (.tail _ this.2)⟩
theorem partsO_kid {l : List PNode} {k : Nat} {x : PNode} (h : l[k]? = some x) : (partsO l)[2 * k]? = some (kidsO x) := by
  induction l generalizing k with
  | nil => simp at h
  | cons y l ih =>
    rw [partsO_cons]
    cases k with
    | zero =>
      rw [List.getElem?_cons_zero] at h
      rw [Nat.mul_zero, List.getElem?_cons_zero, Option.some.inj h]
    | succ k =>
      rw [List.getElem?_cons_succ] at h
      rw [show 2 * (k + 1) = 2 * k + 1 + 1 by omega, List.getElem?_cons_succ, List.getElem?_cons_succ]
      exact ih h
theorem partsO_setKid {l : List PNode} {k : Nat} {x y : PNode} (h : l[k]? = some x) (hr : rulesO y = rulesO x) : partsO (l.set k y) = (partsO l).set (2 * k) (kidsO y) := by
  induction l generalizing k with
  | nil => simp at h
  | cons z l ih =>
    cases k with
    | zero =>
      rw [List.getElem?_cons_zero] at h
      rw [List.set_cons_zero, partsO_cons, partsO_cons, Nat.mul_zero, List.set_cons_zero, hr, Option.some.inj h]
    | succ k =>
      rw [List.getElem?_cons_succ] at h
      rw [show 2 * (k + 1) = 2 * k + 1 + 1 by omega, List.set_cons_succ, partsO_cons, partsO_cons, List.set_cons_succ, List.set_cons_succ, ih h]
theorem partsO_setRule {l : List PNode} {k : Nat} {x y : PNode} (h : l[k]? = some x) (hr : kidsO y = kidsO x) : partsO (l.set k y) = (partsO l).set (2 * k + 1) (rulesO y) := by
  induction l generalizing k with
  | nil => simp at h
  | cons z l ih =>
    cases k with
    | zero =>
      rw [List.getElem?_cons_zero] at h
      rw [List.set_cons_zero, partsO_cons, partsO_cons, Nat.mul_zero, List.set_cons_succ, List.set_cons_zero, hr, Option.some.inj h]
    | succ k =>
      rw [List.getElem?_cons_succ] at h
      rw [show 2 * (k + 1) + 1 = 2 * k + 1 + 1 + 1 by omega, List.set_cons_succ, partsO_cons, partsO_cons, List.set_cons_succ, List.set_cons_succ, ih h]
theorem partsO_same {l : List PNode} {k : Nat} {x y : PNode} (h : l[k]? = some x) (hr : kidsO y = kidsO x) (hs : rulesO y = rulesO x) : partsO (l.set k y) = partsO l := by
  induction l generalizing k with
  | nil => simp at h
  | cons z l ih =>
    cases k with
    | zero =>
      rw [List.getElem?_cons_zero] at h
      rw [List.set_cons_zero, partsO_cons, partsO_cons, hr, hs, Option.some.inj h]
    | succ k =>
      rw [List.getElem?_cons_succ] at h
      rw [List.set_cons_succ, partsO_cons, partsO_cons, ih h]

/-- A list of rows of one length: one cell of one row set. -/
theorem flat_set {α : Type} {cells : α → List Value} {sz : Nat} (hc : ∀ x, (cells x).length = sz) : ∀ {l : List α} {k j : Nat} {x y : α} {v : Value}, l[k]? = some x → j < sz → cells y = (cells x).set j v → ((l.set k y).map cells).flatten = ((l.map cells).flatten).set (k * sz + j) v
  | z :: l, 0, j, x, y, v, h, hj, hy => by
    obtain rfl : z = x := Option.some.inj h
    simp only [List.set_cons_zero, List.map_cons, List.flatten_cons, hy, Nat.zero_mul, Nat.zero_add]
    rw [List.set_append_left _ _ (by rw [hc]; exact hj)]
  | z :: l, k + 1, j, x, y, v, h, hj, hy => by
    simp only [List.set_cons_succ, List.map_cons, List.flatten_cons]
    rw [flat_set hc (l := l) h hj hy, show (k + 1) * sz + j = (cells z).length + (k * sz + j) by rw [hc, Nat.succ_mul]; omega]
    rw [List.set_append_right _ _ (by omega), Nat.add_sub_cancel_left]
theorem over_left : ∀ (r a b : List Value) (o : Nat), o + r.length ≤ a.length → over (a ++ b) o r = over a o r ++ b
  | [], a, b, o, h => rfl
  | v :: r, a, b, o, h => by
    simp only [List.length_cons] at h
    unfold over
    rw [List.set_append_left _ _ (by omega), over_left r _ b (o + 1) (by rw [List.length_set]; omega)]
theorem over_right : ∀ (r a b : List Value) (o : Nat), over (a ++ b) (a.length + o) r = a ++ over b o r
  | [], a, b, o => rfl
  | v :: r, a, b, o => by
    unfold over
    rw [List.set_append_right _ _ (by omega), Nat.add_sub_cancel_left, Nat.add_assoc, over_right r a _ (o + 1)]
/-- The same: several cells of one row. -/
theorem flat_over {α : Type} {cells : α → List Value} {sz : Nat} (hc : ∀ x, (cells x).length = sz) : ∀ {l : List α} {k j : Nat} {x y : α} {r : List Value}, l[k]? = some x → j + r.length ≤ sz → cells y = over (cells x) j r → ((l.set k y).map cells).flatten = over ((l.map cells).flatten) (k * sz + j) r
  | z :: l, 0, j, x, y, r, h, hj, hy => by
    obtain rfl : z = x := Option.some.inj h
    simp only [List.set_cons_zero, List.map_cons, List.flatten_cons, hy, Nat.zero_mul, Nat.zero_add]
    rw [over_left _ _ _ _ (by rw [hc]; exact hj)]
  | z :: l, k + 1, j, x, y, r, h, hj, hy => by
    simp only [List.set_cons_succ, List.map_cons, List.flatten_cons]
    rw [flat_over hc (l := l) h hj hy, show (k + 1) * sz + j = (cells z).length + (k * sz + j) by rw [hc, Nat.succ_mul]; omega]
    rw [over_right]
theorem flat_get {α : Type} {cells : α → List Value} {sz : Nat} (hc : ∀ x, (cells x).length = sz) : ∀ {l : List α} {k j : Nat} {x : α} {v : Value}, l[k]? = some x → (cells x)[j]? = some v → ((l.map cells).flatten)[k * sz + j]? = some v
  | z :: l, 0, j, x, v, h, hv => by
    obtain rfl : z = x := Option.some.inj h
    simp only [List.map_cons, List.flatten_cons, Nat.zero_mul, Nat.zero_add]
    rw [List.getElem?_append_left (List.getElem?_eq_some_iff.1 hv).1, hv]
  | z :: l, k + 1, j, x, v, h, hv => by
    simp only [List.map_cons, List.flatten_cons]
    rw [show (k + 1) * sz + j = (cells z).length + (k * sz + j) by rw [hc, Nat.succ_mul]; omega, List.getElem?_append_right (by omega), Nat.add_sub_cancel_left]
    exact flat_get hc (l := l) h hv

/-- A tree of the call's own reads as a tree. -/
theorem tree_in {base : Nat} {w : World} {l : List PNode} {a : Option Addr} {c : Nat} (h : Owns base w (treeO l a c)) : NodeSlice false (fun k => base ≤ k) w a (bare l) := by
  have h1 := h.row (nodesO l a c) List.mem_cons_self
  simp only [nodesO] at h1
  refine ⟨l.map rowP, rowsAt_of_own h1 (by intro r hr; obtain ⟨x, _, rfl⟩ := List.mem_map.1 hr; rfl) (by decide), by simp, fun i r x hr hx => ?_⟩
  rw [List.getElem?_map] at hr hx
  cases hp : l[i]? with
  | none => rw [hp] at hr; cases hr
  | some p =>
    rw [hp] at hr hx
    obtain rfl := Option.some.inj hr
    obtain rfl := Option.some.inj hx
    obtain ⟨m1, m2⟩ := partsO_mem (List.mem_of_getElem? hp)
    have k1 := h.row _ (List.mem_cons_of_mem _ m1)
    have k2 := h.row _ (List.mem_cons_of_mem _ m2)
    simp only [kidsO, rulesO] at k1 k2
    exact ⟨_, _, _, _, rfl, own_slice k1 (fun _ => rfl) (by decide), own_slice k2 (fun _ => rfl) (by decide), fun e => by cases e⟩
theorem nodes_cell {base : Nat} {w : World} {l : List PNode} {g c : Nat} (h : Owns base w (treeO l (some ⟨g, 0, none⟩) c)) {k j : Nat} {x : PNode} {v : Value} (hx : l[k]? = some x) (hv : (rowP x)[j]? = some v) : w.cell? ⟨g, 0 + k * 64 + j, none⟩ = some v := by
  have h1 := h.row (nodesO l (some ⟨g, 0, none⟩) c) List.mem_cons_self
  simp only [nodesO] at h1
  have e := flat_get rowP_len hx hv
  rw [Nat.zero_add, h1.cellAt _ (by rw [← h1.1]; exact (List.getElem?_eq_some_iff.1 e).1), e]
theorem tree_addr {base : Nat} {w : World} {l : List PNode} {a : Option Addr} {c : Nat} (h : Owns base w (treeO l a c)) (h0 : 0 < l.length) : ∃ g, a = some ⟨g, 0, none⟩ := by
  have h1 := h.row (nodesO l a c) List.mem_cons_self
  simp only [nodesO] at h1
  rcases h1.2 with ⟨_, hn⟩ | ⟨g, cap, cur, hv, _⟩
  · omega
  · injection hv with ha _ _
    exact ⟨g, ha⟩
theorem nodes_set {l : List PNode} {a : Option Addr} {c k j : Nat} {x y : PNode} {v : Value} (hx : l[k]? = some x) (hj : j < 64) (hy : rowP y = (rowP x).set j v) : nodesO (l.set k y) a c = ⟨.slice a l.length c, 86, 64, l.length, ((l.map rowP).flatten).set (k * 64 + j) v⟩ := by
  unfold nodesO
  rw [flat_set rowP_len hx hj hy, List.length_set]
theorem nodes_over {l : List PNode} {a : Option Addr} {c k j : Nat} {x y : PNode} {r : List Value} (hx : l[k]? = some x) (hj : j + r.length ≤ 64) (hy : rowP y = over (rowP x) j r) : nodesO (l.set k y) a c = ⟨.slice a l.length c, 86, 64, l.length, over ((l.map rowP).flatten) (k * 64 + j) r⟩ := by
  unfold nodesO
  rw [flat_over rowP_len hx hj hy, List.length_set]
theorem bare_get {l : List PNode} {k : Nat} {x : PNode} (h : l[k]? = some x) : (bare l)[k]? = some x.1 := by rw [List.getElem?_map, h]; rfl
theorem bare_set (l : List PNode) (k : Nat) (y : PNode) : bare (l.set k y) = (bare l).set k y.1 := by simp [bare, List.map_set]
theorem bare_len (l : List PNode) : (bare l).length = l.length := List.length_map _
end Go.Proofs.Ythffgbhphjkdeaa
namespace Go.Proofs.Ythffgbhphjkdeaa
open Go.RowKit
set_option linter.unusedVariables false
set_option linter.unusedSimpArgs false

theorem fold_over : ∀ (r : List Value) (k : Nat) (c : List Value), (r.zipIdx k).foldl (fun (cs : Array Value) (p : Value × Nat) => cs.setIfInBounds (0 + p.2) p.1) c.toArray = (over c k r).toArray
  | [], _, _ => rfl
  | v :: r, k, c => by
    rw [List.zipIdx_cons, List.foldl_cons]
    have := fold_over r (k + 1) (c.set k v)
    simp only [Nat.zero_add] at this ⊢
    rw [over, ← this]
    simp
theorem fill_one {r c : List Value} {v : Value} {sz : Nat} (hv : v.cells = r.toArray) (hr : r.length = sz) (hc : c.length = sz) : Instr.fill (fun i => some (i * sz, sz)) c.toArray [(0, v)] = some r.toArray := by
  have h0 : over c 0 r = r := by
    have := over_all r c [] (by omega)
    simpa using this
  unfold Instr.fill
  simp only [hv, Nat.zero_mul, List.size_toArray, hr, hc]
  rw [if_neg (by simp)]
  unfold Instr.fill
  have := fold_over r 0 c
  rw [h0] at this
  rw [← Array.foldl_toList, Array.toList_zipIdx]
  simp only [Nat.zero_add] at this
  simpa using this
section
variable {P : Program} {n : Nat} {W : World} {R : Rg W} {L : List Blk} {O : List Own} {E : List Res} {f : List (Nat × Value)} {Q : Exit → Act → World → Prop} {ops : Array Oper} {rest : List Oper} {dn : Nat} {T e : TypeId} {x : Operand} {ty : TypeId} {pos : String} {af : Array Edge} {gd : Option (Nat × Bool)}
theorem SXl.litRow1 {sz by_ : Nat} {z v : Value} {r : List Value} [t : TSl P T e sz] [te : TEl P e sz by_ z] (hw : wantO ops f ⟨some dn, .buildSlice T 1 #[(0, x)], ty, pos, af, gd⟩ = some true) (hd : Nat.blt dn n = true)
    (hx : evO f x = some v) (hv : v.cells = r.toArray) (hr : r.length = sz) (h0 : 0 < sz) (hs : sz ≤ 16777216)
    (h : ∀ g, SXl P n W R ops (⟨g, r, e⟩ :: L) O E ((dn, .slice (some ⟨g, 0, none⟩) 1 1) :: f) rest Q) : SXl P n W R ops L O E f (⟨some dn, .buildSlice T 1 #[(0, x)], ty, pos, af, gd⟩ :: rest) Q :=
  SXl.litRow (parts := [(0, x)]) (vals := [(0, v)]) (cells := r) (z := z) hw hd (by simp [evP, hx]) (by omega) (by omega) (by
    have := fill_one (c := ((Array.range (1 * sz)).map (fun i => z.cells[i % z.cells.size]!)).toList) hv hr (by simp)
    rw [Array.toArray_toList] at this
    exact this) h
theorem SXl.lit0R {sz by_ : Nat} {z : Value} [t : TSl P T e sz] [te : TEl P e sz by_ z] (hw : wantO ops f ⟨some dn, .buildSlice T 0 #[], ty, pos, af, gd⟩ = some true) (hd : Nat.blt dn n = true) (hR : ∀ k, ¬ R.q k)
    (h : ∀ g, SXl P n W R ops L (⟨.slice (some ⟨g, 0, none⟩) 0 0, e, sz, 0, []⟩ :: O) E ((dn, .slice (some ⟨g, 0, none⟩) 0 0) :: f) rest Q) : SXl P n W R ops L O E f (⟨some dn, .buildSlice T 0 #[], ty, pos, af, gd⟩ :: rest) Q :=
  SXl.stepn (V := fun g => .slice (some ⟨g, 0, none⟩) 0 0) (L' := fun _ => L) (O' := fun g => ⟨.slice (some ⟨g, 0, none⟩) 0 0, e, sz, 0, []⟩ :: O) hw rfl hd (fun a w hf hl => by
    obtain ⟨i0, q1, q2, q3, q4, q5, q6⟩ := te.h
    refine ⟨w.heap.size, w.alloc (.cells #[] e), ?_, ((hl.alloc [] e).toOwn (m := 0) (hR _) (by simp) (by unfold maxLen; omega))⟩
    simp only [execOp, Instr.buildSlice, Sem.run_bind, run_underlying t.h.1, Result.andThen_ok, sizeOf, typeInfo, run_program, q1, Sem.run_pure, q3]
    have e4 : Array.map (fun _ : Nat => (default : Value)) (Array.range 0) = #[] := by simp
    simp [newRow, q1, q2, q3, e4, Instr.fill]
    done) h
end
end Go.Proofs.Ythffgbhphjkdeaa
namespace Go.Proofs.Ythffgbhphjkdeaa
open Go.RowKit
set_option linter.unusedVariables false
set_option linter.unusedSimpArgs false

/-- Where a tree of the call's own lies. -/
structure TreeQ where
  ps : List PNode
  a : Option Addr
  c : Nat
def TreeQ.v (q : TreeQ) : Value := .agg [.slice q.a q.ps.length q.c].toArray
def TreeQ.os (q : TreeQ) : List Own := treeO q.ps q.a q.c
/-- A new tree. -/
def NewTree (l : List Node) (w : World) (e : Ending) (w' : World) : Prop := NewO TreeQ TreeQ.v TreeQ.os (fun q => bare q.ps = l) w e w'
theorem icell_one1 (x : Int) : ∀ u ∈ icell x, u.oneCell' = true := fun u hu => by simp [icell] at hu; subst hu; rfl
theorem rule_one1 (x : Rule) : ∀ u ∈ Rule.cells x, u.oneCell' = true := fun u hu => by simp [Rule.cells] at hu; rcases hu with rfl | rfl | rfl <;> rfl
theorem rowP_ones (x : PNode) : (rowP x).all (·.oneCell') = true := List.all_eq_true.2 (rowP_one x)
theorem Loc.drop2 {W : World} {R : Rg W} {a b : Blk} {L : List Blk} {O : List Own} {E : List Res} {w : World} (h : Loc W R (a :: b :: L) O E w) : Loc W R L O E w := h.drop1.drop1
/-- One node more. -/
theorem Loc.treePush {W : World} {R : Rg W} {L : List Blk} {E : List Res} {w : World} {ps : List PNode} {x : PNode} {a : Option Addr} {c : Nat}
    (h : Loc W R L (rulesO x :: kidsO x :: ⟨.slice a (ps.length + 1) c, 86, 64, ps.length + 1, (ps.map rowP).flatten ++ rowP x⟩ :: partsO ps) E w) : Loc W R L (treeO (ps ++ [x]) a c) E w := by
  refine h.ownPerm ?_
  unfold treeO nodesO
  rw [partsO_append, List.map_append, List.flatten_append, List.length_append]
  simp only [List.map_cons, List.map_nil, List.flatten_cons, List.flatten_nil, List.append_nil, List.length_cons, List.length_nil, Nat.zero_add]
  rw [partsO_cons]
  generalize (⟨_, _, _, _, _⟩ : Own) = n
  generalize partsO ps = p
  refine List.Perm.symm ?_
  refine (List.Perm.swap _ _ _).trans ?_
  refine ((List.Perm.swap _ _ _).cons _).trans ?_
  refine (List.Perm.swap _ _ _).trans ?_
  refine List.Perm.cons _ ?_
  show List.Perm ([kidsO x, rulesO x] ++ p) (p ++ [kidsO x, rulesO x])
  exact List.perm_append_comm
set_option maxRecDepth 100000 in
set_option maxHeartbeats 8000000 in
theorem scopyTree_any (l : List Node) (o : Bool) (a : Option Addr) (c : Nat) (R : Nat → Prop) (w : World) (hlen : l.length ≤ 1048576) (hfit : ∀ x ∈ l, x.fits 1048576) (h : NodeSlice o R w a l) :
    Calls Try.prog 77 #[.agg #[.slice a l.length c]] w (NewTree l w) := by
  refine calls_sx Try.func77 rfl rfl (fun a h1 h2 h3 => ((Fr.nil h1 h2).arg (h3 0 _ rfl))) ?_
  repeat (first | refine qan ?_ | refine qaj ?_ | refine qaf ?_ | refine qad ?_ | refine SX.block ?_ | (refine qal ?_; (refine qac (qag rfl) rfl ?_ ?_ ?_); rfl; rfl) | (refine l_build ?_; (refine qac (OpW.build rfl rfl) rfl ?_ ?_ ?_); rfl; rfl) | (refine qaR ?_; refine SXl.alloc ?_ ?_ (fun g => ?_); rfl; rfl) | (refine l_box ?_; refine qaG ?_ ?_ rfl rfl (fun g => ?_); rfl; rfl) | (refine qay ?_; first | ((first | refine qah 0 ?_ rfl rfl rfl rfl rfl rfl ?_ | refine qah 1 ?_ rfl rfl rfl rfl rfl rfl ?_ | refine qah 2 ?_ rfl rfl rfl rfl rfl rfl ?_); rfl; simp only [List.set_cons_zero, List.set_cons_succ]) | ((first | refine qaa 0 ?_ rfl rfl rfl rfl rfl rfl rfl ?_ | refine qaa 1 ?_ rfl rfl rfl rfl rfl rfl rfl ?_ | refine qaa 2 ?_ rfl rfl rfl rfl rfl rfl rfl ?_); rfl; simp only [List.set_cons_zero, List.set_cons_succ]) | ((first | refine qab 0 ?_ rfl rfl rfl rfl rfl rfl rfl ?_ | refine qab 1 ?_ rfl rfl rfl rfl rfl rfl rfl ?_ | refine qab 2 ?_ rfl rfl rfl rfl rfl rfl rfl ?_); rfl; simp only [over, List.set_cons_zero, List.set_cons_succ])))
  rename_i g1 g2
  refine SX.ownNil 86 64 ?_
  refine SX.loop3 (fun (k : Nat) (q : TreeQ) (_ : Unit) => k ≤ l.length ∧ bare q.ps = l.take k) (fun k _ _ => l.length - k) (fun _ q _ => [⟨g, [.slice q.a q.ps.length q.c], 37⟩, ⟨g2, [.slice none 0 0], 37⟩, ⟨g1, [.slice a l.length c], 37⟩]) (fun _ q _ => q.os) (fun _ _ _ => []) (fun k _ _ => [(1, .pointer (some ⟨g1, 0, none⟩)), (2, .pointer (some ⟨g2, 0, none⟩)), (3, .pointer (some ⟨g, 0, none⟩)), (4, .int .i64 k)]) 0 ⟨[], none, 0⟩ () ⟨Nat.zero_le _, rfl⟩ ?_ (fun w hl => hl) ?_
  · (repeat (first | exact subF_nil _ | (refine subF_cons rfl ?_) | (refine subF_consv rfl (by rfl) ?_)))
  rintro k q _ ⟨hk, hq⟩
  have hql : q.ps.length = k := by rw [← bare_len, hq, List.length_take]; omega
  by_cases hlt : k < l.length
  rotate_left
  · have hk' : k = l.length := by omega
    repeat (first | refine qan ?_ | refine qaj ?_ | refine qaf ?_ | refine qad ?_ | refine qas rfl ?_ | (refine qau ?_; (first | refine qac (qaw 2 rfl rfl rfl) rfl ?_ ?_ ?_ | refine qac (qam 0 rfl rfl rfl) rfl ?_ ?_ ?_); rfl; rfl) | (refine qak ?_; (refine qac (qae rfl) rfl ?_ ?_ ?_); rfl; rfl) | (refine qao ?_; (refine qac (qai rfl) rfl ?_ ?_ ?_); rfl; rfl) | (refine l_len ?_; (refine qac (OpW.len rfl) rfl ?_ ?_ ?_); rfl; rfl) | (refine l_lss ?_; (refine qac (OpW.lssF rfl rfl (by omega)) rfl ?_ ?_ ?_); rfl; rfl) | (refine qay ?_; first | ((first | refine qah 0 ?_ rfl rfl rfl rfl rfl rfl ?_ | refine qah 1 ?_ rfl rfl rfl rfl rfl rfl ?_ | refine qah 2 ?_ rfl rfl rfl rfl rfl rfl ?_); rfl; simp only [List.set_cons_zero, List.set_cons_succ]) | ((first | refine qaa 0 ?_ rfl rfl rfl rfl rfl rfl rfl ?_ | refine qaa 1 ?_ rfl rfl rfl rfl rfl rfl rfl ?_ | refine qaa 2 ?_ rfl rfl rfl rfl rfl rfl rfl ?_); rfl; simp only [List.set_cons_zero, List.set_cons_succ]) | ((first | refine qab 0 ?_ rfl rfl rfl rfl rfl rfl rfl ?_ | refine qab 1 ?_ rfl rfl rfl rfl rfl rfl rfl ?_ | refine qab 2 ?_ rfl rfl rfl rfl rfl rfl rfl ?_); rfl; simp only [over, List.set_cons_zero, List.set_cons_succ])) | refine qaA ?_ | refine SX.exit ?_ | refine qaF ?_ | refine qaD ?_)
    refine qaK 1 rfl rfl rfl rfl (fun w' hl => ⟨q, rfl, (show bare q.ps = l by rw [hq, hk', List.take_length]), hl.owns, hl.mod⟩)
  obtain ⟨b1, o1, x, r1, rfl, hR1, hb1, hxk, hr1, hl1, hc1⟩ := h.get hlt
  obtain ⟨ka, kc, ra, rc, rfl, hk1, ht1, _⟩ := hr1
  have hf := hfit x (List.mem_of_getElem? hxk.out)
  obtain ⟨hf1, hf2⟩ := hf
  repeat (first | refine qan ?_ | refine qaj ?_ | refine qaf ?_ | refine qad ?_ | refine SX.block ?_ | refine qaC ?_ | refine qaq rfl ?_ | (refine qau ?_; (first | refine qac (OpW.loadRowOld rfl hc1 (nodeRow_len _ _ _ _ _ _ _ _ _) (Nat.succ_pos _) (fun h => h)) rfl ?_ ?_ ?_ | refine qac (qaw 0 rfl rfl rfl) rfl ?_ ?_ ?_ | refine qac (qaw 2 rfl rfl rfl) rfl ?_ ?_ ?_); rfl; rfl) | (refine qak ?_; (refine qac (qae rfl) rfl ?_ ?_ ?_); rfl; rfl) | (refine qao ?_; (refine qac (qai rfl) rfl ?_ ?_ ?_); rfl; rfl) | (refine l_len ?_; (refine qac (OpW.len rfl) rfl ?_ ?_ ?_); rfl; rfl) | (refine l_lss ?_; (refine qac (OpW.lssT rfl rfl (by omega)) rfl ?_ ?_ ?_); rfl; rfl) | (refine qaM ?_; (refine qac (qaJ (by omega) rfl rfl) rfl ?_ ?_ ?_); rfl; rfl) | (refine qaR ?_; refine SXl.alloc ?_ ?_ (fun g => ?_); rfl; rfl) | (refine qay ?_; first | ((first | refine qah 0 ?_ rfl rfl rfl rfl rfl rfl ?_ | refine qah 1 ?_ rfl rfl rfl rfl rfl rfl ?_ | refine qah 2 ?_ rfl rfl rfl rfl rfl rfl ?_); rfl; simp only [List.set_cons_zero, List.set_cons_succ]) | ((first | refine qaa 0 ?_ rfl rfl rfl rfl rfl rfl rfl ?_ | refine qaa 1 ?_ rfl rfl rfl rfl rfl rfl rfl ?_ | refine qaa 2 ?_ rfl rfl rfl rfl rfl rfl rfl ?_); rfl; simp only [List.set_cons_zero, List.set_cons_succ]) | ((first | refine qab 0 ?_ rfl rfl rfl rfl rfl rfl rfl ?_ | refine qab 1 ?_ rfl rfl rfl rfl rfl rfl rfl ?_ | refine qab 2 ?_ rfl rfl rfl rfl rfl rfl rfl ?_); rfl; simp only [over, List.set_cons_zero, List.set_cons_succ])) | (refine qaN ?_; first | (refine SXl.lit1 ?_ ?_ rfl rfl rfl (fun g => ?_); rfl; rfl) | (refine SXl.lit0 ?_ ?_ (fun _ h => h) rfl (fun g => ?_); rfl; rfl)))
  refine l_append ?_
  refine SXl.appendS (cs := icell) 0 x.kids rfl rfl rfl rfl rfl rfl (fun _ => rfl) icell_one1 (fun w hl => ⟨_, SliceAt.flatKeep hk1 hl.mod⟩) (by omega) (by omega) (fun a1 c1 => ?_)
  simp only [List.set_cons_zero, Nat.zero_add, List.nil_append]
  repeat (first | refine qan ?_ | refine qaj ?_ | refine qaf ?_ | refine qad ?_ | (refine qak ?_; (refine qac (qae rfl) rfl ?_ ?_ ?_); rfl; rfl) | (refine qay ?_; first | ((first | refine qah 0 ?_ rfl rfl rfl rfl rfl rfl ?_ | refine qah 1 ?_ rfl rfl rfl rfl rfl rfl ?_ | refine qah 2 ?_ rfl rfl rfl rfl rfl rfl ?_); rfl; simp only [List.set_cons_zero, List.set_cons_succ]) | ((first | refine qaa 0 ?_ rfl rfl rfl rfl rfl rfl rfl ?_ | refine qaa 1 ?_ rfl rfl rfl rfl rfl rfl rfl ?_ | refine qaa 2 ?_ rfl rfl rfl rfl rfl rfl rfl ?_); rfl; simp only [List.set_cons_zero, List.set_cons_succ]) | ((first | refine qab 0 ?_ rfl rfl rfl rfl rfl rfl rfl ?_ | refine qab 1 ?_ rfl rfl rfl rfl rfl rfl rfl ?_ | refine qab 2 ?_ rfl rfl rfl rfl rfl rfl rfl ?_); rfl; simp only [over, List.set_cons_zero, List.set_cons_succ])))
  refine qaN ?_
  refine SXl.lit0R rfl rfl (fun _ h => h) (fun g4 => ?_)
  repeat (first | (refine qau ?_; (refine qac (qaw 0 rfl rfl rfl) rfl ?_ ?_ ?_); rfl; rfl) | (refine qak ?_; (refine qac (qae rfl) rfl ?_ ?_ ?_); rfl; rfl))
  refine l_append ?_
  refine SXl.appendS (cs := Rule.cells) 0 x.rules rfl rfl rfl rfl rfl rfl (fun _ => rfl) rule_one1 (fun w hl => ⟨_, SliceAt.flatKeep ht1 hl.mod⟩) (by omega) (by omega) (fun a2 c2 => ?_)
  simp only [List.set_cons_zero, Nat.zero_add, List.nil_append]
  repeat (first | refine qaj ?_ | refine qaf ?_ | refine qad ?_ | (refine qau ?_; (first | refine qac (qaw 1 rfl rfl rfl) rfl ?_ ?_ ?_ | refine qac (qam 0 rfl rfl rfl) rfl ?_ ?_ ?_); rfl; rfl) | (refine qak ?_; (refine qac (qae rfl) rfl ?_ ?_ ?_); rfl; rfl) | (refine l_build ?_; (refine qac (OpW.build rfl rfl) rfl ?_ ?_ ?_); rfl; rfl) | (refine qay ?_; first | ((first | refine qah 0 ?_ rfl rfl rfl rfl rfl rfl ?_ | refine qah 1 ?_ rfl rfl rfl rfl rfl rfl ?_ | refine qah 2 ?_ rfl rfl rfl rfl rfl rfl ?_); rfl; simp only [List.set_cons_zero, List.set_cons_succ]) | ((first | refine qaa 0 ?_ rfl rfl rfl rfl rfl rfl rfl ?_ | refine qaa 1 ?_ rfl rfl rfl rfl rfl rfl rfl ?_ | refine qaa 2 ?_ rfl rfl rfl rfl rfl rfl rfl ?_); rfl; simp only [List.set_cons_zero, List.set_cons_succ]) | ((first | refine qab 0 ?_ rfl rfl rfl rfl rfl rfl rfl ?_ | refine qab 1 ?_ rfl rfl rfl rfl rfl rfl rfl ?_ | refine qab 2 ?_ rfl rfl rfl rfl rfl rfl rfl ?_); rfl; simp only [over, List.set_cons_zero, List.set_cons_succ])))
  refine qaN ?_
  refine SXl.litRow1 (sz := 64) (r := rowP (x, ⟨a1, c1, a2, c2⟩)) rfl rfl rfl rfl rfl (by decide) (by decide) (fun g5 => ?_)
  skip
  refine l_append ?_
  refine SXl.append 2 0 rfl rfl rfl rfl rfl rfl rfl (rowP_ones _) (by omega) (by omega) (fun a3 c3 => ?_)
  repeat (first | refine qaj ?_ | refine qaf ?_ | refine qad ?_ | (refine qak ?_; (refine qac (qae rfl) rfl ?_ ?_ ?_); rfl; rfl) | (refine qao ?_; (refine qac (qai rfl) rfl ?_ ?_ ?_); rfl; rfl) | (refine qal ?_; (refine qac (qag rfl) rfl ?_ ?_ ?_); rfl; rfl) | (refine l_add ?_; (refine qac (OpW.succ rfl rfl (by omega)) rfl ?_ ?_ ?_); rfl; rfl) | (refine qay ?_; first | ((first | refine qah 0 ?_ rfl rfl rfl rfl rfl rfl ?_ | refine qah 1 ?_ rfl rfl rfl rfl rfl rfl ?_ | refine qah 2 ?_ rfl rfl rfl rfl rfl rfl ?_); rfl; simp only [List.set_cons_zero, List.set_cons_succ]) | ((first | refine qaa 0 ?_ rfl rfl rfl rfl rfl rfl rfl ?_ | refine qaa 1 ?_ rfl rfl rfl rfl rfl rfl rfl ?_ | refine qaa 2 ?_ rfl rfl rfl rfl rfl rfl rfl ?_); rfl; simp only [List.set_cons_zero, List.set_cons_succ]) | ((first | refine qab 0 ?_ rfl rfl rfl rfl rfl rfl rfl ?_ | refine qab 1 ?_ rfl rfl rfl rfl rfl rfl rfl ?_ | refine qab 2 ?_ rfl rfl rfl rfl rfl rfl rfl ?_); rfl; simp only [over, List.set_cons_zero, List.set_cons_succ])) | refine qar ?_)
  refine SQ.round3 (k + 1) ⟨q.ps ++ [(x, ⟨a1, c1, a2, c2⟩)], a3, c3⟩ () ⟨by omega, ?_⟩ (by omega) ?_ (fun w hl => by
    show Loc _ _ (⟨_, [.slice a3 (q.ps ++ [_]).length c3], _⟩ :: _) _ _ _
    rw [List.length_append]
    exact hl.drop2.treePush)
  · show bare (q.ps ++ [(x, _)]) = _
    rw [List.take_add_one, hxk.out, bare, List.map_append, ← hq]; rfl
  · (repeat (first | exact subF_nil _ | (refine subF_cons rfl ?_) | (refine subF_consv rfl (by rw [List.length_append]; rfl) ?_)))
end Go.Proofs.Ythffgbhphjkdeaa
namespace Go.Proofs.Ythffgbhphjkdeaa
open Go.RowKit

/-- Only block g may turn, from the cells c to the cells c'. -/
def TP (g T : Nat) (c c' : List Value) (w w' : World) : Prop := Mod (fun k => k = g ∧ w.heap[k]? = some (.cells c.toArray T (0, 0)) ∧ w'.heap[k]? = some (.cells c'.toArray T (0, 0))) w w'
structure Near (W : World) (R : Rg W) (L : List Blk) (O : List Own) (E : List Res) (g : Nat) : Prop where
  new : R.q g ∨ W.heap.size ≤ g
  blk : ∀ b ∈ L, b.g ≠ g
  own : ∀ o ∈ O, o.v.ownBlock ≠ some g
  res : ∀ F ∈ E, ¬ F.foot g
/-- Block g holds c', told of operation ks. -/
def PV (g T : Nat) (c' : List Value) (_ : Nat → Value) (w : World) (_ : Value) : Prop := w.heap[g]? = some (.cells c'.toArray T (0, 0))
section
variable {P : Program} {n : Nat} {W : World} {R : Rg W} {L : List Blk} {O : List Own} {E : List Res} {w w' : World} {g T : Nat} {c c' : List Value}
theorem PV.keep {x : Nat → Value} {v : Value} (h : PV g T c' x w v) (hm : TP g T c c' w w') : PV g T c' x w' v := by
  unfold PV at *
  by_cases hs : g = g ∧ w.heap[g]? = some (.cells c.toArray T (0, 0)) ∧ w'.heap[g]? = some (.cells c'.toArray T (0, 0))
  · exact hs.2.2
  · rw [hm.block _ (Array.getElem?_eq_some_iff.1 h).1 hs]
    exact h
theorem Loc.erase {i : Nat} (h : Loc W R L O E w) : Loc W R (L.eraseIdx i) O E w where
  mod := h.mod
  inv := h.inv
  blk := fun b hb => h.blk b (List.mem_of_mem_eraseIdx hb)
  apart := h.apart.sublist (List.eraseIdx_sublist ..)
  own := fun o ho => ⟨(h.own o ho).1, fun b hb => (h.own o ho).2 b (List.mem_of_mem_eraseIdx hb)⟩
  ownApart := h.ownApart
  res := fun F hF => ⟨(h.res F hF).1, (h.res F hF).2.1, fun b hb => (h.res F hF).2.2.1 b (List.mem_of_mem_eraseIdx hb), (h.res F hF).2.2.2⟩
  resNew := h.resNew
  resApart := h.resApart
theorem Loc.near {i : Nat} (h : Loc W R L O E w) (hi : L[i]? = some ⟨g, c, T⟩) : Near W R (L.eraseIdx i) O E g := by
  have hm : (⟨g, c, T⟩ : Blk) ∈ L := List.mem_iff_getElem?.2 ⟨i, hi⟩
  refine ⟨(h.blk _ hm).1, fun b hb => ?_, fun o ho => (h.own o ho).2 _ hm, fun F hF => (h.res F hF).2.2.1 _ hm⟩
  obtain ⟨j, hj, hb⟩ := List.mem_eraseIdx_iff_getElem?.1 hb
  exact fun e => (pairwise_ne_of (fun _ _ h e => h e.symm) h.apart hb hi hj) e
theorem Loc.keepP (hf : Near W R L O E g) (h : Loc W R L O E w) {S : Nat → Prop} (hS : ∀ k, S k → k = g) (hm : Mod S w w') : Loc W R L O E w' :=
  h.frame hm (fun k hk hs => by have := hS k hs; subst this; rcases hf.new with h1 | h1; exact h1; omega) (fun b hb hs => hf.blk b hb (hS _ hs)) (fun o ho k hk hs => by have := hS k hs; subst this; exact hf.own o ho hk) (fun F hF k hk hs => by have := hS k hs; subst this; exact hf.res F hF hk)
theorem Loc.addP (hf : Near W R L O E g) (h : Loc W R L O E w) (hb : w.heap[g]? = some (.cells c'.toArray T (0, 0))) : Loc W R (⟨g, c', T⟩ :: L) O E w where
  mod := h.mod
  inv := h.inv
  blk := fun b hbm => by
    rcases List.mem_cons.1 hbm with rfl | hbm
    · exact ⟨hf.new, hb⟩
    · exact h.blk b hbm
  apart := List.pairwise_cons.2 ⟨fun b hbm e => hf.blk b hbm e.symm, h.apart⟩
  own := fun o ho => ⟨(h.own o ho).1, fun b hbm e => by
    rcases List.mem_cons.1 hbm with rfl | hbm
    · exact hf.own o ho e
    · exact (h.own o ho).2 b hbm e⟩
  ownApart := h.ownApart
  res := fun F hF => ⟨(h.res F hF).1, (h.res F hF).2.1, fun b hbm f => by
    rcases List.mem_cons.1 hbm with rfl | hbm
    · exact hf.res F hF f
    · exact (h.res F hF).2.2.1 b hbm f, (h.res F hF).2.2.2⟩
  resNew := h.resNew
  resApart := h.resApart
/-- Block g holds c or c'. -/
def Either (g T : Nat) (c c' : List Value) (w : World) : Prop := w.heap[g]? = some (.cells c.toArray T (0, 0)) ∨ w.heap[g]? = some (.cells c'.toArray T (0, 0))
theorem Either.keep (h : Either g T c c' w) (hm : Mod (fun _ => False) w w') : Either g T c c' w' := by
  rcases h with h | h
  · exact .inl (hm.blk h (fun f => f))
  · exact .inr (hm.blk h (fun f => f))
structure SXp (P : Program) (n : Nat) (W : World) (R : Rg W) (ops : Array Oper) (L : List Blk) (O : List Own) (E : List Res) (g T : Nat) (c c' : List Value) (k : Nat) (U : List (Nat × ((Nat → Value) → World → Value → Prop))) (f : List (Nat × Value)) (l : List Oper) (Q : Exit → Act → World → Prop) : Prop where
  run : ∀ F : Act, Fr n f F → RS P ops (TP g T c c') (fun w => Loc W R L O E w ∧ Either g T c c' w) Q k l (fun _ => F) U
end
section
variable {P : Program} {n : Nat} {W : World} {R : Rg W} {L L' : List Blk} {O : List Own} {E : List Res} {U : List (Nat × ((Nat → Value) → World → Value → Prop))} {f : List (Nat × Value)} {Q : Exit → Act → World → Prop} {ops : Array Oper} {rest : List Oper} {k g T : Nat} {c c' : List Value}
theorem SX.drawnP {id : Nat} {l : List Oper} (i : Nat) (c' : List Value) (hi : L[i]? = some ⟨g, c, T⟩) (hL : L.eraseIdx i = L') (hm : P.follows .mixedOrders = true) (hc : regOk l.toArray = true) (h : Near W R L' O E g → SXp P n W R l.toArray L' O E g T c c' 0 [] f l Q) : SX P n W R L O E f (.region id l.toArray true) Q := ⟨fun a w hf hl => by
  subst hL
  exact wp_region_rs (fun w' => Loc W R (L.eraseIdx i) O E w' ∧ Either g T c c' w') (TP g T c c') hm hc ⟨(hl.erase).keep ((Mod.refl _ w).drew), .inl ((hl.keep ((Mod.refl _ w).drew)).blk _ (List.mem_iff_getElem?.2 ⟨i, hi⟩)).2⟩ ((h (hl.near hi)).run _ hf)⟩
theorem SXp.v {o : Oper} {v : Value} {d : Nat} (hr : OpW P n W R L O E f o v) (hdst : o.dst = some d) (hw : wantO ops f o = some true) (hd : Nat.blt d n = true) (h : SXp P n W R ops L O E g T c c' (k + 1) U ((d, v) :: f) rest Q) : SXp P n W R ops L O E g T c c' k U f (o :: rest) Q := ⟨fun F hF =>
  RS.val [] (fun _ => v) rfl (fun _ _ _ => rfl) (fun _ => wanted_of hF hw) (fun _ w hS _ => wp_never (hr.run _ w hF hS.1) fun _ _ ⟨h1, h2⟩ => ⟨h1, ⟨hS.1.keep h2, hS.2.keep h2⟩, h2.mono fun _ _ f => f.elim⟩) (by rw [hdst]; exact h.run _ (hF.put hd v))⟩
theorem SXp.no {o : Oper} {d : Nat} (hw : wantO ops f o = some false) (hdst : o.dst = some d) (hd : Nat.blt d n = true) (h : SXp P n W R ops L O E g T c c' (k + 1) U ((d, undef) :: f) rest Q) : SXp P n W R ops L O E g T c c' k U f (o :: rest) Q := ⟨fun F hF =>
  RS.skip (fun _ => wanted_of hF hw) (by rw [hdst]; exact h.run _ (hF.put hd undef))⟩
variable {d m o T' : Nat} {xo yo : Operand} {ty : TypeId} {pos : String} {af : Array Edge} {gd : Option (Nat × Bool)} {v : Value}
theorem SXp.skips {o : Oper} (hf : Near W R L O E g) (hw : wantO ops f o = some true) (hdst : o.dst = none)
    (hrun : ∀ a w, Fr n f a → Either g T c c' w → ∃ w', (execOp a.eval o).run P w = .ok .skip w' ∧ w'.heap[g]? = some (.cells c'.toArray T (0, 0)) ∧ Mod (fun k => k = g) w w')
    (h : SXp P n W R ops L O E g T c c' (k + 1) ((k, PV g T c') :: U) f rest Q) : SXp P n W R ops L O E g T c c' k U f (o :: rest) Q := ⟨fun F hF =>
  RS.newx [] (PV g T c') id (fun _ _ _ _ => rfl) rfl ⟨fun _ _ _ _ h hm => h.keep hm, fun _ _ _ _ _ h => h⟩ (fun _ => wanted_of hF hw) (fun x w hS _ => by
    obtain ⟨w', h1, h2, h3⟩ := hrun F w hF hS.2
    have hT : TP g T c c' w w' := by
      rcases hS.2 with hc | hc
      · exact h3.mono fun k _ e => by subst e; exact ⟨rfl, hc, h2⟩
      · exact ⟨h3.os, h3.tape, h3.output, h3.size, fun k hk hn => by
          by_cases e : k = g
          · subst e; rw [h2, hc]
          · exact h3.block k hk e⟩
    unfold Oper.wp
    rw [h1, Oper.upon_skip, hdst]
    exact ⟨undef, rfl, h2, ⟨Loc.keepP hf hS.1 (fun k hk => hk) h3, .inr h2⟩, hT⟩) (by rw [hdst]; exact h.run _ hF)⟩
theorem SXp.store [TOne P T'] (hf : Near W R L O E g) (hw : wantO ops f ⟨none, .store T' xo yo, ty, pos, af, gd⟩ = some true) (hx : evO f xo = some (.pointer (some ⟨g, o, none⟩))) (hy : evO f yo = some v) (ho : Nat.blt o c.length = true) (hv : v.oneCell' = true) (hc : c.set o v = c')
    (h : SXp P n W R ops L O E g T c c' (k + 1) ((k, PV g T c') :: U) f rest Q) : SXp P n W R ops L O E g T c c' k U f (⟨none, .store T' xo yo, ty, pos, af, gd⟩ :: rest) Q :=
  SXp.skips hf hw rfl (fun a w hF hE => by
    have ho' : o < c.length := by simpa using ho
    have key : ∀ cs : List Value, cs.length = c.length → cs.set o v = c' → w.heap[g]? = some (.cells cs.toArray T (0, 0)) → ∃ w', (execOp a.eval ⟨none, .store T' xo yo, ty, pos, af, gd⟩).run P w = .ok .skip w' ∧ w'.heap[g]? = some (.cells c'.toArray T (0, 0)) ∧ Mod (fun k => k = g) w w' := fun cs hl hs hb => by
      obtain ⟨u, hu⟩ : ∃ u, cs[o]? = some u := ⟨_, List.getElem?_eq_getElem (by omega)⟩
      have h1 : w.cell? ⟨g, o, none⟩ = some u := by simp [World.cell?, hb, hu]
      have h2 : w.frozen? ⟨g, o, none⟩ = false := by simp [World.frozen?, hb]
      refine ⟨w.setCell ⟨g, o, none⟩ v, by simp [execOp, hF.eval hx, hF.eval hy, run_store1 h1 h2 hv], ?_, (Mod.refl _ w).setAt _ _ _⟩
      rw [← hs]
      simp [World.setCell, Array.getElem?_modify, hb]
    rcases hE with hE | hE
    · exact key c rfl hc hE
    · exact key c' (by rw [← hc, List.length_set]) (by rw [← hc, List.set_set]) hE) h
theorem over_over : ∀ (r c : List Value) (o : Nat), over (over c o r) o r = over c o r
  | [], _, _ => rfl
  | v :: r, c, o => by
    have comm : ∀ (r c : List Value) (p q : Nat) (u : Value), q < p → over (c.set q u) p r = (over c p r).set q u := by
      intro r
      induction r with
      | nil => intros; rfl
      | cons y r ih =>
        intro c p q u h
        simp only [over]
        rw [List.set_comm _ _ (by omega), ih _ _ _ _ (by omega)]
    simp only [over]
    rw [comm r _ _ _ _ (Nat.lt_succ_self o), comm r _ _ _ _ (Nat.lt_succ_self o), comm r _ _ _ _ (Nat.lt_succ_self o), over_over r, List.set_set]
theorem over_len : ∀ (r c : List Value) (o : Nat), (over c o r).length = c.length
  | [], _, _ => rfl
  | v :: r, c, o => by simp only [over]; rw [over_len, List.length_set]
theorem SXp.storeRow {r : List Value} [t : TRow P T' m] (hf : Near W R L O E g) (hw : wantO ops f ⟨none, .store T' xo yo, ty, pos, af, gd⟩ = some true) (hx : evO f xo = some (.pointer (some ⟨g, o, none⟩))) (hy : evO f yo = some (.agg r.toArray)) (ho : Nat.ble (o + m) c.length = true) (hm : r.length = m) (hv : r.all (·.oneCell') = true) (hc : over c o r = c')
    (h : SXp P n W R ops L O E g T c c' (k + 1) ((k, PV g T c') :: U) f rest Q) : SXp P n W R ops L O E g T c c' k U f (⟨none, .store T' xo yo, ty, pos, af, gd⟩ :: rest) Q :=
  SXp.skips hf hw rfl (fun a w hF hE => by
    have ho' : o + m ≤ c.length := Nat.le_of_ble_eq_true ho
    obtain ⟨_, h3⟩ := t.h
    have key : ∀ cs : List Value, cs.length = c.length → over cs o r = c' → w.heap[g]? = some (.cells cs.toArray T (0, 0)) → ∃ w', (execOp a.eval ⟨none, .store T' xo yo, ty, pos, af, gd⟩).run P w = .ok .skip w' ∧ w'.heap[g]? = some (.cells c'.toArray T (0, 0)) ∧ Mod (fun k => k = g) w w' := fun cs hl hs hb => by
      have e := run_store_row (P := P) (ty := T') h3 (w := w) (b := g) (o := o) (S := r.toArray) (by simp [hasRow, hb]; omega) (by simp [openRow, hb]) (by simpa using hm) (by simpa using hv)
      refine ⟨w.setCells g o r, by simp [execOp, hF.eval hx, hF.eval hy, e], ?_, mod_setCells g r o w⟩
      rw [setCells_heap g r o w _ _ _ hb, spl_over, hs]
    rcases hE with hE | hE
    · exact key c rfl hc hE
    · exact key c' (by rw [← hc, over_len]) (by rw [← hc, over_over]) hE) h
theorem SXp.nil (ks : Nat) (hf : Near W R L O E g) (hS : (ks, PV g T c') ∈ U) (h : SQ n W R (⟨g, c', T⟩ :: L) O E f .normal Q) : SXp P n W R ops L O E g T c c' k U f [] Q := ⟨fun F hF => RS.done fun x w hSw hU =>
  h.run _ w hF (Loc.addP hf hSw.1 (hU _ hS))⟩
theorem SXp.tail (ks : Nat) (hf : Near W R L O E g) (hS : (ks, PV g T c') ∈ U) (h : SXl P n W R ops (⟨g, c', T⟩ :: L) O E f rest Q) : SXp P n W R ops L O E g T c c' k U f [] (fun _ a w => wpList P ops Q rest a w) := ⟨fun F hF => RS.done fun x w hSw hU =>
  h.run _ w hF (Loc.addP hf hSw.1 (hU _ hS))⟩
end
end Go.Proofs.Ythffgbhphjkdeaa
namespace Go.Proofs.Ythffgbhphjkdeaa
open Go.RowKit
set_option linter.unusedVariables false
set_option linter.unusedSimpArgs false

/-- A new tree and a number. -/
def NewTreeC (r : List Node × Int) (w : World) (e : Ending) (w' : World) : Prop := NewO TreeQ (fun q => .tuple #[q.v, .int .i64 r.2]) TreeQ.os (fun q => bare q.ps = r.1) w e w'
theorem TreeQ.len {q : TreeQ} {l : List Node} (h : bare q.ps = l) : q.ps.length = l.length := by rw [← h, bare_len]

set_option maxRecDepth 100000 in
set_option maxHeartbeats 8000000 in
theorem saddNode_any (l : List Node) (s : Style) (o : Bool) (a : Option Addr) (c : Nat) (R : Nat → Prop) (w : World) (hlen : l.length ≤ 1048576) (hfit : ∀ x ∈ l, x.fits 1048576) (h : NodeSlice o R w a l) :
    Calls Try.prog 38 #[.agg #[.slice a l.length c], .agg s.cells.toArray] w (NewTreeC (addNode l s) w) := by
  have hT := fun w' (hm : Mod (fun _ => False) w w') => streeOk_any l o a c R w' hlen hfit (h.keep hm)
  have hS := fun w => sstyleC_any s w
  refine calls_sx Try.func38 rfl rfl (fun a h1 h2 h3 => ((Fr.nil h1 h2).arg (h3 1 _ rfl)).arg (h3 0 _ rfl)) ?_
  repeat (first | refine qan ?_ | refine qaj ?_ | refine qaf ?_ | refine qad ?_ | (refine qau ?_; (refine qac (qam 2 rfl rfl rfl) rfl ?_ ?_ ?_); rfl; rfl) | (refine qal ?_; (refine qac (qag rfl) rfl ?_ ?_ ?_); rfl; rfl) | (refine qaR ?_; refine SXl.alloc ?_ ?_ (fun g => ?_); rfl; rfl) | (refine l_box ?_; refine qaG ?_ ?_ rfl rfl (fun g => ?_); rfl; rfl))
  refine qat ?_
  refine SXl.callO rfl rfl rfl (fun w' hl => scopyTree_any l o a c R w' hlen hfit (h.keep hl.mod)) (fun q hq => ?_)
  have hql := TreeQ.len hq
  rw [List.append_nil]
  cases hv : treeOk l
  · have e : addNode l s = (l, 0) := by simp [addNode, hv]
    rw [e]
    rw [hv] at hT
    repeat (first | refine qan ?_ | refine qaj ?_ | refine qaf ?_ | refine qad ?_ | refine qaq rfl ?_ | (refine qaS rfl rfl rfl ?_) | (refine qat ?_; (refine qac (qap rfl (fun w hl => hT _ hl.mod)) rfl ?_ ?_ ?_); rfl; rfl) | (refine qau ?_; (first | refine qac (qam 0 rfl rfl rfl) rfl ?_ ?_ ?_ | refine qac (qam 3 rfl rfl rfl) rfl ?_ ?_ ?_); rfl; rfl) | (refine qao ?_; (refine qac (qai rfl) rfl ?_ ?_ ?_); rfl; rfl) | (refine qal ?_; (refine qac (qag rfl) rfl ?_ ?_ ?_); rfl; rfl) | (refine qaT ?_; (refine qac (OpW.not rfl) rfl ?_ ?_ ?_); rfl; rfl) | (refine qaE ?_; (refine qac (qav rfl rfl rfl) rfl ?_ ?_ ?_); rfl; rfl) | (refine qaR ?_; refine SXl.alloc ?_ ?_ (fun g => ?_); rfl; rfl) | (refine qay ?_; first | ((first | refine qah 0 ?_ rfl rfl rfl rfl rfl rfl ?_ | refine qah 1 ?_ rfl rfl rfl rfl rfl rfl ?_ | refine qah 2 ?_ rfl rfl rfl rfl rfl rfl ?_); rfl; simp only [List.set_cons_zero, List.set_cons_succ]) | ((first | refine qaa 0 ?_ rfl rfl rfl rfl rfl rfl rfl ?_ | refine qaa 1 ?_ rfl rfl rfl rfl rfl rfl rfl ?_ | refine qaa 2 ?_ rfl rfl rfl rfl rfl rfl rfl ?_); rfl; simp only [List.set_cons_zero, List.set_cons_succ]) | ((first | refine qab 0 ?_ rfl rfl rfl rfl rfl rfl rfl ?_ | refine qab 1 ?_ rfl rfl rfl rfl rfl rfl rfl ?_ | refine qab 2 ?_ rfl rfl rfl rfl rfl rfl rfl ?_); rfl; simp only [over, List.set_cons_zero, List.set_cons_succ])) | refine qaA ?_ | refine qax ?_)
    refine SQ.bodyCell2 1 rfl rfl rfl rfl rfl (fun w' hl => ⟨q, rfl, hq, hl.owns, hl.mod⟩)
  cases hs : styleOk s
  · have e : addNode l s = (l, 0) := by simp [addNode, hs]
    rw [e]
    rw [hv] at hT
    rw [hs] at hS
    repeat (first | refine qan ?_ | refine qaj ?_ | refine qaf ?_ | refine qad ?_ | refine qaq rfl ?_ | (refine qaS rfl rfl rfl ?_) | (refine qat ?_; (first | refine qac (qap rfl (fun w hl => hT _ hl.mod)) rfl ?_ ?_ ?_ | refine qac (qap rfl (fun w hl => hS _)) rfl ?_ ?_ ?_); rfl; rfl) | (refine qau ?_; (first | refine qac (qam 0 rfl rfl rfl) rfl ?_ ?_ ?_ | refine qac (qam 2 rfl rfl rfl) rfl ?_ ?_ ?_ | refine qac (qam 3 rfl rfl rfl) rfl ?_ ?_ ?_); rfl; rfl) | (refine qao ?_; (refine qac (qai rfl) rfl ?_ ?_ ?_); rfl; rfl) | (refine qal ?_; (refine qac (qag rfl) rfl ?_ ?_ ?_); rfl; rfl) | (refine qaT ?_; (refine qac (OpW.not rfl) rfl ?_ ?_ ?_); rfl; rfl) | (refine qaE ?_; (refine qac (qav rfl rfl rfl) rfl ?_ ?_ ?_); rfl; rfl) | (refine qaR ?_; refine SXl.alloc ?_ ?_ (fun g => ?_); rfl; rfl) | (refine qay ?_; first | ((first | refine qah 0 ?_ rfl rfl rfl rfl rfl rfl ?_ | refine qah 1 ?_ rfl rfl rfl rfl rfl rfl ?_ | refine qah 2 ?_ rfl rfl rfl rfl rfl rfl ?_); rfl; simp only [List.set_cons_zero, List.set_cons_succ]) | ((first | refine qaa 0 ?_ rfl rfl rfl rfl rfl rfl rfl ?_ | refine qaa 1 ?_ rfl rfl rfl rfl rfl rfl rfl ?_ | refine qaa 2 ?_ rfl rfl rfl rfl rfl rfl rfl ?_); rfl; simp only [List.set_cons_zero, List.set_cons_succ]) | ((first | refine qab 0 ?_ rfl rfl rfl rfl rfl rfl rfl ?_ | refine qab 1 ?_ rfl rfl rfl rfl rfl rfl rfl ?_ | refine qab 2 ?_ rfl rfl rfl rfl rfl rfl rfl ?_); rfl; simp only [over, List.set_cons_zero, List.set_cons_succ])) | refine qaA ?_ | refine qax ?_)
    refine SQ.bodyCell2 1 rfl rfl rfl rfl rfl (fun w' hl => ⟨q, rfl, hq, hl.owns, hl.mod⟩)
  rw [hv] at hT
  rw [hs] at hS
  by_cases hn : l.length < 12
  rotate_left
  · have e : addNode l s = (l, 0) := by simp [addNode, hn]
    rw [e]
    repeat (first | refine qan ?_ | refine qaj ?_ | refine qaf ?_ | refine qad ?_ | refine qaq rfl ?_ | (refine qat ?_; (first | refine qac (qap rfl (fun w hl => hT _ hl.mod)) rfl ?_ ?_ ?_ | refine qac (qap rfl (fun w hl => hS _)) rfl ?_ ?_ ?_); rfl; rfl) | (refine qau ?_; (first | refine qac (qaw 3 rfl rfl rfl) rfl ?_ ?_ ?_ | refine qac (qam 0 rfl rfl rfl) rfl ?_ ?_ ?_ | refine qac (qam 2 rfl rfl rfl) rfl ?_ ?_ ?_ | refine qac (qam 3 rfl rfl rfl) rfl ?_ ?_ ?_); rfl; rfl) | (refine qak ?_; (refine qac (qae rfl) rfl ?_ ?_ ?_); rfl; rfl) | (refine qao ?_; (refine qac (qai rfl) rfl ?_ ?_ ?_); rfl; rfl) | (refine qal ?_; (refine qac (qag rfl) rfl ?_ ?_ ?_); rfl; rfl) | (refine l_len ?_; (refine qac (OpW.len rfl) rfl ?_ ?_ ?_); rfl; rfl) | (refine l_geq ?_; (refine qac (OpW.geqT rfl rfl (by omega)) rfl ?_ ?_ ?_); rfl; rfl) | (refine qaT ?_; (refine qac (OpW.not rfl) rfl ?_ ?_ ?_); rfl; rfl) | (refine qaE ?_; (refine qac (qav rfl rfl rfl) rfl ?_ ?_ ?_); rfl; rfl) | (refine qaR ?_; refine SXl.alloc ?_ ?_ (fun g => ?_); rfl; rfl) | (refine qay ?_; first | ((first | refine qah 0 ?_ rfl rfl rfl rfl rfl rfl ?_ | refine qah 1 ?_ rfl rfl rfl rfl rfl rfl ?_ | refine qah 2 ?_ rfl rfl rfl rfl rfl rfl ?_); rfl; simp only [List.set_cons_zero, List.set_cons_succ]) | ((first | refine qaa 0 ?_ rfl rfl rfl rfl rfl rfl rfl ?_ | refine qaa 1 ?_ rfl rfl rfl rfl rfl rfl rfl ?_ | refine qaa 2 ?_ rfl rfl rfl rfl rfl rfl rfl ?_); rfl; simp only [List.set_cons_zero, List.set_cons_succ]) | ((first | refine qab 0 ?_ rfl rfl rfl rfl rfl rfl rfl ?_ | refine qab 1 ?_ rfl rfl rfl rfl rfl rfl rfl ?_ | refine qab 2 ?_ rfl rfl rfl rfl rfl rfl rfl ?_); rfl; simp only [over, List.set_cons_zero, List.set_cons_succ])) | refine qaA ?_ | refine qax ?_)
    refine SQ.bodyCell2 1 rfl rfl rfl rfl rfl (fun w' hl => ⟨q, rfl, hq, hl.owns, hl.mod⟩)
  have e : addNode l s = (l ++ [⟨0, [], s, false, []⟩], (l.length : Int) + 1) := by simp [addNode, hv, hs, hn]
  rw [e]
  repeat (first | refine qan ?_ | refine qaj ?_ | refine qaf ?_ | refine qad ?_ | refine qaC ?_ | refine qas rfl ?_ | (refine qat ?_; (first | refine qac (qap rfl (fun w hl => hT _ hl.mod)) rfl ?_ ?_ ?_ | refine qac (qap rfl (fun w hl => hS _)) rfl ?_ ?_ ?_); rfl; rfl) | (refine l_build ?_; (refine qac ((OpW.build (vals := [(2, .agg s.cells.toArray)]) (cells := rowP (⟨0, [], s, false, []⟩, ⟨none, 0, none, 0⟩)) rfl (by kernel_rfl))) rfl ?_ ?_ ?_); rfl; rfl) | (refine qau ?_; (first | refine qac (qaw 0 rfl rfl rfl) rfl ?_ ?_ ?_ | refine qac (qaw 3 rfl rfl rfl) rfl ?_ ?_ ?_ | refine qac (qam 2 rfl rfl rfl) rfl ?_ ?_ ?_ | refine qac (qam 3 rfl rfl rfl) rfl ?_ ?_ ?_); rfl; rfl) | (refine qak ?_; (refine qac (qae rfl) rfl ?_ ?_ ?_); rfl; rfl) | (refine qao ?_; (refine qac (qai rfl) rfl ?_ ?_ ?_); rfl; rfl) | (refine l_len ?_; (refine qac (OpW.len rfl) rfl ?_ ?_ ?_); rfl; rfl) | (refine l_geq ?_; (refine qac (OpW.geqF rfl rfl (by omega)) rfl ?_ ?_ ?_); rfl; rfl) | (refine qaT ?_; (refine qac (OpW.not rfl) rfl ?_ ?_ ?_); rfl; rfl) | (refine qaE ?_; (refine qac (qav rfl rfl rfl) rfl ?_ ?_ ?_); rfl; rfl) | (refine qaR ?_; refine SXl.alloc ?_ ?_ (fun g => ?_); rfl; rfl) | (refine qay ?_; first | ((first | refine qah 0 ?_ rfl rfl rfl rfl rfl rfl ?_ | refine qah 1 ?_ rfl rfl rfl rfl rfl rfl ?_ | refine qah 2 ?_ rfl rfl rfl rfl rfl rfl ?_); rfl; simp only [List.set_cons_zero, List.set_cons_succ]) | ((first | refine qaa 0 ?_ rfl rfl rfl rfl rfl rfl rfl ?_ | refine qaa 1 ?_ rfl rfl rfl rfl rfl rfl rfl ?_ | refine qaa 2 ?_ rfl rfl rfl rfl rfl rfl rfl ?_); rfl; simp only [List.set_cons_zero, List.set_cons_succ]) | ((first | refine qab 0 ?_ rfl rfl rfl rfl rfl rfl rfl ?_ | refine qab 1 ?_ rfl rfl rfl rfl rfl rfl rfl ?_ | refine qab 2 ?_ rfl rfl rfl rfl rfl rfl rfl ?_); rfl; simp only [over, List.set_cons_zero, List.set_cons_succ])))
  refine qaN ?_
  refine SXl.litRow1 (sz := 64) (r := rowP (⟨0, [], s, false, []⟩, ⟨none, 0, none, 0⟩)) rfl rfl rfl rfl rfl (by decide) (by decide) (fun g5 => ?_)
  skip
  refine l_append ?_
  refine SXl.append 0 0 rfl rfl rfl rfl rfl rfl rfl (rowP_ones _) (by omega) (by omega) (fun a3 c3 => ?_)
  repeat (first | refine qan ?_ | refine qaj ?_ | refine qad ?_ | (refine qak ?_; (refine qac (qae rfl) rfl ?_ ?_ ?_); rfl; rfl) | (refine qay ?_; first | ((first | refine qah 0 ?_ rfl rfl rfl rfl rfl rfl ?_ | refine qah 1 ?_ rfl rfl rfl rfl rfl rfl ?_ | refine qah 2 ?_ rfl rfl rfl rfl rfl rfl ?_); rfl; simp only [List.set_cons_zero, List.set_cons_succ]) | ((first | refine qaa 0 ?_ rfl rfl rfl rfl rfl rfl rfl ?_ | refine qaa 1 ?_ rfl rfl rfl rfl rfl rfl rfl ?_ | refine qaa 2 ?_ rfl rfl rfl rfl rfl rfl rfl ?_); rfl; simp only [List.set_cons_zero, List.set_cons_succ]) | ((first | refine qab 0 ?_ rfl rfl rfl rfl rfl rfl rfl ?_ | refine qab 1 ?_ rfl rfl rfl rfl rfl rfl rfl ?_ | refine qab 2 ?_ rfl rfl rfl rfl rfl rfl rfl ?_); rfl; simp only [over, List.set_cons_zero, List.set_cons_succ])))
  refine SX.drawnP 2 [.slice a3 (q.ps.length + 1) c3] rfl rfl (by kernel_rfl) (by kernel_rfl) (fun hf => ?_)
  repeat (first | (refine SXp.storeRow hf rfl rfl rfl rfl rfl rfl rfl ?_) | (refine SXp.v (qaw 1 rfl rfl rfl) rfl rfl rfl ?_) | (refine SXp.v (qam 1 rfl rfl rfl) rfl rfl rfl ?_) | (refine SXp.v (qae rfl) rfl rfl rfl ?_) | (refine SXp.v (qag rfl) rfl rfl rfl ?_) | (refine SXp.v (OpW.len rfl) rfl rfl rfl ?_))
  refine SXp.nil 4 hf (.head _) ?_
  repeat (first | refine qad ?_ | refine qaA ?_)
  refine SQ.bodyCell2 0 rfl rfl rfl rfl rfl (fun w' hl => ⟨⟨q.ps ++ [(⟨0, [], s, false, []⟩, ⟨none, 0, none, 0⟩)], a3, c3⟩, ?_, ?_, ?_, hl.mod⟩)
  · show _ = Ending.returned (.tuple #[.agg [.slice a3 (q.ps ++ [_]).length c3].toArray, _])
    rw [List.length_append, hql]; rfl
  · show bare (q.ps ++ [_]) = _
    rw [bare, List.map_append, ← hq]; rfl
  · exact (((hl.ownNil 3 1).ownNil 152 3).treePush (x := (⟨0, [], s, false, []⟩, ⟨none, 0, none, 0⟩))).owns
end Go.Proofs.Ythffgbhphjkdeaa
namespace Go.Proofs.Ythffgbhphjkdeaa
open Go.RowKit
set_option linter.unusedVariables false
set_option linter.unusedSimpArgs false

section
variable {P : Program} {n : Nat} {W : World} {R : Rg W} {L : List Blk} {O : List Own} {E : List Res} {f : List (Nat × Value)} {Q : Exit → Act → World → Prop} {ops : Array Oper} {rest : List Oper} {T : TypeId} {xo yo : Operand} {ty : TypeId} {pos : String} {af : Array Edge} {gd : Option (Nat × Bool)} {g k j c : Nat} {ps : List PNode} {x y : PNode}
theorem SXl.know {φ : Prop} (hφ : ∀ w, Loc W R L O E w → φ) (h : φ → SXl P n W R ops L O E f rest Q) : SXl P n W R ops L O E f rest Q := ⟨fun a w hf hl => (h (hφ w hl)).run a w hf hl⟩
theorem SX.know {φ : Prop} {co : Code} (hφ : ∀ w, Loc W R L O E w → φ) (h : φ → SX P n W R L O E f co Q) : SX P n W R L O E f co Q := ⟨fun a w hf hl => (h (hφ w hl)).run a w hf hl⟩
theorem treeO_cell {a : Option Addr} {v : Value} (hx : ps[k]? = some x) (hj : j < 64) (hy : rowP y = (rowP x).set j v) (hk : kidsO y = kidsO x) (hr : rulesO y = rulesO x) :
    (⟨.slice a ps.length c, 86, 64, ps.length, ((ps.map rowP).flatten).set (k * 64 + j) v⟩ :: partsO ps : List Own) = treeO (ps.set k y) a c := by
  unfold treeO
  rw [nodes_set hx hj hy, partsO_same hx hk hr]
theorem treeO_over {a : Option Addr} {r : List Value} (hx : ps[k]? = some x) (hj : j + r.length ≤ 64) (hy : rowP y = over (rowP x) j r) (hk : kidsO y = kidsO x) (hr : rulesO y = rulesO x) :
    (⟨.slice a ps.length c, 86, 64, ps.length, over ((ps.map rowP).flatten) (k * 64 + j) r⟩ :: partsO ps : List Own) = treeO (ps.set k y) a c := by
  unfold treeO
  rw [nodes_over hx hj hy, partsO_same hx hk hr]
theorem rows_len (ps : List PNode) : ((ps.map rowP).flatten).length = ps.length * 64 := flat_length rowP_len ps
theorem row_low (hx : ps[k]? = some x) (hj : j < 64) : k * 64 + j < ((ps.map rowP).flatten).length := by
  rw [rows_len]
  have := (List.getElem?_eq_some_iff.1 hx).1
  omega
/-- One cell of a node is stored. -/
theorem SXl.treeCell {v : Value} [TOne P T] (y : PNode) (hx : ps[k]? = some x) (hw : wantO ops f ⟨none, .store T xo yo, ty, pos, af, gd⟩ = some true) (hp : evO f xo = some (.pointer (some ⟨g, 0 + k * 64 + j, none⟩))) (hv : evO f yo = some v) (h1 : v.oneCell' = true)
    (hj : j < 64) (hy : rowP y = (rowP x).set j v) (hk : kidsO y = kidsO x) (hr : rulesO y = rulesO x)
    (h : SXl P n W R ops L (treeO (ps.set k y) (some ⟨g, 0, none⟩) c ++ O) E f rest Q) : SXl P n W R ops L (treeO ps (some ⟨g, 0, none⟩) c ++ O) E f (⟨none, .store T xo yo, ty, pos, af, gd⟩ :: rest) Q := by
  rw [Nat.zero_add] at hp
  refine SXl.storeOwn (O' := treeO (ps.set k y) (some ⟨g, 0, none⟩) c ++ O) 0 hw hp hv rfl (row_low hx hj) h1 ?_ h
  rw [← treeO_cell hx hj hy hk hr]
  rfl
theorem SXl.treeRow {r : List Value} {m : Nat} [TRow P T m] (y : PNode) (hx : ps[k]? = some x) (hw : wantO ops f ⟨none, .store T xo yo, ty, pos, af, gd⟩ = some true) (hp : evO f xo = some (.pointer (some ⟨g, 0 + k * 64 + j, none⟩))) (hv : evO f yo = some (.agg r.toArray)) (h1 : r.all (·.oneCell') = true)
    (hm : r.length = m) (h0 : 0 < m) (hj : j + m ≤ 64) (hy : rowP y = over (rowP x) j r) (hk : kidsO y = kidsO x) (hr : rulesO y = rulesO x)
    (h : SXl P n W R ops L (treeO (ps.set k y) (some ⟨g, 0, none⟩) c ++ O) E f rest Q) : SXl P n W R ops L (treeO ps (some ⟨g, 0, none⟩) c ++ O) E f (⟨none, .store T xo yo, ty, pos, af, gd⟩ :: rest) Q := by
  rw [Nat.zero_add] at hp
  refine SXl.storeRowOwn (O' := treeO (ps.set k y) (some ⟨g, 0, none⟩) c ++ O) 0 hw hp hv rfl ?_ hm h1 ?_ h
  · have := (List.getElem?_eq_some_iff.1 hx).1
    rw [rows_len]
    omega
  · rw [← treeO_over hx (by omega) hy hk hr]
    rfl
theorem set_perm {α : Type} : ∀ {l : List α} {i : Nat} (hi : i < l.length) (a : α), (l.set i a).Perm (a :: l.eraseIdx i)
  | b :: l, 0, _, a => List.Perm.refl _
  | b :: l, i + 1, hi, a => by
    rw [List.set_cons_succ, List.eraseIdx_cons_succ]
    exact ((set_perm (l := l) (by simpa using hi) a).cons b).trans (List.Perm.swap _ _ _)
theorem own_put {o : Own} {O1 O2 : List Own} {i : Nat} {w : World} (h : Loc W R L (o :: O1 ++ O2) E w) (hi : i < O1.length) : Loc W R L (O1.set i o ++ O2) E w := by
  have h1 : (o :: O1.eraseIdx i ++ O2).Sublist (o :: O1 ++ O2) := ((List.eraseIdx_sublist O1 i).cons_cons o).append_right O2
  exact (h.ownSub h1).ownPerm ((set_perm hi o).append_right O2)
theorem partsO_len (l : List PNode) : (partsO l).length = 2 * l.length := by
  induction l with
  | nil => rfl
  | cons x l ih => rw [partsO_cons, List.length_cons, List.length_cons, List.length_cons, ih]; omega
/-- A node's rules are another list: its slice is the call's own, the node's cell is stored. -/
theorem SXl.treeRules {v : Value} {m : Nat} [TRow P T m] (y : PNode) (hx : ps[k]? = some x) (hw : wantO ops f ⟨none, .store T xo yo, ty, pos, af, gd⟩ = some true) (hp : evO f xo = some (.pointer (some ⟨g, 0 + k * 64 + 63, none⟩))) (hv : evO f yo = some (.agg [v].toArray)) (h1 : v.oneCell' = true) (hm : m = 1)
    (hy : rowP y = (rowP x).set 63 v) (hk : kidsO y = kidsO x)
    (h : SXl P n W R ops L (treeO (ps.set k y) (some ⟨g, 0, none⟩) c ++ O) E f rest Q) : SXl P n W R ops L (rulesO y :: treeO ps (some ⟨g, 0, none⟩) c ++ O) E f (⟨none, .store T xo yo, ty, pos, af, gd⟩ :: rest) Q := by
  rw [Nat.zero_add] at hp
  have hlt := (List.getElem?_eq_some_iff.1 hx).1
  subst hm
  refine SXl.storeRowOwn (O' := rulesO y :: ⟨.slice (some ⟨g, 0, none⟩) ps.length c, 86, 64, ps.length, ((ps.map rowP).flatten).set (k * 64 + 63) v⟩ :: (partsO ps ++ O)) 1 hw hp hv rfl ?_ rfl (by simp [h1]) rfl ⟨fun a w hf hl => h.run a w hf ?_⟩
  · rw [rows_len]
    show _ + 1 ≤ _
    omega
  · unfold treeO
    rw [nodes_set hx (by decide) hy, partsO_setRule hx hk]
    have h2 : Loc W R L (rulesO y :: (⟨.slice (some ⟨g, 0, none⟩) ps.length c, 86, 64, ps.length, ((ps.map rowP).flatten).set (k * 64 + 63) v⟩ :: partsO ps) ++ O) E w := hl
    have h3 := own_put (i := 2 * k + 1 + 1) h2 (by rw [List.length_cons, partsO_len]; omega)
    exact h3
/-- The same for a node's children. -/
theorem SXl.treeKids {v : Value} [TOne P T] (y : PNode) (hx : ps[k]? = some x) (hw : wantO ops f ⟨none, .store T xo yo, ty, pos, af, gd⟩ = some true) (hp : evO f xo = some (.pointer (some ⟨g, 0 + k * 64 + 1, none⟩))) (hv : evO f yo = some v) (h1 : v.oneCell' = true)
    (hy : rowP y = (rowP x).set 1 v) (hr : rulesO y = rulesO x)
    (h : SXl P n W R ops L (treeO (ps.set k y) (some ⟨g, 0, none⟩) c ++ O) E f rest Q) : SXl P n W R ops L (kidsO y :: treeO ps (some ⟨g, 0, none⟩) c ++ O) E f (⟨none, .store T xo yo, ty, pos, af, gd⟩ :: rest) Q := by
  rw [Nat.zero_add] at hp
  have hlt := (List.getElem?_eq_some_iff.1 hx).1
  refine SXl.storeOwn (O' := kidsO y :: ⟨.slice (some ⟨g, 0, none⟩) ps.length c, 86, 64, ps.length, ((ps.map rowP).flatten).set (k * 64 + 1) v⟩ :: (partsO ps ++ O)) 1 hw hp hv rfl ?_ h1 rfl ⟨fun a w hf hl => h.run a w hf ?_⟩
  · exact row_low hx (by decide)
  · unfold treeO
    rw [nodes_set hx (by decide) hy, partsO_setKid hx hr]
    have h2 : Loc W R L (kidsO y :: (⟨.slice (some ⟨g, 0, none⟩) ps.length c, 86, 64, ps.length, ((ps.map rowP).flatten).set (k * 64 + 1) v⟩ :: partsO ps) ++ O) E w := hl
    have h3 := own_put (i := 2 * k + 1) h2 (by rw [List.length_cons, partsO_len]; omega)
    exact h3
theorem SXl.treeCell0 {v : Value} [TOne P T] (y : PNode) (hx : ps[k]? = some x) (hw : wantO ops f ⟨none, .store T xo yo, ty, pos, af, gd⟩ = some true) (hp : evO f xo = some (.pointer (some ⟨g, 0 + k * 64 + j, none⟩))) (hv : evO f yo = some v) (h1 : v.oneCell' = true)
    (hj : j < 64) (hy : rowP y = (rowP x).set j v) (hk : kidsO y = kidsO x) (hr : rulesO y = rulesO x)
    (h : SXl P n W R ops L (treeO (ps.set k y) (some ⟨g, 0, none⟩) c) E f rest Q) : SXl P n W R ops L (treeO ps (some ⟨g, 0, none⟩) c) E f (⟨none, .store T xo yo, ty, pos, af, gd⟩ :: rest) Q := by
  rw [← List.append_nil (treeO ps _ _)]
  rw [← List.append_nil (treeO _ _ _)] at h
  exact SXl.treeCell y hx hw hp hv h1 hj hy hk hr h
theorem SXl.treeRow0 {r : List Value} {m : Nat} [TRow P T m] (y : PNode) (hx : ps[k]? = some x) (hw : wantO ops f ⟨none, .store T xo yo, ty, pos, af, gd⟩ = some true) (hp : evO f xo = some (.pointer (some ⟨g, 0 + k * 64 + j, none⟩))) (hv : evO f yo = some (.agg r.toArray)) (h1 : r.all (·.oneCell') = true)
    (hm : r.length = m) (h0 : 0 < m) (hj : j + m ≤ 64) (hy : rowP y = over (rowP x) j r) (hk : kidsO y = kidsO x) (hr : rulesO y = rulesO x)
    (h : SXl P n W R ops L (treeO (ps.set k y) (some ⟨g, 0, none⟩) c) E f rest Q) : SXl P n W R ops L (treeO ps (some ⟨g, 0, none⟩) c) E f (⟨none, .store T xo yo, ty, pos, af, gd⟩ :: rest) Q := by
  rw [← List.append_nil (treeO ps _ _)]
  rw [← List.append_nil (treeO _ _ _)] at h
  exact SXl.treeRow y hx hw hp hv h1 hm h0 hj hy hk hr h
theorem SXl.treeRules0 {v : Value} {m : Nat} [TRow P T m] (y : PNode) (hx : ps[k]? = some x) (hw : wantO ops f ⟨none, .store T xo yo, ty, pos, af, gd⟩ = some true) (hp : evO f xo = some (.pointer (some ⟨g, 0 + k * 64 + 63, none⟩))) (hv : evO f yo = some (.agg [v].toArray)) (h1 : v.oneCell' = true) (hm : m = 1)
    (hy : rowP y = (rowP x).set 63 v) (hk : kidsO y = kidsO x)
    (h : SXl P n W R ops L (treeO (ps.set k y) (some ⟨g, 0, none⟩) c) E f rest Q) : SXl P n W R ops L (rulesO y :: treeO ps (some ⟨g, 0, none⟩) c) E f (⟨none, .store T xo yo, ty, pos, af, gd⟩ :: rest) Q := by
  rw [← List.append_nil (rulesO y :: treeO ps _ _)]
  rw [← List.append_nil (treeO _ _ _)] at h
  exact SXl.treeRules y hx hw hp hv h1 hm hy hk h
theorem SXl.treeKids0 {v : Value} [TOne P T] (y : PNode) (hx : ps[k]? = some x) (hw : wantO ops f ⟨none, .store T xo yo, ty, pos, af, gd⟩ = some true) (hp : evO f xo = some (.pointer (some ⟨g, 0 + k * 64 + 1, none⟩))) (hv : evO f yo = some v) (h1 : v.oneCell' = true)
    (hy : rowP y = (rowP x).set 1 v) (hr : rulesO y = rulesO x)
    (h : SXl P n W R ops L (treeO (ps.set k y) (some ⟨g, 0, none⟩) c) E f rest Q) : SXl P n W R ops L (kidsO y :: treeO ps (some ⟨g, 0, none⟩) c) E f (⟨none, .store T xo yo, ty, pos, af, gd⟩ :: rest) Q := by
  rw [← List.append_nil (kidsO y :: treeO ps _ _)]
  rw [← List.append_nil (treeO _ _ _)] at h
  exact SXl.treeKids y hx hw hp hv h1 hy hr h
end
end Go.Proofs.Ythffgbhphjkdeaa
namespace Go.Proofs.Ythffgbhphjkdeaa
open Go.RowKit
set_option linter.unusedVariables false
set_option linter.unusedSimpArgs false

def WO {ξ : Type} (v : ξ → Value) (os : ξ → List Own) (K : ξ → Prop) (B : Nat) (w : World) (u : Value) : Prop := ∃ p, u = v p ∧ K p ∧ Owns B w (os p)
theorem WO.keep {ξ : Type} {v : ξ → Value} {os : ξ → List Own} {K : ξ → Prop} {B : Nat} {w w' : World} {u : Value} (h : WO v os K B w u) (hm : Mod (fun _ => False) w w') : WO v os K B w' u := by
  obtain ⟨p, h1, h2, h3⟩ := h
  exact ⟨p, h1, h2, h3.keep hm⟩
section
variable {P : Program} {n : Nat} {W : World} {R : Rg W} {L : List Blk} {O : List Own} {E : List Res} {U : List (Nat × ((Nat → Value) → World → Value → Prop))} {f : (Nat → Value) → List (Nat × Value)} {f0 : List (Nat × Value)} {Q : Exit → Act → World → Prop} {ops : Array Oper} {rest : List Oper} {k B : Nat}
variable {d : Nat} {fn : FuncId} {ars : List Operand} {aT : Array TypeId} {ty : TypeId} {pos : String} {af : Array Edge} {gd : Option (Nat × Bool)}
/-- A call that hands back slices of the call's own. -/
theorem SXw.callO {ξ : Type} {args : List Value} [TFun P fn] (v : ξ → Value) (os : ξ → List Own) (K : ξ → Prop) (hw : ∀ x, wantO ops (f x) ⟨some d, .call ⟨.value (.func fn), ars.toArray, aT⟩, ty, pos, af, gd⟩ = some true) (hd : Nat.blt d n = true) (ha : ∀ x, evL (f x) ars = some args)
    (hc : ∀ w, Loc W R L O E w → Calls P fn args.toArray w (NewO ξ v os K w))
    (h : SXw P n W R ops L O E B (k + 1) ((k, fun _ => WO v os K B) :: U) (fun x => (d, x k) :: f x) rest Q) : SXw P n W R ops L O E B k U f (⟨some d, .call ⟨.value (.func fn), ars.toArray, aT⟩, ty, pos, af, gd⟩ :: rest) Q := ⟨fun F hF =>
  RS.new [] (WO v os K B) id (fun _ _ _ => rfl) rfl (fun _ _ _ h hm => h.keep hm) (fun x => wanted_of (hF x) (hw x)) (fun x w hS _ => by
    unfold Oper.wp
    rw [run_callop (hF x) (ha x) w _ _, Oper.upon_enter]
    refine (hc w hS.1).mono ?_
    rintro e w' ⟨p, rfl, h1, h2, h3⟩
    exact ⟨v p, rfl, ⟨p, rfl, h1, h2.low hS.2⟩, ⟨hS.1.keep h3, Nat.le_trans hS.2 h3.size⟩, h3⟩) (h.run _ fun x => (hF x).put hd _)⟩
/-- An empty slice literal. -/
theorem SXw.lit0 {T e sz by_ : Nat} {z : Value} [t : TSl P T e sz] [te : TEl P e sz by_ z] (hw : ∀ x, wantO ops (f x) ⟨some d, .buildSlice T 0 #[], ty, pos, af, gd⟩ = some true) (hd : Nat.blt d n = true)
    (h : SXw P n W R ops L O E B (k + 1) ((k, fun _ => WO (fun g : Nat => .slice (some ⟨g, 0, none⟩) 0 0) (fun g => [⟨.slice (some ⟨g, 0, none⟩) 0 0, e, sz, 0, []⟩]) (fun _ => True) B) :: U) (fun x => (d, x k) :: f x) rest Q) : SXw P n W R ops L O E B k U f (⟨some d, .buildSlice T 0 #[], ty, pos, af, gd⟩ :: rest) Q := ⟨fun F hF =>
  RS.new [] (WO (fun g : Nat => .slice (some ⟨g, 0, none⟩) 0 0) (fun g => [⟨.slice (some ⟨g, 0, none⟩) 0 0, e, sz, 0, []⟩]) (fun _ => True) B) id (fun _ _ _ => rfl) rfl (fun _ _ _ h hm => h.keep hm) (fun x => wanted_of (hF x) (hw x)) (fun x w hS _ => by
    obtain ⟨i0, q1, q2, q3, q4, q5, q6⟩ := te.h
    have hrun : (execOp (F x).eval ⟨some d, .buildSlice T 0 #[], ty, pos, af, gd⟩).run P w = .ok (.value (.slice (some ⟨w.heap.size, 0, none⟩) 0 0)) (w.alloc (.cells #[] e)) := by
      simp only [execOp, Instr.buildSlice, Sem.run_bind, run_underlying t.h.1, Result.andThen_ok, sizeOf, typeInfo, run_program, q1, Sem.run_pure, q3]
      have e4 : Array.map (fun _ : Nat => (default : Value)) (Array.range 0) = #[] := by simp
      simp [newRow, q1, q2, q3, e4, Instr.fill]
      done
    have hm : Mod (fun _ => False) w (w.alloc (.cells #[] e)) := (Mod.refl _ w).alloc _
    unfold Oper.wp
    rw [hrun, Oper.upon_value]
    refine ⟨_, rfl, ⟨w.heap.size, rfl, trivial, ⟨fun o ho => ?_, List.pairwise_singleton _ _⟩⟩, ⟨hS.1.keep hm, Nat.le_trans hS.2 hm.size⟩, hm⟩
    obtain rfl := List.mem_singleton.1 ho
    have := World.ownsRow_lit (base := B) (e := e) (size := sz) w #[] 0 hS.2 (by unfold maxLen; omega) (by simp)
    simpa using this) (h.run _ fun x => (hF x).put hd _)⟩
/-- append(an empty slice, a slice that is told), in the head: a copy. -/
theorem SXw.append0 {α : Type} {cs : α → List Value} {T e sz by_ c m : Nat} {z : Value} {b : Option Addr} {xo yo : Operand} {K : Nat → Prop} (ka : Nat) (l : List α) [t : TSl P T e sz] [te : TEl P e sz by_ z] (hw : ∀ x, wantO ops (f x) ⟨some d, .call ⟨.builtin .append, #[xo, yo], #[T, T]⟩, ty, pos, af, gd⟩ = some true) (hd : Nat.blt d n = true)
    (hus : ([ka].all fun i => (reach ops ops.size k).contains i) = true) (hA : (ka, fun _ => WO (fun g : Nat => .slice (some ⟨g, 0, none⟩) 0 0) (fun g => [⟨.slice (some ⟨g, 0, none⟩) 0 0, e, sz, 0, []⟩]) K B) ∈ U)
    (hx : ∀ x, evO (f x) xo = some (x ka)) (hy : ∀ x, evO (f x) yo = some (.slice b m c)) (hm : m = l.length) (hc : ∀ x, (cs x).length = sz) (hone : ∀ x, ∀ u ∈ cs x, u.oneCell' = true)
    (hs : ∀ w, Loc W R L O E w → ∃ S, SliceAt (Flat cs) sz S w b l) (h63 : l.length ≤ 9223372036854775807) (hby : l.length * by_ ≤ 140737488355328)
    (h : SXw P n W R ops L O E B (k + 1) ((k, fun _ => WO (fun q : Option Addr × Nat => .slice q.1 l.length q.2) (fun q => [⟨.slice q.1 l.length q.2, e, sz, l.length, (l.map cs).flatten⟩]) (fun _ => True) B) :: U) (fun x => (d, x k) :: f x) rest Q) : SXw P n W R ops L O E B k U f (⟨some d, .call ⟨.builtin .append, #[xo, yo], #[T, T]⟩, ty, pos, af, gd⟩ :: rest) Q := ⟨fun F hF =>
  RS.new [ka] (WO (fun q : Option Addr × Nat => .slice q.1 l.length q.2) (fun q => [⟨.slice q.1 l.length q.2, e, sz, l.length, (l.map cs).flatten⟩]) (fun _ => True) B) id (fun _ _ _ => rfl) hus (fun _ _ _ h hm => h.keep hm) (fun x => wanted_of (hF x) (hw x)) (fun x w hS hK => by
    subst hm
    obtain ⟨i0, q1, q2, q3, q4, q5, q6⟩ := te.h
    obtain ⟨g, hg, _, ho⟩ := hK _ hA List.mem_cons_self
    simp only at hg
    obtain ⟨S, hsl⟩ := hs w hS.1
    have H0 : Sized P T e sz by_ i0 z := ⟨t.h.1, q1, q2, q3, q4, q6⟩
    obtain ⟨a', c', w', hr, h1, h2⟩ := run_copy_own (P := P) H0 q5 hc hone ty (.inr ⟨g, rfl⟩) (ho.row _ List.mem_cons_self) hS.2 hsl (by unfold maxLen; exact h63) hby (c := c)
    have hrun : (execOp (F x).eval ⟨some d, .call ⟨.builtin .append, #[xo, yo], #[T, T]⟩, ty, pos, af, gd⟩).run P w = .ok (.value (.slice a' l.length c')) w' := by
      simp only [execOp, resolve, invoke, builtin, Sem.run_bind, Sem.run_pure, Result.andThen_ok, List.map_toArray, List.map_cons, List.map_nil, (hF x).eval (hx x), (hF x).eval (hy x), hg, hr]
    unfold Oper.wp
    rw [hrun, Oper.upon_value]
    refine ⟨_, rfl, ⟨(a', c'), rfl, trivial, ⟨fun o ho => ?_, List.pairwise_singleton _ _⟩⟩, ⟨hS.1.keep h1, Nat.le_trans hS.2 h1.size⟩, h1⟩
    obtain rfl := List.mem_singleton.1 ho
    exact h2) (h.run _ fun x => (hF x).put hd _)⟩
/-- A value that hangs on what earlier operations gave, of which something is told. -/
theorem SXw.vu {o : Oper} (us : List Nat) (v : (Nat → Value) → Value) (hus : (us.all fun i => (reach ops ops.size k).contains i) = true) (hv : ∀ x y : Nat → Value, (∀ i ∈ us, x i = y i) → v x = v y) (hr : ∀ x w, (∀ u ∈ U, u.1 ∈ us → u.2 x w (x u.1)) → OpW P n W R L O E (f x) o (v x)) (hdst : o.dst = some d) (hw : ∀ x, wantO ops (f x) o = some true) (hd : Nat.blt d n = true) (h : SXw P n W R ops L O E B (k + 1) U (fun x => (d, v x) :: f x) rest Q) : SXw P n W R ops L O E B k U f (o :: rest) Q := ⟨fun F hF =>
  RS.val us v hus hv (fun x => wanted_of (hF x) (hw x)) (fun x w hS hK => wp_never ((hr x w hK).run _ w (hF x) hS.1) fun _ _ ⟨h1, h2⟩ => ⟨h1, ⟨hS.1.keep h2, Nat.le_trans hS.2 h2.size⟩, h2⟩) (by rw [hdst]; exact h.run _ fun x => (hF x).put hd (v x))⟩
/-- A struct of one slice that operation ka handed back. -/
theorem SXw.build1 {T : TypeId} {len : Nat} {xo : Operand} {K : Option Addr × Nat → Prop} {os : Option Addr × Nat → List Own} (ka : Nat) (hus : ([ka].all fun i => (reach ops ops.size k).contains i) = true) (hA : (ka, fun _ => WO (fun q : Option Addr × Nat => .slice q.1 len q.2) os K B) ∈ U)
    (hw : ∀ x, wantO ops (f x) ⟨some d, .build T #[(0, xo)], ty, pos, af, gd⟩ = some true) (hd : Nat.blt d n = true) (hx : ∀ x, evO (f x) xo = some (x ka)) (hb : ∀ (a : Option Addr) (m c : Nat), P.built T [(0, .slice a m c)] = some #[.slice a m c])
    (h : SXw P n W R ops L O E B (k + 1) U (fun x => (d, .agg [x ka].toArray) :: f x) rest Q) : SXw P n W R ops L O E B k U f (⟨some d, .build T #[(0, xo)], ty, pos, af, gd⟩ :: rest) Q :=
  SXw.vu [ka] (fun x => .agg [x ka].toArray) hus (fun x y h => by rw [h ka List.mem_cons_self]) (fun x w hK => by
    obtain ⟨q, hq, _⟩ := hK _ hA List.mem_cons_self
    simp only at hq
    exact OpW.build (parts := [(0, xo)]) (vals := [(0, x ka)]) (cells := [x ka]) (by simp [evP, hx x]) (by rw [hq]; exact hb _ _ _)) rfl hw hd h
theorem SXw.tailO {ξ : Type} {v : ξ → Value} {os : ξ → List Own} {K : ξ → Prop} (ka : Nat) (hf : Far W L O E B) (hA : (ka, fun _ => WO v os K B) ∈ U) (h : ∀ x p, x ka = v p → K p → SXl P n W R ops L (os p ++ O) E (f x) rest Q) : SXw P n W R ops L O E B k U f [] (fun _ a w => wpList P ops Q rest a w) := ⟨fun F hF => RS.done fun x w hS hU => by
  obtain ⟨p, h1, h2, h3⟩ := hU _ hA
  exact (h x p h1 h2).run (F x) w (hF x) (hS.1.addOwns hf h3)⟩
end
end Go.Proofs.Ythffgbhphjkdeaa
namespace Go.Proofs.Ythffgbhphjkdeaa
open Go.RowKit
set_option linter.unusedVariables false
set_option linter.unusedSimpArgs false

theorem pnode_get {q : TreeQ} {l : List Node} {k : Nat} {x : Node} (hq : bare q.ps = l) (hx : l[k]? = some x) : ∃ p : NodeP, q.ps[k]? = some (x, p) := by
  subst hq
  cases h : q.ps[k]? with
  | none => simp [bare, h] at hx
  | some y =>
    simp [bare, h] at hx
    exact ⟨y.2, by rw [← hx]⟩
set_option maxRecDepth 100000 in
set_option maxHeartbeats 8000000 in
theorem ssetTable_any (l : List Node) (n : Int) (r : List Rule) (o : Bool) (a ra : Option Addr) (c rc : Nat) (R R2 : Nat → Prop) (w : World) (hlen : l.length ≤ 1048576) (hfit : ∀ x ∈ l, x.fits 1048576) (h : NodeSlice o R w a l) (hrl : r.length ≤ 1048576) (hr : SliceAt (Flat Rule.cells) 3 R2 w ra r) :
    Calls Try.prog 34 #[.agg #[.slice a l.length c], .int .i64 n, .agg #[.slice ra r.length rc]] w (NewTreeC (setTable l n r) w) := by
  have hT := fun w' (hm : Mod (fun _ => False) w w') => streeOk_any l o a c R w' hlen hfit (h.keep hm)
  have hS := fun w' (hm : Mod (fun _ => False) w w') => stableOk_any r ra rc R2 w' hrl (SliceAt.flatKeep hr hm)
  refine calls_sx Try.func34 rfl rfl (fun a h1 h2 h3 => (((Fr.nil h1 h2).arg (h3 2 _ rfl)).arg (h3 1 _ rfl)).arg (h3 0 _ rfl)) ?_
  repeat (first | refine qan ?_ | refine qaj ?_ | refine qaf ?_ | refine qad ?_ | (refine qau ?_; (refine qac (qam 2 rfl rfl rfl) rfl ?_ ?_ ?_); rfl; rfl) | (refine qal ?_; (refine qac (qag rfl) rfl ?_ ?_ ?_); rfl; rfl) | (refine qaR ?_; refine SXl.alloc ?_ ?_ (fun g => ?_); rfl; rfl) | (refine l_box ?_; refine qaG ?_ ?_ rfl rfl (fun g => ?_); rfl; rfl))
  refine qat ?_
  refine SXl.callO rfl rfl rfl (fun w' hl => scopyTree_any l o a c R w' hlen hfit (h.keep hl.mod)) (fun q hq => ?_)
  have hql := TreeQ.len hq
  rw [List.append_nil]
  cases hv : treeOk l
  · have e : setTable l n r = (l, 1) := by simp [setTable, hv]
    rw [e]
    rw [hv] at hT
    repeat (first | refine qan ?_ | refine qaj ?_ | refine qaf ?_ | refine qad ?_ | refine qaq rfl ?_ | (refine qaS rfl rfl rfl ?_) | (refine qat ?_; (refine qac (qap rfl (fun w hl => hT _ hl.mod)) rfl ?_ ?_ ?_); rfl; rfl) | (refine qau ?_; (first | refine qac (qam 0 rfl rfl rfl) rfl ?_ ?_ ?_ | refine qac (qam 3 rfl rfl rfl) rfl ?_ ?_ ?_); rfl; rfl) | (refine qao ?_; (refine qac (qai rfl) rfl ?_ ?_ ?_); rfl; rfl) | (refine qal ?_; (refine qac (qag rfl) rfl ?_ ?_ ?_); rfl; rfl) | (refine qaT ?_; (refine qac (OpW.not rfl) rfl ?_ ?_ ?_); rfl; rfl) | (refine qaE ?_; (refine qac (qav rfl rfl rfl) rfl ?_ ?_ ?_); rfl; rfl) | (refine qaR ?_; refine SXl.alloc ?_ ?_ (fun g => ?_); rfl; rfl) | (refine qay ?_; first | ((first | refine qah 0 ?_ rfl rfl rfl rfl rfl rfl ?_ | refine qah 1 ?_ rfl rfl rfl rfl rfl rfl ?_ | refine qah 2 ?_ rfl rfl rfl rfl rfl rfl ?_); rfl; simp only [List.set_cons_zero, List.set_cons_succ]) | ((first | refine qaa 0 ?_ rfl rfl rfl rfl rfl rfl rfl ?_ | refine qaa 1 ?_ rfl rfl rfl rfl rfl rfl rfl ?_ | refine qaa 2 ?_ rfl rfl rfl rfl rfl rfl rfl ?_); rfl; simp only [List.set_cons_zero, List.set_cons_succ]) | ((first | refine qab 0 ?_ rfl rfl rfl rfl rfl rfl rfl ?_ | refine qab 1 ?_ rfl rfl rfl rfl rfl rfl rfl ?_ | refine qab 2 ?_ rfl rfl rfl rfl rfl rfl rfl ?_); rfl; simp only [over, List.set_cons_zero, List.set_cons_succ])) | refine qaA ?_ | refine qax ?_)
    refine SQ.bodyCell2 1 rfl rfl rfl rfl rfl (fun w' hl => ⟨q, rfl, hq, hl.owns, hl.mod⟩)
  rw [hv] at hT
  cases hn : inB n 1 l.length
  · have e : setTable l n r = (l, 1) := by simp [setTable, hn]
    rw [e]
    repeat (first | refine qan ?_ | refine qaj ?_ | refine qaf ?_ | refine qad ?_ | refine qaq rfl ?_ | (refine qat ?_; (first | refine qac (qap rfl (fun w hl => hT _ hl.mod)) rfl ?_ ?_ ?_ | refine qac (qap rfl (fun w hl => sisNode_any _ _ _ _ _)) rfl ?_ ?_ ?_); rfl; rfl) | (refine qau ?_; (first | refine qac (qam 0 rfl rfl rfl) rfl ?_ ?_ ?_ | refine qac (qam 3 rfl rfl rfl) rfl ?_ ?_ ?_); rfl; rfl) | (refine qao ?_; (refine qac (qai rfl) rfl ?_ ?_ ?_); rfl; rfl) | (refine qal ?_; (refine qac (qag rfl) rfl ?_ ?_ ?_); rfl; rfl) | (refine qaT ?_; (refine qac (OpW.not rfl) rfl ?_ ?_ ?_); rfl; rfl) | (refine qaE ?_; (refine qac (qav rfl rfl rfl) rfl ?_ ?_ ?_); rfl; rfl) | (refine qaR ?_; refine SXl.alloc ?_ ?_ (fun g => ?_); rfl; rfl) | (refine qay ?_; first | ((first | refine qah 0 ?_ rfl rfl rfl rfl rfl rfl ?_ | refine qah 1 ?_ rfl rfl rfl rfl rfl rfl ?_ | refine qah 2 ?_ rfl rfl rfl rfl rfl rfl ?_); rfl; simp only [List.set_cons_zero, List.set_cons_succ]) | ((first | refine qaa 0 ?_ rfl rfl rfl rfl rfl rfl rfl ?_ | refine qaa 1 ?_ rfl rfl rfl rfl rfl rfl rfl ?_ | refine qaa 2 ?_ rfl rfl rfl rfl rfl rfl rfl ?_); rfl; simp only [List.set_cons_zero, List.set_cons_succ]) | ((first | refine qab 0 ?_ rfl rfl rfl rfl rfl rfl rfl ?_ | refine qab 1 ?_ rfl rfl rfl rfl rfl rfl rfl ?_ | refine qab 2 ?_ rfl rfl rfl rfl rfl rfl rfl ?_); rfl; simp only [over, List.set_cons_zero, List.set_cons_succ])) | (rw [hn]) | refine qaA ?_ | refine qax ?_)
    refine SQ.bodyCell2 1 rfl rfl rfl rfl rfl (fun w' hl => ⟨q, rfl, hq, hl.owns, hl.mod⟩)
  obtain ⟨k, x, rfl, hk, hx, hnx⟩ := node_get hn
  obtain ⟨p, hp⟩ := pnode_get hq hx
  obtain ⟨b1, o1, x1, r1, rfl, hR1, hb1, hxk, hr1, hl1, hc1⟩ := h.get hk
  obtain rfl : x1 = x := Option.some.inj (hxk.out.symm.trans hx)
  obtain ⟨ka, kc, rra, rrc, rfl, hk1, ht1, _⟩ := hr1
  obtain ⟨ps, qa, qc⟩ := q
  simp only at hq hql hp
  refine SXl.know (fun w hl => tree_addr (l := ps) (a := qa) (c := qc) hl.owns (by omega)) (fun ⟨gt, hgt⟩ => ?_)
  subst hgt
  have hkp : k < ps.length := by omega
  by_cases hr0 : r.length = 0
  · have hre : r = [] := List.eq_nil_of_length_eq_zero hr0
    have e : setTable l ((k + 1 : Nat) : Int) r = (putTable l ((k + 1 : Nat) : Int) r, 0) := by simp only [setTable, hv, hn, hre]; rfl
    rw [e]
    repeat (first | refine qan ?_ | refine qaj ?_ | refine qaf ?_ | refine qad ?_ | refine qaC ?_ | refine qas rfl ?_ | (refine qaS rfl rfl rfl ?_) | (refine qat ?_; (first | refine qac (qap rfl (fun w hl => hT _ hl.mod)) rfl ?_ ?_ ?_ | refine qac (qap rfl (fun w hl => sisNode_any _ _ _ _ _)) rfl ?_ ?_ ?_); rfl; rfl) | (refine qaM ?_; (refine qac ((qaJ (i := k) hkp rfl (congrArg (fun i : Int => some (Value.int .i64 i)) (by omega : ((k + 1 : Nat) : Int) - 1 = (k : Int))))) rfl ?_ ?_ ?_); rfl; rfl) | (refine qau ?_; (first | refine qac (qaw 0 rfl rfl rfl) rfl ?_ ?_ ?_ | refine qac (qaw 2 rfl rfl rfl) rfl ?_ ?_ ?_ | refine qac (qam 3 rfl rfl rfl) rfl ?_ ?_ ?_); rfl; rfl) | (refine qak ?_; (refine qac (qae rfl) rfl ?_ ?_ ?_); rfl; rfl) | (refine qao ?_; (refine qac (qai rfl) rfl ?_ ?_ ?_); rfl; rfl) | (refine l_len ?_; (refine qac (OpW.len rfl) rfl ?_ ?_ ?_); rfl; rfl) | (refine l_gtr ?_; (refine qac (OpW.gtrF rfl rfl (by omega)) rfl ?_ ?_ ?_); rfl; rfl) | (refine qaT ?_; (refine qac (OpW.not rfl) rfl ?_ ?_ ?_); rfl; rfl) | (refine l_sub ?_; (refine qac (OpW.subi rfl rfl (by omega) (by omega)) rfl ?_ ?_ ?_); rfl; rfl) | (refine qaE ?_; (refine qac (qav rfl rfl rfl) rfl ?_ ?_ ?_); rfl; rfl) | (refine qaR ?_; refine SXl.alloc ?_ ?_ (fun g => ?_); rfl; rfl) | (refine qay ?_; first | ((first | refine qah 0 ?_ rfl rfl rfl rfl rfl rfl ?_ | refine qah 1 ?_ rfl rfl rfl rfl rfl rfl ?_ | refine qah 2 ?_ rfl rfl rfl rfl rfl rfl ?_); rfl; simp only [List.set_cons_zero, List.set_cons_succ]) | ((first | refine qaa 0 ?_ rfl rfl rfl rfl rfl rfl rfl ?_ | refine qaa 1 ?_ rfl rfl rfl rfl rfl rfl rfl ?_ | refine qaa 2 ?_ rfl rfl rfl rfl rfl rfl rfl ?_); rfl; simp only [List.set_cons_zero, List.set_cons_succ]) | ((first | refine qab 0 ?_ rfl rfl rfl rfl rfl rfl rfl ?_ | refine qab 1 ?_ rfl rfl rfl rfl rfl rfl rfl ?_ | refine qab 2 ?_ rfl rfl rfl rfl rfl rfl rfl ?_); rfl; simp only [over, List.set_cons_zero, List.set_cons_succ])) | (rw [hn]))
    refine SXl.treeCell0 (c := qc) ({ x1 with measured := false }, p) hp rfl rfl rfl rfl (by decide) rfl rfl rfl ?_
    repeat (first | refine qan ?_ | refine qaj ?_ | refine qad ?_)
    have hkp' : k < (ps.set k ({ x1 with measured := false }, p)).length := by rw [List.length_set]; exact hkp
    refine SX.drawnWT 9 (by kernel_rfl) (by kernel_rfl) (by kernel_rfl) (fun B hf => ?_)
    repeat (first | (refine SXw.lit0 (fun _ => rfl) rfl ?_) | (refine SXw.append0 (cs := Rule.cells) 4 r (fun _ => rfl) rfl (by kernel_rfl) (.head _) (fun _ => rfl) (fun _ => rfl) rfl (fun _ => rfl) rule_one1 (fun w hl => ⟨_, SliceAt.flatKeep hr hl.mod⟩) (by omega) (by omega) ?_) | (refine SXw.build1 7 (by kernel_rfl) (.head _) (fun _ => rfl) rfl (fun _ => rfl) (fun _ _ _ => by kernel_rfl) ?_) | (refine SXw.v (fun _ => (qaw 0 rfl rfl rfl)) rfl (fun _ => rfl) rfl ?_) | (refine SXw.v (fun _ => (qaw 2 rfl rfl rfl)) rfl (fun _ => rfl) rfl ?_) | (refine SXw.v (fun _ => (qae rfl)) rfl (fun _ => rfl) rfl ?_) | (refine SXw.v (fun _ => (qai rfl)) rfl (fun _ => rfl) rfl ?_) | (refine SXw.v (fun _ => (OpW.subi rfl rfl (by omega) (by omega))) rfl (fun _ => rfl) rfl ?_))
    refine SXw.tailO 7 hf (.head _) (fun xq pq hxq _ => ?_)
    simp only [hxq]
    repeat (first | (refine qaM ?_; (refine qac ((qaJ (i := k) hkp rfl (congrArg (fun i : Int => some (Value.int .i64 i)) (by omega : ((k + 1 : Nat) : Int) - 1 = (k : Int))))) rfl ?_ ?_ ?_); rfl; rfl) | (refine qak ?_; (refine qac (qae rfl) rfl ?_ ?_ ?_); rfl; rfl))
    refine SXl.treeRules0 (c := qc) ({ x1 with measured := false, rules := r }, { p with ra := pq.1, rc := pq.2 }) (List.getElem?_set_self hkp) rfl rfl rfl rfl rfl rfl rfl ?_
    repeat (first | refine qan ?_ | refine qaj ?_ | refine qaf ?_ | refine qad ?_ | (refine qau ?_; (refine qac (qam 0 rfl rfl rfl) rfl ?_ ?_ ?_); rfl; rfl) | (refine qal ?_; (refine qac (qag rfl) rfl ?_ ?_ ?_); rfl; rfl) | (refine qay ?_; first | ((first | refine qah 0 ?_ rfl rfl rfl rfl rfl rfl ?_ | refine qah 1 ?_ rfl rfl rfl rfl rfl rfl ?_ | refine qah 2 ?_ rfl rfl rfl rfl rfl rfl ?_); rfl; simp only [List.set_cons_zero, List.set_cons_succ]) | ((first | refine qaa 0 ?_ rfl rfl rfl rfl rfl rfl rfl ?_ | refine qaa 1 ?_ rfl rfl rfl rfl rfl rfl rfl ?_ | refine qaa 2 ?_ rfl rfl rfl rfl rfl rfl rfl ?_); rfl; simp only [List.set_cons_zero, List.set_cons_succ]) | ((first | refine qab 0 ?_ rfl rfl rfl rfl rfl rfl rfl ?_ | refine qab 1 ?_ rfl rfl rfl rfl rfl rfl rfl ?_ | refine qab 2 ?_ rfl rfl rfl rfl rfl rfl rfl ?_); rfl; simp only [over, List.set_cons_zero, List.set_cons_succ])) | refine qaA ?_)
    refine SQ.bodyCell2 1 rfl rfl rfl rfl rfl (fun w' hl => ⟨⟨(ps.set k ({ x1 with measured := false }, p)).set k ({ x1 with measured := false, rules := r }, { p with ra := pq.1, rc := pq.2 }), some ⟨gt, 0, none⟩, qc⟩, ?_, ?_, hl.owns, hl.mod⟩)
    · simp [TreeQ.v, List.length_set]
    · show bare _ = putTable l _ r
      rw [bare_set, bare_set, hq, List.set_set]
      unfold putTable
      rw [hnx, show (((k + 1 : Nat) : Int) - 1).toNat = k by omega, hre]
      rfl
  · have hrne : r ≠ [] := fun e => hr0 (by rw [e]; rfl)
    cases ht : tableOk r
    · have e : setTable l ((k + 1 : Nat) : Int) r = (l, 6) := by simp only [setTable, hv, hn, ht, decide_eq_true hrne]; rfl
      rw [e]
      rw [ht] at hS
      repeat (first | refine qan ?_ | refine qaj ?_ | refine qaf ?_ | refine qad ?_ | refine qaC ?_ | refine qaq rfl ?_ | refine qas rfl ?_ | (refine qaS rfl rfl rfl ?_) | (refine qat ?_; (first | refine qac (qap rfl (fun w hl => hT _ hl.mod)) rfl ?_ ?_ ?_ | refine qac (qap rfl (fun w hl => sisNode_any _ _ _ _ _)) rfl ?_ ?_ ?_ | refine qac (qap rfl (fun w hl => hS _ hl.mod)) rfl ?_ ?_ ?_); rfl; rfl) | (refine qau ?_; (first | refine qac (qaw 2 rfl rfl rfl) rfl ?_ ?_ ?_ | refine qac (qam 0 rfl rfl rfl) rfl ?_ ?_ ?_ | refine qac (qam 2 rfl rfl rfl) rfl ?_ ?_ ?_ | refine qac (qam 3 rfl rfl rfl) rfl ?_ ?_ ?_); rfl; rfl) | (refine qak ?_; (refine qac (qae rfl) rfl ?_ ?_ ?_); rfl; rfl) | (refine qao ?_; (refine qac (qai rfl) rfl ?_ ?_ ?_); rfl; rfl) | (refine qal ?_; (refine qac (qag rfl) rfl ?_ ?_ ?_); rfl; rfl) | (refine l_len ?_; (refine qac (OpW.len rfl) rfl ?_ ?_ ?_); rfl; rfl) | (refine l_gtr ?_; (refine qac (OpW.gtrT rfl rfl (by omega)) rfl ?_ ?_ ?_); rfl; rfl) | (refine qaT ?_; (refine qac (OpW.not rfl) rfl ?_ ?_ ?_); rfl; rfl) | (refine qaE ?_; (refine qac (qav rfl rfl rfl) rfl ?_ ?_ ?_); rfl; rfl) | (refine qaR ?_; refine SXl.alloc ?_ ?_ (fun g => ?_); rfl; rfl) | (refine qay ?_; first | ((first | refine qah 0 ?_ rfl rfl rfl rfl rfl rfl ?_ | refine qah 1 ?_ rfl rfl rfl rfl rfl rfl ?_ | refine qah 2 ?_ rfl rfl rfl rfl rfl rfl ?_); rfl; simp only [List.set_cons_zero, List.set_cons_succ]) | ((first | refine qaa 0 ?_ rfl rfl rfl rfl rfl rfl rfl ?_ | refine qaa 1 ?_ rfl rfl rfl rfl rfl rfl rfl ?_ | refine qaa 2 ?_ rfl rfl rfl rfl rfl rfl rfl ?_); rfl; simp only [List.set_cons_zero, List.set_cons_succ]) | ((first | refine qab 0 ?_ rfl rfl rfl rfl rfl rfl rfl ?_ | refine qab 1 ?_ rfl rfl rfl rfl rfl rfl rfl ?_ | refine qab 2 ?_ rfl rfl rfl rfl rfl rfl rfl ?_); rfl; simp only [over, List.set_cons_zero, List.set_cons_succ])) | (rw [hn]) | refine qaA ?_ | refine qax ?_)
      refine SQ.bodyCell2 1 rfl rfl rfl rfl rfl (fun w' hl => ⟨⟨ps, _, qc⟩, rfl, hq, hl.owns, hl.mod⟩)
    rw [ht] at hS
    by_cases hk0 : x1.kids.length = 0
    rotate_left
    · have hkne : x1.kids ≠ [] := fun e => hk0 (by rw [e]; rfl)
      have e : setTable l ((k + 1 : Nat) : Int) r = (l, 6) := by simp only [setTable, hv, hn, ht, decide_eq_true hrne, hnx, decide_eq_true hkne]; rfl
      rw [e]
      repeat (first | refine qan ?_ | refine qaj ?_ | refine qaf ?_ | refine qad ?_ | refine qaC ?_ | refine qaq rfl ?_ | refine qas rfl ?_ | (refine qat ?_; (first | refine qac (qap rfl (fun w hl => hT _ hl.mod)) rfl ?_ ?_ ?_ | refine qac (qap rfl (fun w hl => sisNode_any _ _ _ _ _)) rfl ?_ ?_ ?_ | refine qac (qap rfl (fun w hl => hS _ hl.mod)) rfl ?_ ?_ ?_ | refine qac (qap rfl (fun w hl => snode_any _ _ _ _ k _ _ _ _ _ _ _ _ _ w (by omega) hk (fun j v hv => hl.old (hc1 j v hv) (fun h => h)))) rfl ?_ ?_ ?_); rfl; rfl) | (refine l_field ?_; (refine qac (OpW.field rfl (nodeRow_a1 _ _ _ _ _ _ _ _ _)) rfl ?_ ?_ ?_); rfl; rfl) | (refine qau ?_; (first | refine qac (qaw 2 rfl rfl rfl) rfl ?_ ?_ ?_ | refine qac (qam 0 rfl rfl rfl) rfl ?_ ?_ ?_ | refine qac (qam 2 rfl rfl rfl) rfl ?_ ?_ ?_ | refine qac (qam 3 rfl rfl rfl) rfl ?_ ?_ ?_); rfl; rfl) | (refine qak ?_; (refine qac (qae rfl) rfl ?_ ?_ ?_); rfl; rfl) | (refine qao ?_; (refine qac (qai rfl) rfl ?_ ?_ ?_); rfl; rfl) | (refine qal ?_; (refine qac (qag rfl) rfl ?_ ?_ ?_); rfl; rfl) | (refine l_len ?_; (refine qac (OpW.len rfl) rfl ?_ ?_ ?_); rfl; rfl) | (refine l_gtr ?_; (refine qac (OpW.gtrT rfl rfl (by omega)) rfl ?_ ?_ ?_); rfl; rfl) | (refine qaT ?_; (refine qac (OpW.not rfl) rfl ?_ ?_ ?_); rfl; rfl) | (refine qaE ?_; (refine qac (qav rfl rfl rfl) rfl ?_ ?_ ?_); rfl; rfl) | (refine qaR ?_; refine SXl.alloc ?_ ?_ (fun g => ?_); rfl; rfl) | (refine qay ?_; first | ((first | refine qah 0 ?_ rfl rfl rfl rfl rfl rfl ?_ | refine qah 1 ?_ rfl rfl rfl rfl rfl rfl ?_ | refine qah 2 ?_ rfl rfl rfl rfl rfl rfl ?_); rfl; simp only [List.set_cons_zero, List.set_cons_succ]) | ((first | refine qaa 0 ?_ rfl rfl rfl rfl rfl rfl rfl ?_ | refine qaa 1 ?_ rfl rfl rfl rfl rfl rfl rfl ?_ | refine qaa 2 ?_ rfl rfl rfl rfl rfl rfl rfl ?_); rfl; simp only [List.set_cons_zero, List.set_cons_succ]) | ((first | refine qab 0 ?_ rfl rfl rfl rfl rfl rfl rfl ?_ | refine qab 1 ?_ rfl rfl rfl rfl rfl rfl rfl ?_ | refine qab 2 ?_ rfl rfl rfl rfl rfl rfl rfl ?_); rfl; simp only [over, List.set_cons_zero, List.set_cons_succ])) | (rw [hn]) | refine qaA ?_ | refine qax ?_)
      refine SQ.bodyCell2 1 rfl rfl rfl rfl rfl (fun w' hl => ⟨⟨ps, _, qc⟩, rfl, hq, hl.owns, hl.mod⟩)
    have hke : x1.kids = [] := List.eq_nil_of_length_eq_zero hk0
    have e : setTable l ((k + 1 : Nat) : Int) r = (putTable l ((k + 1 : Nat) : Int) r, 0) := by simp only [setTable, hv, hn, ht, decide_eq_true hrne, hnx, hke]; rfl
    rw [e]
    repeat (first | refine qan ?_ | refine qaj ?_ | refine qaf ?_ | refine qad ?_ | refine qaC ?_ | refine qas rfl ?_ | (refine qat ?_; (first | refine qac (qap rfl (fun w hl => hT _ hl.mod)) rfl ?_ ?_ ?_ | refine qac (qap rfl (fun w hl => sisNode_any _ _ _ _ _)) rfl ?_ ?_ ?_ | refine qac (qap rfl (fun w hl => hS _ hl.mod)) rfl ?_ ?_ ?_ | refine qac (qap rfl (fun w hl => snode_any _ _ _ _ k _ _ _ _ _ _ _ _ _ w (by omega) hk (fun j v hv => hl.old (hc1 j v hv) (fun h => h)))) rfl ?_ ?_ ?_); rfl; rfl) | (refine l_field ?_; (refine qac (OpW.field rfl (nodeRow_a1 _ _ _ _ _ _ _ _ _)) rfl ?_ ?_ ?_); rfl; rfl) | (refine qaM ?_; (refine qac ((qaJ (i := k) hkp rfl (congrArg (fun i : Int => some (Value.int .i64 i)) (by omega : ((k + 1 : Nat) : Int) - 1 = (k : Int))))) rfl ?_ ?_ ?_); rfl; rfl) | (refine qau ?_; (first | refine qac (qaw 0 rfl rfl rfl) rfl ?_ ?_ ?_ | refine qac (qaw 2 rfl rfl rfl) rfl ?_ ?_ ?_ | refine qac (qam 2 rfl rfl rfl) rfl ?_ ?_ ?_ | refine qac (qam 3 rfl rfl rfl) rfl ?_ ?_ ?_); rfl; rfl) | (refine qak ?_; (refine qac (qae rfl) rfl ?_ ?_ ?_); rfl; rfl) | (refine qao ?_; (refine qac (qai rfl) rfl ?_ ?_ ?_); rfl; rfl) | (refine l_len ?_; (refine qac (OpW.len rfl) rfl ?_ ?_ ?_); rfl; rfl) | (refine l_gtr ?_; (first | refine qac (OpW.gtrT rfl rfl (by omega)) rfl ?_ ?_ ?_ | refine qac (OpW.gtrF rfl rfl (by omega)) rfl ?_ ?_ ?_); rfl; rfl) | (refine qaT ?_; (refine qac (OpW.not rfl) rfl ?_ ?_ ?_); rfl; rfl) | (refine l_sub ?_; (refine qac (OpW.subi rfl rfl (by omega) (by omega)) rfl ?_ ?_ ?_); rfl; rfl) | (refine qaE ?_; (refine qac (qav rfl rfl rfl) rfl ?_ ?_ ?_); rfl; rfl) | (refine qaR ?_; refine SXl.alloc ?_ ?_ (fun g => ?_); rfl; rfl) | (refine qay ?_; first | ((first | refine qah 0 ?_ rfl rfl rfl rfl rfl rfl ?_ | refine qah 1 ?_ rfl rfl rfl rfl rfl rfl ?_ | refine qah 2 ?_ rfl rfl rfl rfl rfl rfl ?_); rfl; simp only [List.set_cons_zero, List.set_cons_succ]) | ((first | refine qaa 0 ?_ rfl rfl rfl rfl rfl rfl rfl ?_ | refine qaa 1 ?_ rfl rfl rfl rfl rfl rfl rfl ?_ | refine qaa 2 ?_ rfl rfl rfl rfl rfl rfl rfl ?_); rfl; simp only [List.set_cons_zero, List.set_cons_succ]) | ((first | refine qab 0 ?_ rfl rfl rfl rfl rfl rfl rfl ?_ | refine qab 1 ?_ rfl rfl rfl rfl rfl rfl rfl ?_ | refine qab 2 ?_ rfl rfl rfl rfl rfl rfl rfl ?_); rfl; simp only [over, List.set_cons_zero, List.set_cons_succ])) | (rw [hn]))
    refine SXl.treeCell0 (c := qc) ({ x1 with measured := true }, p) hp rfl rfl rfl rfl (by decide) rfl rfl rfl ?_
    repeat (first | refine qan ?_ | refine qaj ?_ | refine qad ?_)
    have hkp' : k < (ps.set k ({ x1 with measured := true }, p)).length := by rw [List.length_set]; exact hkp
    refine SX.drawnWT 9 (by kernel_rfl) (by kernel_rfl) (by kernel_rfl) (fun B hf => ?_)
    repeat (first | (refine SXw.lit0 (fun _ => rfl) rfl ?_) | (refine SXw.append0 (cs := Rule.cells) 4 r (fun _ => rfl) rfl (by kernel_rfl) (.head _) (fun _ => rfl) (fun _ => rfl) rfl (fun _ => rfl) rule_one1 (fun w hl => ⟨_, SliceAt.flatKeep hr hl.mod⟩) (by omega) (by omega) ?_) | (refine SXw.build1 7 (by kernel_rfl) (.head _) (fun _ => rfl) rfl (fun _ => rfl) (fun _ _ _ => by kernel_rfl) ?_) | (refine SXw.v (fun _ => (qaw 0 rfl rfl rfl)) rfl (fun _ => rfl) rfl ?_) | (refine SXw.v (fun _ => (qaw 2 rfl rfl rfl)) rfl (fun _ => rfl) rfl ?_) | (refine SXw.v (fun _ => (qae rfl)) rfl (fun _ => rfl) rfl ?_) | (refine SXw.v (fun _ => (qai rfl)) rfl (fun _ => rfl) rfl ?_) | (refine SXw.v (fun _ => (OpW.subi rfl rfl (by omega) (by omega))) rfl (fun _ => rfl) rfl ?_))
    refine SXw.tailO 7 hf (.head _) (fun xq pq hxq _ => ?_)
    simp only [hxq]
    repeat (first | (refine qaM ?_; (refine qac ((qaJ (i := k) hkp rfl (congrArg (fun i : Int => some (Value.int .i64 i)) (by omega : ((k + 1 : Nat) : Int) - 1 = (k : Int))))) rfl ?_ ?_ ?_); rfl; rfl) | (refine qak ?_; (refine qac (qae rfl) rfl ?_ ?_ ?_); rfl; rfl))
    refine SXl.treeRules0 (c := qc) ({ x1 with measured := true, rules := r }, { p with ra := pq.1, rc := pq.2 }) (List.getElem?_set_self hkp) rfl rfl rfl rfl rfl rfl rfl ?_
    repeat (first | refine qan ?_ | refine qaj ?_ | refine qaf ?_ | refine qad ?_ | (refine qau ?_; (refine qac (qam 0 rfl rfl rfl) rfl ?_ ?_ ?_); rfl; rfl) | (refine qal ?_; (refine qac (qag rfl) rfl ?_ ?_ ?_); rfl; rfl) | (refine qay ?_; first | ((first | refine qah 0 ?_ rfl rfl rfl rfl rfl rfl ?_ | refine qah 1 ?_ rfl rfl rfl rfl rfl rfl ?_ | refine qah 2 ?_ rfl rfl rfl rfl rfl rfl ?_); rfl; simp only [List.set_cons_zero, List.set_cons_succ]) | ((first | refine qaa 0 ?_ rfl rfl rfl rfl rfl rfl rfl ?_ | refine qaa 1 ?_ rfl rfl rfl rfl rfl rfl rfl ?_ | refine qaa 2 ?_ rfl rfl rfl rfl rfl rfl rfl ?_); rfl; simp only [List.set_cons_zero, List.set_cons_succ]) | ((first | refine qab 0 ?_ rfl rfl rfl rfl rfl rfl rfl ?_ | refine qab 1 ?_ rfl rfl rfl rfl rfl rfl rfl ?_ | refine qab 2 ?_ rfl rfl rfl rfl rfl rfl rfl ?_); rfl; simp only [over, List.set_cons_zero, List.set_cons_succ])) | refine qaA ?_)
    refine SQ.bodyCell2 1 rfl rfl rfl rfl rfl (fun w' hl => ⟨⟨(ps.set k ({ x1 with measured := true }, p)).set k ({ x1 with measured := true, rules := r }, { p with ra := pq.1, rc := pq.2 }), some ⟨gt, 0, none⟩, qc⟩, ?_, ?_, hl.owns, hl.mod⟩)
    · simp [TreeQ.v, List.length_set]
    · show bare _ = putTable l _ r
      rw [bare_set, bare_set, hq, List.set_set]
      unfold putTable
      rw [hnx, show (((k + 1 : Nat) : Int) - 1).toNat = k by omega, decide_eq_true hrne]
end Go.Proofs.Ythffgbhphjkdeaa
namespace Go.Proofs.Ythffgbhphjkdeaa
open Go.RowKit
set_option linter.unusedVariables false
set_option linter.unusedSimpArgs false

theorem isUnder_step {l : List Node} (hv : treeOk l = true) {n top : Int} (hn : inB n 1 l.length = true) : isUnder l n top = if (nodeAt l n).up = top then inB top 1 l.length else isUnder l (nodeAt l n).up top := by
  by_cases h0 : (nodeAt l n).up = 0
  · rw [isUnder_root h0, h0]
    split
    · rename_i e; subst e; rfl
    · rw [isUnder_out2 (by rfl)]
  · cases ht : inB top 1 l.length
    · rw [isUnder_out ht]
      split
      · rfl
      · rw [isUnder_out ht]
    · rw [isUnder_up hv hn ht h0]
      split
      · rename_i e; rw [decide_eq_true e]; rfl
      · rename_i e; rw [decide_eq_false e]; rfl
/-- Where a walk up stands: at a node, with steps left; or beyond the root. -/
def UpAt (l : List Node) (n0 top : Int) (k : Nat) (n : Int) : Prop :=
  (inB n 1 l.length = true ∧ (k : Int) + dep l n ≤ l.length ∧ isUnder l n0 top = isUnder l n top) ∨ (inB n 1 l.length = false ∧ isUnder l n0 top = false)
theorem UpAt.start {l : List Node} (hv : treeOk l = true) (n top : Int) : UpAt l n top 0 n := by
  cases hn : inB n 1 l.length
  · exact .inr ⟨hn, isUnder_out2 hn⟩
  · have := ok_dep hv hn
    exact .inl ⟨hn, by omega, rfl⟩
theorem UpAt.next {l : List Node} (hv : treeOk l = true) {n0 top n : Int} {k : Nat} (h : UpAt l n0 top k n) (hn : inB n 1 l.length = true) (ht : (nodeAt l n).up ≠ top) : UpAt l n0 top (k + 1) (nodeAt l n).up := by
  rcases h with ⟨_, h2, h3⟩ | ⟨h1, _⟩
  · rw [isUnder_step hv hn, if_neg ht] at h3
    by_cases h0 : (nodeAt l n).up = 0
    · rw [h0] at h3 ⊢
      refine .inr ⟨rfl, ?_⟩
      rw [h3, isUnder_out2 rfl]
    · obtain ⟨q1, q2, q3⟩ := (ok_deep hv).next n hn h0
      have := ok_dep hv hn
      have := ok_dep hv q1
      exact .inl ⟨q1, by omega, h3⟩
  · rw [hn] at h1; cases h1
theorem UpAt.here {l : List Node} (hv : treeOk l = true) {n0 top n : Int} {k : Nat} (h : UpAt l n0 top k n) (hn : inB n 1 l.length = true) (ht : (nodeAt l n).up = top) : isUnder l n0 top = inB top 1 l.length := by
  rcases h with ⟨_, h2, h3⟩ | ⟨h1, _⟩
  · rw [h3, isUnder_step hv hn, if_pos ht]
  · rw [hn] at h1; cases h1
theorem UpAt.out {l : List Node} {n0 top n : Int} {k : Nat} (h : UpAt l n0 top k n) (hn : inB n 1 l.length = false) : isUnder l n0 top = false := by
  rcases h with ⟨h1, _⟩ | ⟨_, h2⟩
  · rw [hn] at h1; cases h1
  · exact h2
theorem UpAt.steps {l : List Node} (hv : treeOk l = true) {n0 top n : Int} {k : Nat} (h : UpAt l n0 top k n) (hn : inB n 1 l.length = true) : k + 1 ≤ l.length := by
  rcases h with ⟨_, h2, h3⟩ | ⟨h1, _⟩
  · have := ok_dep hv hn; omega
  · rw [hn] at h1; cases h1

set_option maxRecDepth 100000 in
set_option maxHeartbeats 8000000 in
theorem sisUnder_any (l : List Node) (n0 top : Int) (o : Bool) (a : Option Addr) (c : Nat) (R : Nat → Prop) (w : World) (hv : treeOk l = true) (h : NodeSlice o R w a l) :
    Calls Try.prog 43 #[.agg #[.slice a l.length c], .int .i64 n0, .int .i64 top] w fun e w' => e = .returned (.bool (isUnder l n0 top)) ∧ Mod (fun _ => False) w w' := by
  have hlen := ok_len hv
  refine calls_sx Try.func43 rfl rfl (fun a h1 h2 h3 => (((Fr.nil h1 h2).arg (h3 2 _ rfl)).arg (h3 1 _ rfl)).arg (h3 0 _ rfl)) ?_
  repeat (first | refine qan ?_ | refine qaj ?_ | refine qaf ?_ | refine qad ?_ | refine SX.block ?_ | (refine qal ?_; (refine qac (qag rfl) rfl ?_ ?_ ?_); rfl; rfl) | (refine l_box ?_; refine qaG ?_ ?_ rfl rfl (fun g => ?_); rfl; rfl))
  refine SX.loop3 (fun (k : Nat) (n : Int) (_ : Unit) => k ≤ l.length ∧ UpAt l n0 top k n) (fun k _ _ => l.length - k) (fun _ _ _ => [⟨g, [.slice a l.length c], 37⟩]) (fun _ _ _ => []) (fun _ _ _ => []) (fun k n _ => [(1, .int .i64 n), (2, .int .i64 top), (3, .pointer (some ⟨g, 0, none⟩)), (6, .bool false), (7, .int .i64 k)]) 0 n0 () ⟨Nat.zero_le _, UpAt.start hv n0 top⟩ ?_ (fun w hl => hl) ?_
  · (repeat (first | exact subF_nil _ | (refine subF_cons rfl ?_) | (refine subF_consv rfl (by rfl) ?_)))
  rintro k n _ ⟨hk, hu⟩
  cases hq : inB n 1 l.length
  · have e := hu.out hq
    repeat (first | refine qan ?_ | refine qaj ?_ | refine qaf ?_ | refine qad ?_ | refine qas rfl ?_ | (refine qat ?_; (refine qac (qap rfl (fun w hl => sisNode_any _ _ _ _ _)) rfl ?_ ?_ ?_); rfl; rfl) | (refine qau ?_; (first | refine qac (qaw 0 rfl rfl rfl) rfl ?_ ?_ ?_ | refine qac (qam 0 rfl rfl rfl) rfl ?_ ?_ ?_); rfl; rfl) | (refine qak ?_; (refine qac (qae rfl) rfl ?_ ?_ ?_); rfl; rfl) | (refine qao ?_; (refine qac (qai rfl) rfl ?_ ?_ ?_); rfl; rfl) | (refine qal ?_; (refine qac (qag rfl) rfl ?_ ?_ ?_); rfl; rfl) | (refine l_len ?_; (refine qac (OpW.len rfl) rfl ?_ ?_ ?_); rfl; rfl) | (refine l_leq ?_; (refine qac (OpW.leqT rfl rfl (by omega)) rfl ?_ ?_ ?_); rfl; rfl) | (refine qaE ?_; (refine qac (qav rfl rfl rfl) rfl ?_ ?_ ?_); rfl; rfl) | (rw [hq]) | refine qaA ?_ | refine SX.exit ?_ | refine qaF ?_ | refine qaD ?_)
    refine qaz rfl rfl (fun w' hl => ⟨by rw [e], hl.mod⟩)
  obtain ⟨j, x, rfl, hj, hx, hnx⟩ := node_get hq
  obtain ⟨b1, o1, x1, r1, rfl, hR1, hb1, hxk, hr1, hl1, hc1⟩ := h.get hj
  obtain rfl : x1 = x := Option.some.inj (hxk.out.symm.trans hx)
  obtain ⟨ka, kc, rra, rrc, rfl, hk1, ht1, _⟩ := hr1
  by_cases ht : x1.up = top
  · have e := hu.here hv hq (by rw [hnx]; exact ht)
    repeat (first | refine qan ?_ | refine qaj ?_ | refine qaf ?_ | refine qad ?_ | refine SX.block ?_ | refine qaC ?_ | refine qaq rfl ?_ | (refine qat ?_; (first | refine qac (qap rfl (fun w hl => sisNode_any _ _ _ _ _)) rfl ?_ ?_ ?_ | refine qac (qap rfl (fun w hl => snode_any _ _ _ _ j _ _ _ _ _ _ _ _ _ w (by omega) hj (fun i v hv => hl.old (hc1 i v hv) (fun h => h)))) rfl ?_ ?_ ?_); rfl; rfl) | (refine l_field ?_; (refine qac (OpW.field rfl (nodeRow_a0 _ _ _ _ _ _ _ _ _)) rfl ?_ ?_ ?_); rfl; rfl) | (refine qau ?_; (first | refine qac (qaw 0 rfl rfl rfl) rfl ?_ ?_ ?_ | refine qac (qam 0 rfl rfl rfl) rfl ?_ ?_ ?_); rfl; rfl) | (refine qak ?_; (refine qac (qae rfl) rfl ?_ ?_ ?_); rfl; rfl) | (refine qao ?_; (refine qac (qai rfl) rfl ?_ ?_ ?_); rfl; rfl) | (refine qal ?_; (refine qac (qag rfl) rfl ?_ ?_ ?_); rfl; rfl) | (refine l_len ?_; (refine qac (OpW.len rfl) rfl ?_ ?_ ?_); rfl; rfl) | (refine l_eql ?_; (refine qac (qaQ rfl rfl (by omega)) rfl ?_ ?_ ?_); rfl; rfl) | (refine l_leq ?_; (refine qac (OpW.leqT rfl rfl (by omega)) rfl ?_ ?_ ?_); rfl; rfl) | (refine qaE ?_; (refine qac (qav rfl rfl rfl) rfl ?_ ?_ ?_); rfl; rfl) | (rw [hq]) | refine qaA ?_ | refine qax ?_ | refine qaH ?_)
    refine qaz rfl rfl (fun w' hl => ⟨by rw [e], hl.mod⟩)
  · have e := hu.next hv hq (by rw [hnx]; exact ht)
    have es := hu.steps hv hq
    rw [hnx] at e
    repeat (first | refine qan ?_ | refine qaj ?_ | refine qaf ?_ | refine qad ?_ | refine SX.block ?_ | refine qaC ?_ | refine qaq rfl ?_ | refine qas rfl ?_ | (refine qat ?_; (first | refine qac (qap rfl (fun w hl => sisNode_any _ _ _ _ _)) rfl ?_ ?_ ?_ | refine qac (qap rfl (fun w hl => snode_any _ _ _ _ j _ _ _ _ _ _ _ _ _ w (by omega) hj (fun i v hv => hl.old (hc1 i v hv) (fun h => h)))) rfl ?_ ?_ ?_); rfl; rfl) | (refine l_field ?_; (refine qac (OpW.field rfl (nodeRow_a0 _ _ _ _ _ _ _ _ _)) rfl ?_ ?_ ?_); rfl; rfl) | (refine qau ?_; (first | refine qac (qaw 0 rfl rfl rfl) rfl ?_ ?_ ?_ | refine qac (qam 0 rfl rfl rfl) rfl ?_ ?_ ?_); rfl; rfl) | (refine qak ?_; (refine qac (qae rfl) rfl ?_ ?_ ?_); rfl; rfl) | (refine qao ?_; (refine qac (qai rfl) rfl ?_ ?_ ?_); rfl; rfl) | (refine qal ?_; (refine qac (qag rfl) rfl ?_ ?_ ?_); rfl; rfl) | (refine l_len ?_; (refine qac (OpW.len rfl) rfl ?_ ?_ ?_); rfl; rfl) | (refine l_add ?_; (refine qac (OpW.succ rfl rfl (by omega)) rfl ?_ ?_ ?_); rfl; rfl) | (refine l_eql ?_; (refine qac (qaP rfl rfl (by omega)) rfl ?_ ?_ ?_); rfl; rfl) | (refine l_leq ?_; (refine qac (OpW.leqT rfl rfl (by omega)) rfl ?_ ?_ ?_); rfl; rfl) | (refine qaE ?_; (refine qac (qav rfl rfl rfl) rfl ?_ ?_ ?_); rfl; rfl) | (rw [hq]) | refine qar ?_)
    refine SQ.round3 (k + 1) x1.up () ⟨es, e⟩ (by omega) ?_ (fun _ hl => hl)
    (repeat (first | exact subF_nil _ | (refine subF_cons rfl ?_) | (refine subF_consv rfl (by rfl) ?_)))
end Go.Proofs.Ythffgbhphjkdeaa
namespace Go.Proofs.Ythffgbhphjkdeaa
open Go.RowKit
set_option linter.unusedVariables false
set_option linter.unusedSimpArgs false

/-- Where the part from i on lies. -/
def fromAddr (a : Option Addr) (c i sz : Nat) : Option Addr := if c = i then a else a.map (·.add (i * sz))
theorem SliceAt.takeS {α : Type} {rep : World → List Value → α → Prop} {sz : Nat} {R : Nat → Prop} {w : World} {a : Option Addr} {l : List α} (h : SliceAt rep sz R w a l) (i : Nat) : SliceAt rep sz R w a (l.take i) := by
  obtain ⟨rows, h1, h2, h3⟩ := h
  refine ⟨rows.take i, ?_, by simp [h2], fun j r x hr hx => ?_⟩
  · rcases h1 with rfl | ⟨b, o, rfl, hR, hb, h⟩
    · exact .inl (by simp)
    · refine .inr ⟨b, o, rfl, hR, hb, fun j r hr => ?_⟩
      rw [List.getElem?_take] at hr
      split at hr
      · exact h j r hr
      · cases hr
  · rw [List.getElem?_take] at hr hx
    split at hr
    · rename_i hj
      rw [if_pos hj] at hx
      exact h3 j r x hr hx
    · cases hr
theorem SliceAt.dropS {α : Type} {rep : World → List Value → α → Prop} {sz : Nat} {R : Nat → Prop} {w : World} {a : Option Addr} {l : List α} {c : Nat} (h : SliceAt rep sz R w a l) (hc : l.length ≤ c) (i : Nat) : SliceAt rep sz R w (fromAddr a c i sz) (l.drop i) := by
  obtain ⟨rows, h1, h2, h3⟩ := h
  refine ⟨rows.drop i, ?_, by simp [h2], fun j r x hr hx => ?_⟩
  · by_cases hi : l.length ≤ i
    · exact .inl (List.drop_eq_nil_of_le (by omega))
    · rcases h1 with rfl | ⟨b, o, rfl, hR, hb, h⟩
      · exact .inl (by simp)
      · refine .inr ⟨b, o + i * sz, ?_, hR, hb, fun j r hr => ?_⟩
        · unfold fromAddr
          rw [if_neg (by omega)]
          simp [Addr.add_lit]
        · rw [List.getElem?_drop] at hr
          have := h (i + j) r hr
          refine ⟨this.1, fun m v hv => ?_⟩
          have := this.2 m v hv
          rwa [Nat.add_mul, ← Nat.add_assoc] at this
  · rw [List.getElem?_drop] at hr hx
    exact h3 (i + j) r x hr hx
section
variable {P : Program} {n : Nat} {W : World} {R : Rg W} {L : List Blk} {O : List Own} {E : List Res} {f : List (Nat × Value)} {d : Option Tmp} {T : TypeId} {x y : Operand} {ty : TypeId} {pos : String} {af : Array Edge} {gd : Option (Nat × Bool)}
theorem OpW.sliceFromS {e sz m c i : Nat} {a : Option Addr} [t : TSl P T e sz] (hx : evO f x = some (.slice a m c)) (hy : evO f y = some (.int .i64 (i : Int))) (hi : i ≤ m) : OpW P n W R L O E f ⟨d, .slice T x (some y) none none, ty, pos, af, gd⟩ (.slice (fromAddr a c i sz) (m - i) (c - i)) :=
  OpW.of (fun q w hf _ => by
    obtain ⟨h1, h2⟩ := t.h
    obtain ⟨ti, hti, hs⟩ := Option.map_eq_some_iff.1 h2
    have h0 : (0 : Int) ≤ (i : Int) ∧ (i : Int) ≤ (m : Int) := by omega
    simp [execOp, hf.eval hx, hf.eval hy, Instr.sliceAt, Instr.slice, run_underlying h1, Instr.sliceBounds, Instr.sliceBound, asIntOf, h0, sizeOf, typeInfo, hti, hs, fromAddr]
    intro; omega)
theorem OpW.sliceToS {e sz m c i : Nat} {a : Option Addr} [t : TSl P T e sz] (hx : evO f x = some (.slice a m c)) (hy : evO f y = some (.int .i64 (i : Int))) (hi : i ≤ c) : OpW P n W R L O E f ⟨d, .slice T x none (some y) none, ty, pos, af, gd⟩ (.slice a i c) :=
  OpW.of (fun q w hf _ => by
    obtain ⟨h1, h2⟩ := t.h
    obtain ⟨ti, hti, hs⟩ := Option.map_eq_some_iff.1 h2
    have h0 : (0 : Int) ≤ (i : Int) ∧ (i : Int) ≤ (c : Int) := by omega
    have e0 : (a.map fun u => u.add 0) = a := by
      cases a with
      | none => rfl
      | some u => simp [Addr.add_zero']
    simp [execOp, hf.eval hx, hf.eval hy, Instr.sliceAt, Instr.slice, run_underlying h1, Instr.sliceBounds, Instr.sliceBound, asIntOf, h0, sizeOf, typeInfo, hti, hs, e0]
    try (intro; omega))
end
end Go.Proofs.Ythffgbhphjkdeaa
