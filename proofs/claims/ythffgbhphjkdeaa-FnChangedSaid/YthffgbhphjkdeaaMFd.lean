/-
  PROVED: contracts of functions and words on memory, several texts put together: what each says stands at its theorems. Conditions: as told there.
-/
import Derived.Test.YthffgbhphjkdeaaMFc
set_option linter.unusedVariables false
set_option linter.unusedSimpArgs false
namespace Go.Proofs.Ythffgbhphjkdeaa
open Go.RowKit
set_option linter.unusedVariables false
set_option linter.unusedSimpArgs false

theorem isUnder_step {l : List Node} (hv : treeOk l = true) {n top : Int} (hn : inB n 1 l.length = true) : isUnder l n top = if (nodeAt l n).up = top then inB top 1 l.length else isUnder l (nodeAt l n).up top := by
  by_cases h0 : (nodeAt l n).up = 0
  · rw [isUnder_root h0, h0]
    split
    · rename_i e; subst e; rfl
    · rw [isUnder_out2 (by rfl)]
  · cases ht : inB top 1 l.length
    · rw [isUnder_out ht]
      split
      · rfl
      · rw [isUnder_out ht]
    · rw [isUnder_up hv hn ht h0]
      split
      · rename_i e; rw [decide_eq_true e]; rfl
      · rename_i e; rw [decide_eq_false e]; rfl
/-- Where a walk up stands: at a node, with steps left; or beyond the root. -/
def UpAt (l : List Node) (n0 top : Int) (k : Nat) (n : Int) : Prop :=
  (inB n 1 l.length = true ∧ (k : Int) + dep l n ≤ l.length ∧ isUnder l n0 top = isUnder l n top) ∨ (inB n 1 l.length = false ∧ isUnder l n0 top = false)
theorem UpAt.start {l : List Node} (hv : treeOk l = true) (n top : Int) : UpAt l n top 0 n := by
  cases hn : inB n 1 l.length
  · exact .inr ⟨hn, isUnder_out2 hn⟩
  · have := ok_dep hv hn
    exact .inl ⟨hn, by omega, rfl⟩
theorem UpAt.next {l : List Node} (hv : treeOk l = true) {n0 top n : Int} {k : Nat} (h : UpAt l n0 top k n) (hn : inB n 1 l.length = true) (ht : (nodeAt l n).up ≠ top) : UpAt l n0 top (k + 1) (nodeAt l n).up := by
  rcases h with ⟨_, h2, h3⟩ | ⟨h1, _⟩
  · rw [isUnder_step hv hn, if_neg ht] at h3
    by_cases h0 : (nodeAt l n).up = 0
    · rw [h0] at h3 ⊢
      refine .inr ⟨rfl, ?_⟩
      rw [h3, isUnder_out2 rfl]
    · obtain ⟨q1, q2, q3⟩ := (ok_deep hv).next n hn h0
      have := ok_dep hv hn
      have := ok_dep hv q1
      exact .inl ⟨q1, by omega, h3⟩
  · rw [hn] at h1; cases h1
theorem UpAt.here {l : List Node} (hv : treeOk l = true) {n0 top n : Int} {k : Nat} (h : UpAt l n0 top k n) (hn : inB n 1 l.length = true) (ht : (nodeAt l n).up = top) : isUnder l n0 top = inB top 1 l.length := by
  rcases h with ⟨_, h2, h3⟩ | ⟨h1, _⟩
  · rw [h3, isUnder_step hv hn, if_pos ht]
  · rw [hn] at h1; cases h1
theorem UpAt.out {l : List Node} {n0 top n : Int} {k : Nat} (h : UpAt l n0 top k n) (hn : inB n 1 l.length = false) : isUnder l n0 top = false := by
  rcases h with ⟨h1, _⟩ | ⟨_, h2⟩
  · rw [hn] at h1; cases h1
  · exact h2
theorem UpAt.steps {l : List Node} (hv : treeOk l = true) {n0 top n : Int} {k : Nat} (h : UpAt l n0 top k n) (hn : inB n 1 l.length = true) : k + 1 ≤ l.length := by
  rcases h with ⟨_, h2, h3⟩ | ⟨h1, _⟩
  · have := ok_dep hv hn; omega
  · rw [hn] at h1; cases h1

set_option maxRecDepth 100000 in
set_option maxHeartbeats 8000000 in
theorem sisUnder_any (l : List Node) (n0 top : Int) (o : Bool) (a : Option Addr) (c : Nat) (R : Nat → Prop) (w : World) (hv : treeOk l = true) (h : NodeSlice o R w a l) :
    Calls Try.prog 43 #[.agg #[.slice a l.length c], .int .i64 n0, .int .i64 top] w fun e w' => e = .returned (.bool (isUnder l n0 top)) ∧ Mod (fun _ => False) w w' := by
  have hlen := ok_len hv
  refine calls_sx Try.func43 rfl rfl (fun a h1 h2 h3 => (((Fr.nil h1 h2).arg (h3 2 _ rfl)).arg (h3 1 _ rfl)).arg (h3 0 _ rfl)) ?_
  repeat (first | refine qan ?_ | refine qaj ?_ | refine qaf ?_ | refine qad ?_ | refine SX.block ?_ | (refine qam ?_; (refine qac (qah rfl) rfl ?_ ?_ ?_); rfl; rfl) | (refine l_box ?_; refine qaM ?_ ?_ rfl rfl (fun g => ?_); rfl; rfl))
  refine SX.loop3 (fun (k : Nat) (n : Int) (_ : Unit) => k ≤ l.length ∧ UpAt l n0 top k n) (fun k _ _ => l.length - k) (fun _ _ _ => [⟨g, [.slice a l.length c], 37⟩]) (fun _ _ _ => []) (fun _ _ _ => []) (fun k n _ => [(1, .int .i64 n), (2, .int .i64 top), (3, .pointer (some ⟨g, 0, none⟩)), (6, .bool false), (7, .int .i64 k)]) 0 n0 () ⟨Nat.zero_le _, UpAt.start hv n0 top⟩ ?_ (fun w hl => hl) ?_
  · (repeat (first | exact subF_nil _ | (refine subF_cons rfl ?_) | (refine subF_consv rfl (by rfl) ?_)))
  rintro k n _ ⟨hk, hu⟩
  cases hq : inB n 1 l.length
  · have e := hu.out hq
    repeat (first | refine qan ?_ | refine qaj ?_ | refine qaf ?_ | refine qad ?_ | refine qat rfl ?_ | (refine qau ?_; (refine qac (qao rfl (fun w hl => sisNode_any _ _ _ _ _)) rfl ?_ ?_ ?_); rfl; rfl) | (refine qaw ?_; (first | refine qac (qav 0 rfl rfl rfl) rfl ?_ ?_ ?_ | refine qac (qal 0 rfl rfl rfl) rfl ?_ ?_ ?_); rfl; rfl) | (refine qai ?_; (refine qac (qae rfl) rfl ?_ ?_ ?_); rfl; rfl) | (refine qap ?_; (refine qac (qak rfl) rfl ?_ ?_ ?_); rfl; rfl) | (refine qam ?_; (refine qac (qah rfl) rfl ?_ ?_ ?_); rfl; rfl) | (refine l_len ?_; (refine qac (OpW.len rfl) rfl ?_ ?_ ?_); rfl; rfl) | (refine l_leq ?_; (refine qac (OpW.leqT rfl rfl (by omega)) rfl ?_ ?_ ?_); rfl; rfl) | (refine qaG ?_; (refine qac (qay rfl rfl rfl) rfl ?_ ?_ ?_); rfl; rfl) | (rw [hq]) | refine qaz ?_ | refine SX.exit ?_ | refine qaO ?_ | refine qaK ?_)
    refine qaA rfl rfl (fun w' hl => ⟨by rw [e], hl.mod⟩)
  obtain ⟨j, x, rfl, hj, hx, hnx⟩ := node_get hq
  obtain ⟨b1, o1, x1, r1, rfl, hR1, hb1, hxk, hr1, hl1, hc1⟩ := h.get hj
  obtain rfl : x1 = x := Option.some.inj (hxk.out.symm.trans hx)
  obtain ⟨ka, kc, rra, rrc, rfl, hk1, ht1, _⟩ := hr1
  by_cases ht : x1.up = top
  · have e := hu.here hv hq (by rw [hnx]; exact ht)
    repeat (first | refine qan ?_ | refine qaj ?_ | refine qaf ?_ | refine qad ?_ | refine SX.block ?_ | refine qaC ?_ | refine qaq rfl ?_ | (refine qau ?_; (first | refine qac (qao rfl (fun w hl => sisNode_any _ _ _ _ _)) rfl ?_ ?_ ?_ | refine qac (qao rfl (fun w hl => snode_any _ _ _ _ j _ _ _ _ _ _ _ _ _ w (by omega) hj (fun i v hv => hl.old (hc1 i v hv) (fun h => h)))) rfl ?_ ?_ ?_); rfl; rfl) | (refine l_field ?_; (refine qac (OpW.field rfl (nodeRow_a0 _ _ _ _ _ _ _ _ _)) rfl ?_ ?_ ?_); rfl; rfl) | (refine qaw ?_; (first | refine qac (qav 0 rfl rfl rfl) rfl ?_ ?_ ?_ | refine qac (qal 0 rfl rfl rfl) rfl ?_ ?_ ?_); rfl; rfl) | (refine qai ?_; (refine qac (qae rfl) rfl ?_ ?_ ?_); rfl; rfl) | (refine qap ?_; (refine qac (qak rfl) rfl ?_ ?_ ?_); rfl; rfl) | (refine qam ?_; (refine qac (qah rfl) rfl ?_ ?_ ?_); rfl; rfl) | (refine l_len ?_; (refine qac (OpW.len rfl) rfl ?_ ?_ ?_); rfl; rfl) | (refine l_eql ?_; (refine qac (qaQ rfl rfl (by omega)) rfl ?_ ?_ ?_); rfl; rfl) | (refine l_leq ?_; (refine qac (OpW.leqT rfl rfl (by omega)) rfl ?_ ?_ ?_); rfl; rfl) | (refine qaG ?_; (refine qac (qay rfl rfl rfl) rfl ?_ ?_ ?_); rfl; rfl) | (rw [hq]) | refine qaz ?_ | refine qax ?_ | refine qaD ?_)
    refine qaA rfl rfl (fun w' hl => ⟨by rw [e], hl.mod⟩)
  · have e := hu.next hv hq (by rw [hnx]; exact ht)
    have es := hu.steps hv hq
    rw [hnx] at e
    repeat (first | refine qan ?_ | refine qaj ?_ | refine qaf ?_ | refine qad ?_ | refine SX.block ?_ | refine qaC ?_ | refine qaq rfl ?_ | refine qat rfl ?_ | (refine qau ?_; (first | refine qac (qao rfl (fun w hl => sisNode_any _ _ _ _ _)) rfl ?_ ?_ ?_ | refine qac (qao rfl (fun w hl => snode_any _ _ _ _ j _ _ _ _ _ _ _ _ _ w (by omega) hj (fun i v hv => hl.old (hc1 i v hv) (fun h => h)))) rfl ?_ ?_ ?_); rfl; rfl) | (refine l_field ?_; (refine qac (OpW.field rfl (nodeRow_a0 _ _ _ _ _ _ _ _ _)) rfl ?_ ?_ ?_); rfl; rfl) | (refine qaw ?_; (first | refine qac (qav 0 rfl rfl rfl) rfl ?_ ?_ ?_ | refine qac (qal 0 rfl rfl rfl) rfl ?_ ?_ ?_); rfl; rfl) | (refine qai ?_; (refine qac (qae rfl) rfl ?_ ?_ ?_); rfl; rfl) | (refine qap ?_; (refine qac (qak rfl) rfl ?_ ?_ ?_); rfl; rfl) | (refine qam ?_; (refine qac (qah rfl) rfl ?_ ?_ ?_); rfl; rfl) | (refine l_len ?_; (refine qac (OpW.len rfl) rfl ?_ ?_ ?_); rfl; rfl) | (refine l_add ?_; (refine qac (OpW.succ rfl rfl (by omega)) rfl ?_ ?_ ?_); rfl; rfl) | (refine l_eql ?_; (refine qac (qaP rfl rfl (by omega)) rfl ?_ ?_ ?_); rfl; rfl) | (refine l_leq ?_; (refine qac (OpW.leqT rfl rfl (by omega)) rfl ?_ ?_ ?_); rfl; rfl) | (refine qaG ?_; (refine qac (qay rfl rfl rfl) rfl ?_ ?_ ?_); rfl; rfl) | (rw [hq]) | refine qar ?_)
    refine SQ.round3 (k + 1) x1.up () ⟨es, e⟩ (by omega) ?_ (fun _ hl => hl)
    (repeat (first | exact subF_nil _ | (refine subF_cons rfl ?_) | (refine subF_consv rfl (by rfl) ?_)))
end Go.Proofs.Ythffgbhphjkdeaa
namespace Go.Proofs.Ythffgbhphjkdeaa
open Go.RowKit
set_option linter.unusedVariables false
set_option linter.unusedSimpArgs false

/-- Operation k comes up: not before; whom it waits for have come; who has come up had its own behind it. -/
structure Adm (ops : Array Oper) (d : Nat → Bool) (k : Nat) : Prop where
  not : d k = false
  pre : ∀ i ∈ reach ops ops.size k, d i = true
  clo : ∀ j, d j = true → ∀ i ∈ reach ops ops.size j, d i = true
def upd (d : Nat → Bool) (k : Nat) : Nat → Bool := fun j => Nat.beq j k || d j
def upx (x : Nat → Value) (k : Nat) (v : Value) : Nat → Value := fun j => bif Nat.beq j k then v else x j
theorem Adm.done {ops : Array Oper} {d : Nat → Bool} {k : Nat} (h : Adm ops d k) (i : Nat) (hi : (reach ops ops.size k).contains i = true) : d i = true := h.pre i (by simpa using hi)
/-- Who waits for k has not come up. -/
theorem Adm.later {ops : Array Oper} {d : Nat → Bool} {k : Nat} (h : Adm ops d k) (j : Nat) (hj : (reach ops ops.size j).contains k = true) : d j = false := by
  cases hq : d j with
  | false => rfl
  | true =>
    have := h.clo j hq k (by simpa using hj)
    rw [h.not] at this
    cases this

/-- The walk in the text's order. d: who has come up; x: what the operations gave, by their number. -/
inductive RG (P : Program) (ops : Array Oper) (S : (Nat → Bool) → (Nat → Value) → World → Prop) (Q : Exit → Act → World → Prop) : Nat → List Oper → ((Nat → Value) → Act) → Prop
  | done {k : Nat} {F : (Nat → Value) → Act} (h : ∀ x w, S (fun i => Nat.blt i k) x w → Q .normal (F x) w) : RG P ops S Q k [] F
  | skip {k : Nat} {o : Oper} {rest : List Oper} {F : (Nat → Value) → Act} (hw : ∀ x, Region.wanted o (yielded ops (F x).tmps) = false) (hs : ∀ d x w, S d x w → S (upd d k) x w)
      (h : RG P ops S Q (k + 1) rest (fun x => (F x).put o.dst undef)) : RG P ops S Q k (o :: rest) F
  | val {k : Nat} {o : Oper} {rest : List Oper} {F : (Nat → Value) → Act} (us : List Nat) (g : (Nat → Value) → Value)
      (hus : (us.all fun i => (reach ops ops.size k).contains i) = true) (hg : ∀ x y, (∀ i ∈ us, x i = y i) → g x = g y)
      (hw : ∀ x, Region.wanted o (yielded ops (F x).tmps) = true)
      (ho : ∀ d x w, Adm ops d k → S d x w → o.wp P (F x) w (fun a' w' => a' = (F x).put o.dst (g x) ∧ S (upd d k) x w') never)
      (h : RG P ops S Q (k + 1) rest (fun x => (F x).put o.dst (g x))) : RG P ops S Q k (o :: rest) F
  | new {k : Nat} {o : Oper} {rest : List Oper} {F : (Nat → Value) → Act}
      (hw : ∀ x, Region.wanted o (yielded ops (F x).tmps) = true)
      (ho : ∀ d x w, Adm ops d k → S d x w → o.wp P (F x) w (fun a' w' => ∃ v, a' = (F x).put o.dst v ∧ S (upd d k) (upx x k v) w') never)
      (h : RG P ops S Q (k + 1) rest (fun x => (F x).put o.dst (x k))) : RG P ops S Q k (o :: rest) F

section
variable {P : Program} {ops : Array Oper} {S : (Nat → Bool) → (Nat → Value) → World → Prop} {Q : Exit → Act → World → Prop}
/-- What the walk says of one operation. -/
def SpecG (P : Program) (ops : Array Oper) (S : (Nat → Bool) → (Nat → Value) → World → Prop) (k : Nat) (o : Oper) (A : (Nat → Value) → Act) (g : (Nat → Value) → Value) : Prop :=
  ((∀ x, Region.wanted o (yielded ops (A x).tmps) = false) ∧ g = (fun _ => undef) ∧ ∀ d x w, S d x w → S (upd d k) x w) ∨
  (∃ us : List Nat, (∀ i ∈ us, i ∈ reach ops ops.size k) ∧ (∀ x y, (∀ i ∈ us, x i = y i) → g x = g y) ∧ (∀ x, Region.wanted o (yielded ops (A x).tmps) = true) ∧
    ∀ d x w, Adm ops d k → S d x w → o.wp P (A x) w (fun a' w' => a' = (A x).put o.dst (g x) ∧ S (upd d k) x w') never) ∨
  (g = (fun x => x k) ∧ (∀ x, Region.wanted o (yielded ops (A x).tmps) = true) ∧
    ∀ d x w, Adm ops d k → S d x w → o.wp P (A x) w (fun a' w' => ∃ v, a' = (A x).put o.dst v ∧ S (upd d k) (upx x k v) w') never)

theorem RG.out {k : Nat} {rest : List Oper} {F : (Nat → Value) → Act} (h : RG P ops S Q k rest F) :
    ∀ (a0 : Act) (G0 : Nat → (Nat → Value) → Value), (∀ j, j < rest.length → rest[j]? = ops[k + j]?) → F = (fun x => frm ops a0 G0 x k) →
    ∃ (G : Nat → (Nat → Value) → Value), (∀ i, i < k → G i = G0 i) ∧
      (∀ i o, k ≤ i → i < k + rest.length → ops[i]? = some o → SpecG P ops S i o (fun x => frm ops a0 G x i) (G i)) ∧
      (∀ x w, S (fun i => Nat.blt i (k + rest.length)) x w → Q .normal (frm ops a0 G x (k + rest.length)) w) := by
  have frmEq : ∀ (a0 : Act) (G G' : Nat → (Nat → Value) → Value) (m : Nat), (∀ i, i < m → G i = G' i) → ∀ x, frm ops a0 G x m = frm ops a0 G' x m := by
    intro a0 G G' m
    induction m with
    | zero => intro _ _; rfl
    | succ m ih => intro hG x; simp only [frm]; rw [ih (fun i hi => hG i (by omega)) x, hG m (by omega)]
  have more : ∀ (k : Nat) (o : Oper) (rest : List Oper) (g : (Nat → Value) → Value) (a0 : Act) (G0 : Nat → (Nat → Value) → Value),
      (∀ j, j < (o :: rest).length → (o :: rest)[j]? = ops[k + j]?) → SpecG P ops S k o (fun x => frm ops a0 G0 x k) g →
      (∀ (a1 : Act) (G1 : Nat → (Nat → Value) → Value), (∀ j, j < rest.length → rest[j]? = ops[k + 1 + j]?) → (fun x => (frm ops a0 G0 x k).put o.dst (g x)) = (fun x => frm ops a1 G1 x (k + 1)) →
        ∃ (G : Nat → (Nat → Value) → Value), (∀ i, i < k + 1 → G i = G1 i) ∧
          (∀ i o, k + 1 ≤ i → i < k + 1 + rest.length → ops[i]? = some o → SpecG P ops S i o (fun x => frm ops a1 G x i) (G i)) ∧
          (∀ x w, S (fun i => Nat.blt i (k + 1 + rest.length)) x w → Q .normal (frm ops a1 G x (k + 1 + rest.length)) w)) →
      ∃ (G : Nat → (Nat → Value) → Value), (∀ i, i < k → G i = G0 i) ∧
        (∀ i o', k ≤ i → i < k + (o :: rest).length → ops[i]? = some o' → SpecG P ops S i o' (fun x => frm ops a0 G x i) (G i)) ∧
        (∀ x w, S (fun i => Nat.blt i (k + (o :: rest).length)) x w → Q .normal (frm ops a0 G x (k + (o :: rest).length)) w) := by
    intro k o rest g a0 G0 hr hsp ih
    have ho : ops[k]? = some o := by simpa using (hr 0 (by simp)).symm
    have hd : dstOf ops k = o.dst := by simp [dstOf, ho]
    let G1 : Nat → (Nat → Value) → Value := fun i => if i = k then g else G0 i
    have g1 : ∀ i, i < k → G1 i = G0 i := fun i hi => if_neg (by omega)
    have gk : G1 k = g := if_pos rfl
    obtain ⟨G, e1, e2, e3⟩ := ih a0 G1 (fun j hj => by have := hr (j + 1) (by simp; omega); simpa [Nat.add_assoc, Nat.add_comm 1 j] using this)
      (by funext x; simp only [frm, gk, hd]; rw [frmEq a0 G1 G0 k g1 x])
    refine ⟨G, fun i hi => (e1 i (by omega)).trans (g1 i hi), fun i o' hi hlt ho' => ?_, by simpa [Nat.add_assoc, Nat.add_comm 1] using e3⟩
    by_cases e : i = k
    · subst e
      obtain rfl : o = o' := by rw [ho] at ho'; simpa using ho'
      have fe := frmEq a0 G G0 i (fun j hj => (e1 j (by omega)).trans (g1 j hj))
      have ge : G i = g := (e1 i (by omega)).trans gk
      rw [ge, show (fun x => frm ops a0 G x i) = fun x => frm ops a0 G0 x i from funext fe]
      exact hsp
    · exact e2 i o' (by omega) (by simp only [List.length_cons] at hlt; omega) ho'
  induction h with
  | @done k F h =>
    intro a0 G0 hr hF
    subst hF
    exact ⟨G0, fun i _ => rfl, fun i o hi hlt ho => by simp at hlt; omega, h⟩
  | @skip k o rest F hw hs h ih =>
    intro a0 G0 hr hF
    subst hF
    exact more k o rest (fun _ => undef) a0 G0 hr (.inl ⟨hw, rfl, hs⟩) ih
  | @val k o rest F us g hus hg hw hop h ih =>
    intro a0 G0 hr hF
    subst hF
    exact more k o rest g a0 G0 hr (.inr (.inl ⟨us, contains_all hus, hg, hw, hop⟩)) ih
  | @new k o rest F hw hop h ih =>
    intro a0 G0 hr hF
    subst hF
    exact more k o rest (fun x => x k) a0 G0 hr (.inr (.inr ⟨rfl, hw, hop⟩)) ih

/-- WHATEVER ORDER of the first n: the walk in the text's order serves; behind them the rest goes in its own order. -/
theorem RG.any {n : Nat} {a0 : Act} {w0 : World} (hc : regOkTo n ops = true) (ht : n = ops.size ∨ tailOk ops n = true) (h : RG P ops S (fun _ a w => wpList P ops Q (ops.toList.drop n) a w) 0 (ops.toList.take n) (fun _ => a0)) (hS : S (fun _ => false) (fun _ => undef) w0) :
    wpAny P .any ops Q ops.size (Array.replicate ops.size false) a0 w0 := by
  obtain ⟨c1, c2, c3, c4⟩ := regOk_spec hc
  have hnle : n ≤ ops.size := by
    rcases ht with rfl | ht
    · exact Nat.le_refl _
    · simp only [tailOk, Bool.and_eq_true, decide_eq_true_eq] at ht
      omega
  have htn : 0 + (ops.toList.take n).length = n := by simp; omega
  obtain ⟨G, _, hspec, hfin⟩ := h.out a0 (fun _ _ => undef) (fun j hj => by
    have hj' : j < n := by omega
    simp [hj']) rfl
  rw [htn] at hfin
  have gdep : ∀ i o, i < n → ops[i]? = some o → ∀ x y, (∀ j, (j ∈ reach ops ops.size i ∨ j = i) → x j = y j) → G i x = G i y := fun i o hin ho x y hxy => by
    have hs := hspec i o (Nat.zero_le _) (by rw [htn]; exact hin) ho
    rcases hs with ⟨_, hg, _⟩ | ⟨us, hus, hg, _⟩ | ⟨hg, _⟩
    · rw [hg]
    · exact hg x y fun j hj => hxy j (.inl (hus j hj))
    · rw [hg]; show x i = y i; rw [hxy i (.inr rfl)]
  have main : ∀ (fuel : Nat) (listed : Array Bool) (a : Act) (w : World) (x : Nat → Value), listed.size = ops.size → (unlistedTo n listed).length = fuel →
      (∀ i, listed.getD i false = true → ∀ o, ops[i]? = some o → ∀ e ∈ o.after, Region.binds .any e = true → listed.getD e.on false = true) →
      (∀ t, n ≤ t → t < ops.size → listed.getD t true = false) →
      Laid ops a0 G x (fun i => listed.getD i false = true) a → S (fun i => listed.getD i false) x w → wpAny P .any ops Q (fuel + (ops.size - n)) listed a w := by
    intro fuel
    induction fuel with
    | zero =>
      intro listed a w x hsz hfu hcl htl hla hSw
      have hall : ∀ i, i < n → listed.getD i false = true := fun i hi => by
        have h0 : unlistedTo n listed = [] := List.eq_nil_of_length_eq_zero hfu
        by_cases hn' : listed.getD i false = true
        · exact hn'
        · have : i ∈ unlistedTo n listed := by
            unfold unlistedTo
            rw [List.mem_filter, List.mem_range]
            have hi' : i < listed.size := by omega
            simp only [Array.getD_eq_getD_getElem?, Array.getElem?_eq_getElem hi', Option.getD_some, Bool.not_eq_true] at hn' ⊢
            exact ⟨hi, by rw [hn']; rfl⟩
          rw [h0] at this; simp at this
      have hon : ∀ i, listed.getD i false = true → i < n := fun i hi => by
        by_cases h : i < n
        · exact h
        · by_cases h2 : i < ops.size
          · have := getD_both (htl i (Nat.le_of_not_lt h) h2)
            rw [this] at hi; cases hi
          · rw [Array.getD_eq_getD_getElem?, Array.getElem?_eq_none (by omega)] at hi; cases hi
      have eL : listed = headDone n ops.size := by
        have hds : (headDone n ops.size).size = ops.size := by simp [headDone]; omega
        apply Array.ext (by rw [hds, hsz])
        intro i h1 h2
        have e1 : listed.getD i false = listed[i] := by simp [h1]
        by_cases hi : i < n
        · have := hall i hi
          rw [e1] at this
          rw [this]
          simp [headDone, hi]
        · have := getD_both (htl i (Nat.le_of_not_lt hi) (by omega))
          rw [e1] at this
          rw [this]
          simp [headDone, Array.getElem_append, hi]
      have e : a = frm ops a0 G x n := by
        have hb := laid_frm hc a0 G x n (by omega)
        have ht : a.tmps = (frm ops a0 G x n).tmps := by
          apply Array.ext_getElem?
          intro t
          by_cases hs : t < a0.tmps.size
          · by_cases he : ∃ i, i < n ∧ dstOf ops i = some t
            · obtain ⟨i, hin, hi⟩ := he
              rw [hla.on i t (hall i hin) hi hs, hb.on i t hin hi hs]
            · rw [hla.off t (fun i hli hi => he ⟨i, hon i hli, hi⟩), hb.off t (fun i hin hi => he ⟨i, hin, hi⟩)]
          · rw [Array.getElem?_eq_none (by rw [hla.size]; exact Nat.le_of_not_lt hs), Array.getElem?_eq_none (by rw [hb.size]; exact Nat.le_of_not_lt hs)]
        have hd : a.defers = (frm ops a0 G x n).defers := hla.defers.trans hb.defers.symm
        cases a; cases hf : frm ops a0 G x n
        rw [hf] at ht hd
        simp only at ht hd
        rw [ht, hd]
      have hlen : (ops.toList.drop n).length = ops.size - n := by simp
      have ed : (fun i => listed.getD i false) = fun i => Nat.blt i n := by
        funext i
        by_cases hi : i < n
        · rw [hall i hi]
          exact (show Nat.blt i n = true by simpa using hi).symm
        · have h1 : listed.getD i false = false := by
            cases hq : listed.getD i false with
            | false => rfl
            | true => exact (hi (hon i hq)).elim
          rw [h1]
          cases hq : Nat.blt i n with
          | false => rfl
          | true => exact (hi (by simpa using hq)).elim
      have hw := hfin x w (ed ▸ hSw)
      rw [← e] at hw
      rcases ht with rfl | ht
      · have e0 : ops.toList.drop ops.size = [] := List.drop_eq_nil_of_le (by simp)
        rw [e0] at hw
        rw [Nat.zero_add, Nat.sub_self]
        refine ⟨?_, hw⟩
        cases hr : Region.ready .any ops listed with
        | nil => rfl
        | cons i rest =>
          have hi : i ∈ Region.ready .any ops listed := by rw [hr]; exact List.mem_cons_self
          obtain ⟨h1, o, ho, _⟩ := mem_ready.1 hi
          have hlt := (Array.getElem?_eq_some_iff.1 ho).1
          have h2 := hall i hlt
          have hi' : i < listed.size := by omega
          simp only [Array.getD_eq_getD_getElem?, Array.getElem?_eq_getElem hi', Option.getD_some] at h1 h2
          rw [h1] at h2; cases h2
      · simp only [tailOk, Bool.and_eq_true, decide_eq_true_eq] at ht
        obtain ⟨⟨⟨hn, hs1⟩, hs2⟩, hs3⟩ := ht
        have := wpAny_of_seq (md := .any) (ops.toList.drop n) n listed a w (fun j => by simp [List.getElem?_drop]) (by rw [hlen, eL]; exact hs3) hw
        rw [hlen] at this
        rw [Nat.zero_add]
        exact this
    | succ fuel ih =>
      intro listed a w x hsz hfu hcl htl hla hSw
      have inv : HeadInv .any ops n listed := ⟨hsz, fun j oj hj hl e he hb => hcl j hl oj hj e he hb, htl⟩
      obtain ⟨j0, hj0⟩ : ∃ j0, j0 < n ∧ listed.getD j0 true = false := by
        cases hu : unlistedTo n listed with
        | nil => rw [hu] at hfu; cases hfu
        | cons j r =>
          have : j ∈ unlistedTo n listed := by rw [hu]; exact List.mem_cons_self
          unfold unlistedTo at this
          rw [List.mem_filter, List.mem_range] at this
          exact ⟨j, this.1, by simpa using this.2⟩
      have lt_of_listed : ∀ j, listed.getD j false = true → j < n := fun i hi => by
        by_cases h : i < n
        · exact h
        · by_cases h2 : i < ops.size
          · have := getD_both (htl i (Nat.le_of_not_lt h) h2)
            rw [this] at hi; cases hi
          · rw [Array.getD_eq_getD_getElem?, Array.getElem?_eq_none (by omega)] at hi; cases hi
      -- an operation that comes up
      have step : ∀ i ∈ Region.ready .any ops listed, wpOp P ops Q i (wpAny P .any ops Q (fuel + (ops.size - n)) (listed.setIfInBounds i true)) a w := by
        intro i hi
        have hin : i < n := by
          by_cases h : i < n
          · exact h
          · rcases ht with rfl | ht
            · obtain ⟨_, o, ho, _⟩ := mem_ready.1 hi
              exact (Array.getElem?_eq_some_iff.1 ho).1
            · simp only [tailOk, Bool.and_eq_true, decide_eq_true_eq] at ht
              obtain ⟨⟨⟨hn, hs1⟩, hs2⟩, hs3⟩ := ht
              exact (tail_waits hs1 hs2 hn inv (n - j0) j0 rfl hj0.1 hj0.2 i (Nat.le_of_not_lt h) hi).elim
        obtain ⟨h1, o, ho, h2⟩ := mem_ready.1 hi
        have hlt := (Array.getElem?_eq_some_iff.1 ho).1
        have hli : i < listed.size := by omega
        have hun : listed.getD i false = false := by
          simp only [Array.getD_eq_getD_getElem?, Array.getElem?_eq_getElem hli, Option.getD_some] at h1 ⊢
          exact h1
        have hd : dstOf ops i = o.dst := by simp [dstOf, ho]
        have hset : ∀ j, (listed.setIfInBounds i true).getD j false = true ↔ listed.getD j false = true ∨ j = i := fun j => by
          by_cases e : i = j
          · subst e; simp [hli]
          · rw [getD_set_ne false e]
            exact ⟨.inl, fun h => h.elim id fun h => (e h.symm).elim⟩
        have hcl' : ∀ j, (listed.setIfInBounds i true).getD j false = true → ∀ p, ops[j]? = some p → ∀ e ∈ p.after, Region.binds .any e = true → (listed.setIfInBounds i true).getD e.on false = true := fun j hj p hp e he hb => by
          rw [hset] at hj ⊢
          rcases hj with hj | rfl
          · exact .inl (hcl j hj p hp e he hb)
          · obtain rfl : o = p := by rw [ho] at hp; simpa using hp
            exact .inl (h2 e he hb)
        have hsz' : (listed.setIfInBounds i true).size = ops.size := by simpa using hsz
        have hfu' : (unlistedTo n (listed.setIfInBounds i true)).length = fuel := by
          have e : unlistedTo n (listed.setIfInBounds i true) = (unlistedTo n listed).erase i := by
            unfold unlistedTo
            rw [List.Nodup.erase_eq_filter (List.nodup_range.filter _), List.filter_filter]
            refine List.filter_congr fun j _ => ?_
            by_cases hj : i = j
            · subst hj; simp [hli]
            · rw [getD_set_ne true hj]; simp [Ne.symm hj]
          rw [e, List.length_erase_of_mem, hfu]
          · rfl
          · unfold unlistedTo
            rw [List.mem_filter, List.mem_range]
            exact ⟨hin, by rw [h1]; rfl⟩
        have htl' : ∀ t, n ≤ t → t < ops.size → (listed.setIfInBounds i true).getD t true = false := fun t ht ht' => by rw [getD_set_ne true (by omega)]; exact htl t ht ht'
        have hself : ∀ t ∈ o.looksAt ops, (∃ j, dstOf ops j = some t ∧ listed.getD j false = true ∧ j < i) ∨ ∀ j, dstOf ops j = some t → ¬ listed.getD j false = true ∧ ¬ j < i := fun t ht => by
          by_cases hex : ∃ j, j < n ∧ dstOf ops j = some t
          · obtain ⟨j, hjn, hj⟩ := hex
            obtain ⟨p, hp, hpt⟩ := Option.bind_eq_some_iff.1 hj
            obtain ⟨e, he, hb, rfl⟩ := c4 i j o p t hin hjn ho hp hpt ht
            exact .inl ⟨e.on, hj, h2 e he hb, c2 i o ho e he hb⟩
          · exact .inr fun j hj => ⟨fun hl => hex ⟨j, lt_of_listed j hl, hj⟩, fun hl => hex ⟨j, by omega, hj⟩⟩
        have hreach : ∀ j ∈ reach ops ops.size i, listed.getD j false = true :=
          reach_listed (L := fun j => listed.getD j false = true) hcl ops.size i (fun p hp e he hb => by
            obtain rfl : o = p := by rw [ho] at hp; simpa using hp
            exact h2 e he hb)
        have hdist : ∀ j t, listed.getD j false = true → dstOf ops j = some t → dstOf ops i = some t → j = i := fun j t _ hj hi' => by
          obtain ⟨p, hp, hpt⟩ := Option.bind_eq_some_iff.1 hj
          obtain ⟨q, hq, hqt⟩ := Option.bind_eq_some_iff.1 hi'
          exact c3 j i p q t (lt_of_listed j ‹_›) hin hp hq hqt hpt
        have hsel : ∀ cs c, o.op ≠ .select cs c := fun cs c => Region.noSelect_spec c1 i o cs c ho
        have hfr := laid_frm hc a0 G x i (by omega)
        obtain ⟨he, hwa⟩ := Laid.same hla hfr hsel hself
        have hlaid' : Laid ops a0 G x (fun j => (listed.setIfInBounds i true).getD j false = true) (a.put o.dst (G i x)) := by
          have := hla.put i hdist
          rw [hd] at this
          have e : (fun j => listed.getD j false = true ∨ j = i) = fun j => (listed.setIfInBounds i true).getD j false = true := funext fun j => propext (hset j).symm
          rwa [e] at this
        have hs := hspec i o (Nat.zero_le _) (by rw [htn]; omega) ho
        have adm : Adm ops (fun j => listed.getD j false) i := ⟨hun, hreach, fun j hj => reach_listed (L := fun j => listed.getD j false = true) hcl ops.size j (fun q hq e he hb => hcl j hj q hq e he hb)⟩
        have hupd : (fun j => (listed.setIfInBounds i true).getD j false) = upd (fun j => listed.getD j false) i := by
          funext j
          by_cases e : j = i
          · subst e
            rw [(hset j).2 (.inr rfl)]
            simp [upd]
          · rw [getD_set_ne false (fun h => e h.symm)]
            have e' : Nat.beq j i = false := Bool.eq_false_iff.2 fun h => e (Nat.eq_of_beq_eq_true h)
            simp [upd, e']
        unfold wpOp
        simp only [ho]
        rcases hs with ⟨hw, hg, hsk⟩ | ⟨us, hus, _, hw, hop⟩ | ⟨hg, hw, hop⟩
        · rw [hwa, hw x]
          simp only [Bool.false_eq_true, if_false]
          have hgu : G i x = undef := by rw [hg]
          rw [hgu] at hlaid'
          exact ih _ _ w x hsz' hfu' hcl' htl' hlaid' (by rw [hupd]; exact hsk _ _ _ hSw)
        · rw [hwa, hw x]
          simp only [if_true]
          refine .inl (Oper.wp_mono ?_ (upon_transfer (R := fun v w' => v = G i x ∧ S (upd (fun j => listed.getD j false) i) x w') (b := frm ops a0 G x i) (by rw [hla.size, hfr.size]) he ?_))
          · rintro a' w' ⟨v, rfl, rfl, hS'⟩
            exact ih _ _ w' x hsz' hfu' hcl' htl' hlaid' (by rw [hupd]; exact hS')
          · refine Oper.wp_mono ?_ (hop _ x w adm hSw)
            rintro a' w' ⟨h1, h2⟩
            exact ⟨_, h1, rfl, h2⟩
        · rw [hwa, hw x]
          simp only [if_true]
          refine .inl (Oper.wp_mono ?_ (upon_transfer (R := fun v w' => S (upd (fun j => listed.getD j false) i) (upx x i v) w') (b := frm ops a0 G x i) (by rw [hla.size, hfr.size]) he ?_))
          · rintro a' w' ⟨v, rfl, hS'⟩
            have yi : upx x i v i = v := by simp [upx]
            have yo : ∀ j, j ≠ i → upx x i v j = x j := fun j hj => by
              have e' : Nat.beq j i = false := Bool.eq_false_iff.2 fun h => hj (Nat.eq_of_beq_eq_true h)
              simp [upx, e']
            have hGy : ∀ j, listed.getD j false = true → ∀ p, ops[j]? = some p → G j (upx x i v) = G j x := fun j hj p hp => by
              refine gdep j p (lt_of_listed j hj) hp (upx x i v) x fun m hm => yo m fun e => ?_
              subst e
              rcases hm with hm | rfl
              · have := reach_listed (L := fun j => listed.getD j false = true) hcl ops.size j (fun q hq e he hb => hcl j hj q hq e he hb) m hm
                rw [this] at hun; cases hun
              · rw [hj] at hun; cases hun
            have hla' : Laid ops a0 G (upx x i v) (fun j => listed.getD j false = true) a := by
              refine ⟨hla.defers, hla.size, fun j t hj ht hs => ?_, hla.off⟩
              obtain ⟨p, hp, _⟩ := Option.bind_eq_some_iff.1 ht
              rw [hGy j hj p hp]
              exact hla.on j t hj ht hs
            have hlaid2 : Laid ops a0 G (upx x i v) (fun j => (listed.setIfInBounds i true).getD j false = true) (a.put o.dst v) := by
              have := hla'.put i hdist
              rw [hd, show G i (upx x i v) = v by rw [hg]; exact yi] at this
              have e : (fun j => listed.getD j false = true ∨ j = i) = fun j => (listed.setIfInBounds i true).getD j false = true := funext fun j => propext (hset j).symm
              rwa [e] at this
            exact ih _ _ w' (upx x i v) hsz' hfu' hcl' htl' hlaid2 (by rw [hupd]; exact hS')
          · refine Oper.wp_mono ?_ (hop _ x w adm hSw)
            rintro a' w' ⟨v, h1, h2⟩
            exact ⟨v, h1, h2⟩
      rw [show fuel + 1 + (ops.size - n) = (fuel + (ops.size - n)) + 1 by omega]
      refine ⟨fun hr => ?_, step⟩
      exfalso
      have hall : ∀ i, i < ops.size → listed.getD i false = true := by
        intro i
        induction i using Nat.strongRecOn with
        | _ i ihi =>
          intro hi
          by_cases hn : listed.getD i false = true
          · exact hn
          · have hli : i < listed.size := by omega
            have : i ∈ Region.ready .any ops listed := mem_ready.2 ⟨by
                simp only [Array.getD_eq_getD_getElem?, Array.getElem?_eq_getElem hli, Option.getD_some, Bool.not_eq_true] at hn ⊢
                exact hn, ops[i], Array.getElem?_eq_getElem hi, fun e he hb => ihi e.on (c2 i _ (Array.getElem?_eq_getElem hi) e he hb) (by have := c2 i _ (Array.getElem?_eq_getElem hi) e he hb; omega)⟩
            rw [hr] at this; simp at this
      have h1 := hall j0 (by omega)
      rw [getD_both hj0.2] at h1
      cases h1
  have hcount : (unlistedTo n (Array.replicate ops.size false)).length = n := by
    unfold unlistedTo
    rw [List.filter_eq_self.2, List.length_range]
    intro i hi
    have hi' : i < ops.size := by have := List.mem_range.1 hi; omega
    simp [hi']
  have := main n _ a0 w0 (fun _ => undef) (by simp) hcount (fun i hi => ?_) (fun t _ ht => getD_in (by simpa using ht) (getD_replicate_false _ _)) ⟨rfl, rfl, fun i t hi => ?_, fun _ _ => rfl⟩ (by rw [show (fun i => (Array.replicate ops.size false).getD i false) = fun _ => false from funext fun i => getD_replicate_false _ _]; exact hS)
  · rwa [show n + (ops.size - n) = ops.size by omega] at this
  all_goals
    exfalso
    rw [getD_replicate_false] at hi
    cases hi

theorem wp_region_rg {id : Nat} {a : Act} {w : World} (n : Nat) (S : (Nat → Bool) → (Nat → Value) → World → Prop) (hm : P.follows .mixedOrders = true) (hc : regOkTo n ops = true) (ht : n = ops.size ∨ tailOk ops n = true) (hS : S (fun _ => false) (fun _ => undef) w.drew)
    (h : RG P ops S (fun _ a w => wpList P ops Q (ops.toList.drop n) a w) 0 (ops.toList.take n) (fun _ => a)) : (Code.region id ops true).wp P Q a w :=
  wp_region_any hm (RG.any hc ht h hS)
end
end Go.Proofs.Ythffgbhphjkdeaa
namespace Go.Proofs.Ythffgbhphjkdeaa
open Go.RowKit
set_option linter.unusedVariables false
set_option linter.unusedSimpArgs false

/-- The number of an int. -/
def intOf : Value → Int
  | .int _ n => n
  | _ => 0
/-- A part of a tuple. -/
def tupAt : Value → Nat → Value
  | .tuple vs, i => (vs[i]?).getD undef
  | _, _ => undef
/-- What is known of the values of operations that have come up. -/
def Kall {ζ : Type} : List (Nat × (ζ → Value → Prop)) → (Nat → Bool) → (Nat → Value) → ζ → Prop
  | [], _, _, _ => True
  | e :: l, d, x, p => (d e.1 = true → e.2 p (x e.1)) ∧ Kall l d x p
def Sg {ζ : Type} (W : World) (R : Rg W) (Ld : (Nat → Bool) → ζ → List Blk) (Od : (Nat → Bool) → ζ → List Own) (Ed : (Nat → Bool) → ζ → List Res) (Ks : List (Nat × (ζ → Value → Prop))) (d : Nat → Bool) (x : Nat → Value) (w : World) : Prop :=
  ∃ p, Loc W R (Ld d p) (Od d p) (Ed d p) w ∧ Kall Ks d x p
theorem kall_none {ζ : Type} (x : Nat → Value) (p : ζ) : ∀ Ks : List (Nat × (ζ → Value → Prop)), Kall Ks (fun _ => false) x p
  | [] => trivial
  | _ :: l => ⟨fun h => (Bool.false_ne_true h).elim, kall_none x p l⟩
theorem kall_other {ζ : Type} {d : Nat → Bool} {x : Nat → Value} {p : ζ} {k : Nat} : ∀ {Ks : List (Nat × (ζ → Value → Prop))}, (Ks.all fun e => !Nat.beq e.1 k) = true → Kall Ks d x p → Kall Ks (upd d k) x p
  | [], _, _ => trivial
  | e :: l, h, hk => by
    rw [List.all_cons, Bool.and_eq_true] at h
    refine ⟨fun hd => hk.1 ?_, kall_other h.2 hk.2⟩
    have h1 : Nat.beq e.1 k = false := by simpa using h.1
    unfold upd at hd
    rw [h1] at hd
    simpa using hd
structure SXg {ζ : Type} (P : Program) (n : Nat) (W : World) (R : Rg W) (ops : Array Oper) (Ld : (Nat → Bool) → ζ → List Blk) (Od : (Nat → Bool) → ζ → List Own) (Ed : (Nat → Bool) → ζ → List Res) (Ks : List (Nat × (ζ → Value → Prop))) (k : Nat) (f : (Nat → Value) → List (Nat × Value)) (l : List Oper) (Q : Exit → Act → World → Prop) : Prop where
  run : ∀ F : (Nat → Value) → Act, (∀ x, Fr n (f x) (F x)) → RG P ops (Sg W R Ld Od Ed Ks) Q k l F
/-- What an operation leaves. -/
def PostG {ζ : Type} (W : World) (R : Rg W) (Ld : (Nat → Bool) → ζ → List Blk) (Od : (Nat → Bool) → ζ → List Own) (Ed : (Nat → Bool) → ζ → List Res) (Ks : List (Nat × (ζ → Value → Prop))) (d : Nat → Bool) (k : Nat) (x : Nat → Value) (dst : Option Tmp) (e : Exit) (a : Act) (w : World) : Prop :=
  e = .normal ∧ a.defers = [] ∧ ∃ (p : ζ) (v : Value), (∀ dd, dst = some dd → a.tmps[dd]? = some v) ∧ Loc W R (Ld (upd d k) p) (Od (upd d k) p) (Ed (upd d k) p) w ∧ Kall Ks (upd d k) (upx x k v) p

theorem wp_of_list {P : Program} {ops : Array Oper} {o : Oper} {a : Act} {w : World} {K : Act → World → Prop} (hd : a.defers = []) (hw : Region.wanted o (yielded ops a.tmps) = true)
    (h : wpList P ops (fun e a' w' => e = .normal ∧ a'.defers = [] ∧ K a' w') [o] a w) : o.wp P a w (fun a' w' => ∃ v, a' = a.put o.dst v ∧ K a' w') never := by
  unfold wpList at h
  rw [if_pos hw] at h
  rcases h with h | ⟨_, _, _, h, _⟩
  · unfold Oper.wp at *
    generalize (execOp a.eval o).run P w = r at *
    cases r with
    | ok n w' =>
      cases n <;> simp only [Oper.upon, wpList] at h ⊢
      case value v => exact ⟨v, rfl, h.2.2⟩
      case skip => exact ⟨undef, rfl, h.2.2⟩
      case defer d =>
        have h1 := h.2.1
        rw [put_defers'] at h1
        cases h1
      case enter f args =>
        refine Calls.mono h fun e w'' he => ?_
        cases e with
        | returned u => exact ⟨u, rfl, he.2.2⟩
        | panicked c => exact absurd he.1 (by simp)
        | outgrown => obtain ⟨_, _, hf, _⟩ := he; exact absurd hf (by simp)
      case row row args => exact Rows.mono h fun u w'' he => ⟨u, rfl, he.2.2⟩
    | halt x w' =>
      cases x <;> simp only [Oper.upon, never] at h ⊢
      exact absurd h.1 (by simp)
  · exact absurd h (by simp)

section
variable {ζ : Type} {P : Program} {n : Nat} {W : World} {R : Rg W} {L L' : List Blk} {O O' : List Own} {E E' : List Res} {Ld : (Nat → Bool) → ζ → List Blk} {Od : (Nat → Bool) → ζ → List Own} {Ed : (Nat → Bool) → ζ → List Res} {Ks : List (Nat × (ζ → Value → Prop))} {f : (Nat → Value) → List (Nat × Value)} {f0 : List (Nat × Value)} {Q : Exit → Act → World → Prop} {ops : Array Oper} {rest : List Oper} {k : Nat}
theorem SX.drawnG {id : Nat} {l : List Oper} (m : Nat) (Ld : (Nat → Bool) → ζ → List Blk) (Od : (Nat → Bool) → ζ → List Own) (Ed : (Nat → Bool) → ζ → List Res) (Ks : List (Nat × (ζ → Value → Prop))) (p0 : ζ) (hm : P.follows .mixedOrders = true) (hc : regOkTo m l.toArray = true) (ht : (Nat.beq m l.toArray.size || tailOk l.toArray m) = true)
    (h0 : Ld (fun _ => false) p0 = L ∧ Od (fun _ => false) p0 = O ∧ Ed (fun _ => false) p0 = E)
    (h : SXg P n W R l.toArray Ld Od Ed Ks 0 (fun _ => f0) (l.take m) (fun _ a w => wpList P l.toArray Q (l.drop m) a w)) : SX P n W R L O E f0 (.region id l.toArray true) Q := ⟨fun a w hf hl => by
  refine wp_region_rg m (Sg W R Ld Od Ed Ks) hm hc ?_ ⟨p0, ?_, kall_none _ _ _⟩ (h.run _ fun _ => hf)
  · rcases Bool.or_eq_true_iff.1 ht with h1 | h1
    · exact .inl (Nat.eq_of_beq_eq_true h1)
    · exact .inr h1
  · rw [h0.1, h0.2.1, h0.2.2]
    exact hl.keep ((Mod.refl _ w).drew)⟩
theorem SXg.v {o : Oper} {d : Nat} (us : List Nat) (v : (Nat → Value) → Value) (hus : (us.all fun i => (reach ops ops.size k).contains i) = true) (hv : ∀ x y : Nat → Value, (∀ i ∈ us, x i = y i) → v x = v y)
    (hr : ∀ dn x p, Adm ops dn k → Kall Ks dn x p → OpW P n W R (Ld dn p) (Od dn p) (Ed dn p) (f x) o (v x)) (hdst : o.dst = some d) (hw : ∀ x, wantO ops (f x) o = some true) (hd : Nat.blt d n = true)
    (hs : ∀ dn p, Ld (upd dn k) p = Ld dn p ∧ Od (upd dn k) p = Od dn p ∧ Ed (upd dn k) p = Ed dn p) (hk : (Ks.all fun e => !Nat.beq e.1 k) = true)
    (h : SXg P n W R ops Ld Od Ed Ks (k + 1) (fun x => (d, v x) :: f x) rest Q) : SXg P n W R ops Ld Od Ed Ks k f (o :: rest) Q := ⟨fun F hF =>
  RG.val us v hus hv (fun x => wanted_of (hF x) (hw x)) (fun dn x w ha ⟨p, hl, hK⟩ => wp_never ((hr dn x p ha hK).run _ w (hF x) hl) fun _ _ ⟨h1, h2⟩ => ⟨h1, p, by rw [(hs dn p).1, (hs dn p).2.1, (hs dn p).2.2]; exact hl.keep h2, kall_other hk hK⟩)
    (by rw [hdst]; exact h.run _ fun x => (hF x).put hd (v x))⟩
/-- A value that hangs on no other. -/
theorem SXg.v0 {o : Oper} {d : Nat} {v : Value} (hr : ∀ dn x p, Adm ops dn k → Kall Ks dn x p → OpW P n W R (Ld dn p) (Od dn p) (Ed dn p) (f x) o v) (hdst : o.dst = some d) (hw : ∀ x, wantO ops (f x) o = some true) (hd : Nat.blt d n = true)
    (hs : ∀ dn p, Ld (upd dn k) p = Ld dn p ∧ Od (upd dn k) p = Od dn p ∧ Ed (upd dn k) p = Ed dn p) (hk : (Ks.all fun e => !Nat.beq e.1 k) = true)
    (h : SXg P n W R ops Ld Od Ed Ks (k + 1) (fun x => (d, v) :: f x) rest Q) : SXg P n W R ops Ld Od Ed Ks k f (o :: rest) Q :=
  SXg.v [] (fun _ => v) rfl (fun _ _ _ => rfl) hr hdst hw hd hs hk h
theorem SXg.no {o : Oper} {d : Nat} (hw : ∀ x, wantO ops (f x) o = some false) (hdst : o.dst = some d) (hd : Nat.blt d n = true)
    (hs : ∀ dn p, Ld (upd dn k) p = Ld dn p ∧ Od (upd dn k) p = Od dn p ∧ Ed (upd dn k) p = Ed dn p) (hk : (Ks.all fun e => !Nat.beq e.1 k) = true)
    (h : SXg P n W R ops Ld Od Ed Ks (k + 1) (fun x => (d, undef) :: f x) rest Q) : SXg P n W R ops Ld Od Ed Ks k f (o :: rest) Q := ⟨fun F hF =>
  RG.skip (fun x => wanted_of (hF x) (hw x)) (fun dn x w ⟨p, hl, hK⟩ => ⟨p, by rw [(hs dn p).1, (hs dn p).2.1, (hs dn p).2.2]; exact hl, kall_other hk hK⟩) (by rw [hdst]; exact h.run _ fun x => (hF x).put hd undef)⟩
/-- Any operation, by its rule outside regions. -/
theorem SXg.l {o : Oper} {d : Nat} (hdst : o.dst = some d) (hw : ∀ x, wantO ops (f x) o = some true) (hd : Nat.blt d n = true)
    (hr : ∀ dn x p, Adm ops dn k → Kall Ks dn x p → SXl P n W R ops (Ld dn p) (Od dn p) (Ed dn p) (f x) [o] (PostG W R Ld Od Ed Ks dn k x (some d)))
    (h : SXg P n W R ops Ld Od Ed Ks (k + 1) (fun x => (d, x k) :: f x) rest Q) : SXg P n W R ops Ld Od Ed Ks k f (o :: rest) Q := ⟨fun F hF =>
  RG.new (fun x => wanted_of (hF x) (hw x)) (fun dn x w ha ⟨p, hl, hK⟩ => by
    have h1 := wp_of_list (hF x).defers (wanted_of (hF x) (hw x)) ((hr dn x p ha hK).run _ w (hF x) hl)
    refine Oper.wp_mono ?_ h1
    rintro a' w' ⟨v, rfl, p', v', hv, h2, h3⟩
    have e := hv d rfl
    rw [hdst] at e
    rw [put_at _ d v (Nat.lt_of_lt_of_le (by simpa using hd) (hF x).size)] at e
    obtain rfl := Option.some.inj e
    exact ⟨v, rfl, p', h2, h3⟩) (by rw [hdst]; exact h.run _ fun x => (hF x).put hd _)⟩
/-- An operation that nobody takes a value from. -/
theorem SXg.s {o : Oper} (hdst : o.dst = none) (hw : ∀ x, wantO ops (f x) o = some true)
    (hr : ∀ dn x p, Adm ops dn k → Kall Ks dn x p → SXl P n W R ops (Ld dn p) (Od dn p) (Ed dn p) (f x) [o] (PostG W R Ld Od Ed Ks dn k x none)) (hk : (Ks.all fun e => !Nat.beq e.1 k) = true)
    (h : SXg P n W R ops Ld Od Ed Ks (k + 1) f rest Q) : SXg P n W R ops Ld Od Ed Ks k f (o :: rest) Q := ⟨fun F hF =>
  RG.new (fun x => wanted_of (hF x) (hw x)) (fun dn x w ha ⟨p, hl, hK⟩ => by
    have h1 := wp_of_list (hF x).defers (wanted_of (hF x) (hw x)) ((hr dn x p ha hK).run _ w (hF x) hl)
    refine Oper.wp_mono ?_ h1
    rintro a' w' ⟨v, rfl, p', v', _, h2, h3⟩
    refine ⟨v, rfl, p', h2, ?_⟩
    have other : ∀ (Ks : List (Nat × (ζ → Value → Prop))) (v v' : Value), (Ks.all fun e => !Nat.beq e.1 k) = true → Kall Ks (upd dn k) (upx x k v) p' → Kall Ks (upd dn k) (upx x k v') p' := by
      intro Ks v v'
      induction Ks with
      | nil => intro _ _; trivial
      | cons e l ih =>
        intro hk hK
        rw [List.all_cons, Bool.and_eq_true] at hk
        have h1 : Nat.beq e.1 k = false := by simpa using hk.1
        have e1 : ∀ v, upx x k v e.1 = x e.1 := fun v => by unfold upx; rw [h1]; rfl
        exact ⟨fun hd => by have := hK.1 hd; rw [e1] at this ⊢; exact this, ih hk.2 hK.2⟩
    exact other Ks v' v hk h3) (by rw [hdst]; exact h.run _ fun x => (hF x).puto _)⟩
theorem SQ.g {f' : List (Nat × Value)} {dn : Nat → Bool} {x : Nat → Value} {d : Nat} (p : ζ) (v : Value) (hv : look f' d = some v) (hL : ∀ w, Loc W R L O E w → Loc W R (Ld (upd dn k) p) (Od (upd dn k) p) (Ed (upd dn k) p) w) (hk : Kall Ks (upd dn k) (upx x k v) p) :
    SQ n W R L O E f' .normal (PostG W R Ld Od Ed Ks dn k x (some d)) := ⟨fun a w hf hl => ⟨rfl, hf.defers, p, v, fun dd hd => (Option.some.inj hd) ▸ hf.at_ _ _ hv, hL w hl, hk⟩⟩
theorem SQ.gs {f' : List (Nat × Value)} {dn : Nat → Bool} {x : Nat → Value} (p : ζ) (hL : ∀ w, Loc W R L O E w → Loc W R (Ld (upd dn k) p) (Od (upd dn k) p) (Ed (upd dn k) p) w) (hk : Kall Ks (upd dn k) (upx x k undef) p) :
    SQ n W R L O E f' .normal (PostG W R Ld Od Ed Ks dn k x none) := ⟨fun a w hf hl => ⟨rfl, hf.defers, p, undef, fun dd hd => (nomatch hd), hL w hl, hk⟩⟩
theorem SXg.nil (h : ∀ x p, Kall Ks (fun i => Nat.blt i k) x p → SQ n W R (Ld (fun i => Nat.blt i k) p) (Od (fun i => Nat.blt i k) p) (Ed (fun i => Nat.blt i k) p) (f x) .normal Q) : SXg P n W R ops Ld Od Ed Ks k f [] Q := ⟨fun F hF =>
  RG.done fun x w ⟨p, hl, hK⟩ => (h x p hK).run (F x) w (hF x) hl⟩
theorem SXg.nilW (h : ∀ x p, Kall Ks (fun i => Nat.blt i k) x p → SQ n W R (Ld (fun i => Nat.blt i k) p) (Od (fun i => Nat.blt i k) p) (Ed (fun i => Nat.blt i k) p) (f x) .normal Q) : SXg P n W R ops Ld Od Ed Ks k f [] (fun _ a w => wpList P ops Q [] a w) := ⟨fun F hF =>
  RG.done fun x w ⟨p, hl, hK⟩ => (h x p hK).run (F x) w (hF x) hl⟩
theorem SXg.tail (h : ∀ x p, Kall Ks (fun i => Nat.blt i k) x p → SXl P n W R ops (Ld (fun i => Nat.blt i k) p) (Od (fun i => Nat.blt i k) p) (Ed (fun i => Nat.blt i k) p) (f x) rest Q) : SXg P n W R ops Ld Od Ed Ks k f [] (fun _ a w => wpList P ops Q rest a w) := ⟨fun F hF =>
  RG.done fun x w ⟨p, hl, hK⟩ => (h x p hK).run (F x) w (hF x) hl⟩
theorem Loc.blkPerm {w : World} (h : Loc W R L O E w) (hs : L'.Perm L) : Loc W R L' O E w where
  mod := h.mod
  inv := h.inv
  blk := fun b hb => h.blk b (hs.subset hb)
  apart := (hs.symm.pairwise_iff (fun {a b} hab e => hab e.symm)).1 h.apart
  own := fun o ho => ⟨(h.own o ho).1, fun b hb => (h.own o ho).2 b (hs.subset hb)⟩
  ownApart := h.ownApart
  res := fun F hF => ⟨(h.res F hF).1, (h.res F hF).2.1, fun b hb => (h.res F hF).2.2.1 b (hs.subset hb), (h.res F hF).2.2.2⟩
  resNew := h.resNew
  resApart := h.resApart
theorem Loc.blkSub {w : World} (h : Loc W R L O E w) (hs : L'.Sublist L) : Loc W R L' O E w where
  mod := h.mod
  inv := h.inv
  blk := fun b hb => h.blk b (hs.subset hb)
  apart := h.apart.sublist hs
  own := fun o ho => ⟨(h.own o ho).1, fun b hb => (h.own o ho).2 b (hs.subset hb)⟩
  ownApart := h.ownApart
  res := fun F hF => ⟨(h.res F hF).1, (h.res F hF).2.1, fun b hb => (h.res F hF).2.2.1 b (hs.subset hb), (h.res F hF).2.2.2⟩
  resNew := h.resNew
  resApart := h.resApart
/-- Of the blocks only the first are held on. -/
theorem Loc.blkTake {w : World} (h : Loc W R L O E w) (k : Nat) : Loc W R (L.take k) O E w := h.blkSub (List.take_sublist k L)
theorem Loc.blkLast {b : Blk} {w : World} (h : Loc W R (b :: L) O E w) : Loc W R (L ++ [b]) O E w := h.blkPerm (List.perm_append_singleton b L)
end
end Go.Proofs.Ythffgbhphjkdeaa
namespace Go.Proofs.Ythffgbhphjkdeaa
open Go.RowKit
set_option linter.unusedVariables false
set_option linter.unusedSimpArgs false

/-- Where the part from i on lies. -/
def fromAddr (a : Option Addr) (c i sz : Nat) : Option Addr := if c = i then a else a.map (·.add (i * sz))
theorem SliceAt.takeS {α : Type} {rep : World → List Value → α → Prop} {sz : Nat} {R : Nat → Prop} {w : World} {a : Option Addr} {l : List α} (h : SliceAt rep sz R w a l) (i : Nat) : SliceAt rep sz R w a (l.take i) := by
  obtain ⟨rows, h1, h2, h3⟩ := h
  refine ⟨rows.take i, ?_, by simp [h2], fun j r x hr hx => ?_⟩
  · rcases h1 with rfl | ⟨b, o, rfl, hR, hb, h⟩
    · exact .inl (by simp)
    · refine .inr ⟨b, o, rfl, hR, hb, fun j r hr => ?_⟩
      rw [List.getElem?_take] at hr
      split at hr
      · exact h j r hr
      · cases hr
  · rw [List.getElem?_take] at hr hx
    split at hr
    · rename_i hj
      rw [if_pos hj] at hx
      exact h3 j r x hr hx
    · cases hr
theorem SliceAt.dropS {α : Type} {rep : World → List Value → α → Prop} {sz : Nat} {R : Nat → Prop} {w : World} {a : Option Addr} {l : List α} {c : Nat} (h : SliceAt rep sz R w a l) (hc : l.length ≤ c) (i : Nat) : SliceAt rep sz R w (fromAddr a c i sz) (l.drop i) := by
  obtain ⟨rows, h1, h2, h3⟩ := h
  refine ⟨rows.drop i, ?_, by simp [h2], fun j r x hr hx => ?_⟩
  · by_cases hi : l.length ≤ i
    · exact .inl (List.drop_eq_nil_of_le (by omega))
    · rcases h1 with rfl | ⟨b, o, rfl, hR, hb, h⟩
      · exact .inl (by simp)
      · refine .inr ⟨b, o + i * sz, ?_, hR, hb, fun j r hr => ?_⟩
        · unfold fromAddr
          rw [if_neg (by omega)]
          simp [Addr.add_lit]
        · rw [List.getElem?_drop] at hr
          have := h (i + j) r hr
          refine ⟨this.1, fun m v hv => ?_⟩
          have := this.2 m v hv
          rwa [Nat.add_mul, ← Nat.add_assoc] at this
  · rw [List.getElem?_drop] at hr hx
    exact h3 (i + j) r x hr hx
section
variable {P : Program} {n : Nat} {W : World} {R : Rg W} {L : List Blk} {O : List Own} {E : List Res} {f : List (Nat × Value)} {d : Option Tmp} {T : TypeId} {x y : Operand} {ty : TypeId} {pos : String} {af : Array Edge} {gd : Option (Nat × Bool)}
theorem OpW.sliceFromS {e sz m c i : Nat} {a : Option Addr} [t : TSl P T e sz] (hx : evO f x = some (.slice a m c)) (hy : evO f y = some (.int .i64 (i : Int))) (hi : i ≤ m) : OpW P n W R L O E f ⟨d, .slice T x (some y) none none, ty, pos, af, gd⟩ (.slice (fromAddr a c i sz) (m - i) (c - i)) :=
  OpW.of (fun q w hf _ => by
    obtain ⟨h1, h2⟩ := t.h
    obtain ⟨ti, hti, hs⟩ := Option.map_eq_some_iff.1 h2
    have h0 : (0 : Int) ≤ (i : Int) ∧ (i : Int) ≤ (m : Int) := by omega
    simp [execOp, hf.eval hx, hf.eval hy, Instr.sliceAt, Instr.slice, run_underlying h1, Instr.sliceBounds, Instr.sliceBound, asIntOf, h0, sizeOf, typeInfo, hti, hs, fromAddr]
    intro; omega)
theorem OpW.sliceToS {e sz m c i : Nat} {a : Option Addr} [t : TSl P T e sz] (hx : evO f x = some (.slice a m c)) (hy : evO f y = some (.int .i64 (i : Int))) (hi : i ≤ c) : OpW P n W R L O E f ⟨d, .slice T x none (some y) none, ty, pos, af, gd⟩ (.slice a i c) :=
  OpW.of (fun q w hf _ => by
    obtain ⟨h1, h2⟩ := t.h
    obtain ⟨ti, hti, hs⟩ := Option.map_eq_some_iff.1 h2
    have h0 : (0 : Int) ≤ (i : Int) ∧ (i : Int) ≤ (c : Int) := by omega
    have e0 : (a.map fun u => u.add 0) = a := by
      cases a with
      | none => rfl
      | some u => simp [Addr.add_zero']
    simp [execOp, hf.eval hx, hf.eval hy, Instr.sliceAt, Instr.slice, run_underlying h1, Instr.sliceBounds, Instr.sliceBound, asIntOf, h0, sizeOf, typeInfo, hti, hs, e0]
    try (intro; omega))
end
end Go.Proofs.Ythffgbhphjkdeaa
namespace Go.Proofs.Ythffgbhphjkdeaa
open Go.RowKit
set_option linter.unusedVariables false
set_option linter.unusedSimpArgs false

instance tfvMeas2 : TFv Try.prog 86 3 62 := ⟨_, _, _, Try.underlying86, rfl, rfl, Try.underlying4, rfl⟩
/-- No slice of children is longer than its room. -/
def KidsCap (w : World) (a : Option Addr) (m : Nat) : Prop := ∀ b o, a = some ⟨b, o, none⟩ → ∀ i, i < m → ∀ ka kn kc, w.cell? ⟨b, o + i * 64 + 1, none⟩ = some (.slice ka kn kc) → kn ≤ kc
theorem tree_cap {base : Nat} {w : World} {l : List PNode} {a : Option Addr} {c : Nat} (h : Owns base w (treeO l a c)) : KidsCap w a l.length := by
  rintro b o rfl i hi ka kn kc hc
  obtain ⟨g, hg⟩ := tree_addr h (by omega)
  simp only [Option.some.injEq, Addr.mk.injEq, and_true] at hg
  obtain ⟨rfl, rfl⟩ := hg
  have hx := List.getElem?_eq_getElem hi
  generalize l[i] = x at hx
  have h1 := nodes_cell h hx (nodeRow_1 _ _ _ _ _ _ _ _ _)
  rw [hc] at h1
  simp only [Option.some.injEq, Value.slice.injEq] at h1
  obtain ⟨rfl, rfl, rfl⟩ := h1
  have h2 := h.row _ (List.mem_cons_of_mem _ (partsO_mem (List.mem_of_getElem? hx)).1)
  simp only [kidsO] at h2
  rcases h2.2 with ⟨_, h3⟩ | ⟨g, cap, cur, hv, _, _, h3, _⟩
  · omega
  · injection hv with _ _ h4
    omega

/-- A list built up by three appends. -/
structure Ch3 where
  g0 : Nat
  g1 : Nat
  a1 : Option Addr
  c1 : Nat
  a2 : Option Addr
  c2 : Nat
  a3 : Option Addr
  c3 : Nat
  deriving Inhabited
def ch0O (p : Ch3) : Own := ⟨.slice (some ⟨p.g0, 0, none⟩) 0 0, 3, 1, 0, []⟩
def ch1O (A : List Int) (p : Ch3) : Own := ⟨.slice p.a1 A.length p.c1, 3, 1, A.length, (A.map icell).flatten⟩
def ch2O (A : List Int) (y : Int) (p : Ch3) : Own := ⟨.slice p.a2 (A.length + 1) p.c2, 3, 1, A.length + 1, (A.map icell).flatten ++ [.int .i64 y]⟩
def ch3O (A : List Int) (y : Int) (B : List Int) (p : Ch3) : Own := ⟨.slice p.a3 (A.length + 1 + B.length) p.c3, 3, 1, A.length + 1 + B.length, (A.map icell).flatten ++ [.int .i64 y] ++ (B.map icell).flatten⟩
set_option maxRecDepth 100000 in
set_option maxHeartbeats 16000000 in
theorem sinsertKid_any (l : List Node) (n kid at_ : Int) (o : Bool) (a : Option Addr) (c : Nat) (R : Nat → Prop) (w : World) (hlen : l.length ≤ 1048576) (hfit : ∀ x ∈ l, x.fits 1048576) (h : NodeSlice o R w a l) (hcap : KidsCap w a l.length) :
    Calls Try.prog 20 #[.agg #[.slice a l.length c], .int .i64 n, .int .i64 kid, .int .i64 at_] w (NewTreeC (insertKid l n kid at_) w) := by
  have hT := fun w' (hm : Mod (fun _ => False) w w') => streeOk_any l o a c R w' hlen hfit (h.keep hm)
  refine calls_sx Try.func20 rfl rfl (fun a h1 h2 h3 => ((((Fr.nil h1 h2).arg (h3 3 _ rfl)).arg (h3 2 _ rfl)).arg (h3 1 _ rfl)).arg (h3 0 _ rfl)) ?_
  repeat (first | refine qan ?_ | refine qaj ?_ | refine qaf ?_ | refine qad ?_ | (refine qaw ?_; (refine qac (qal 1 rfl rfl rfl) rfl ?_ ?_ ?_); rfl; rfl) | (refine qam ?_; (refine qac (qah rfl) rfl ?_ ?_ ?_); rfl; rfl) | (refine qaH ?_; refine SXl.alloc ?_ ?_ (fun g => ?_); rfl; rfl) | (refine l_box ?_; refine qaM ?_ ?_ rfl rfl (fun g => ?_); rfl; rfl))
  rename_i g8
  revert g; intro g9
  refine qau ?_
  refine SXl.callO rfl rfl rfl (fun w' hl => scopyTree_any l o a c R w' hlen hfit (h.keep hl.mod)) (fun q hq => ?_)
  have hql := TreeQ.len hq
  rw [List.append_nil]
  cases hv : treeOk l
  · have e : insertKid l n kid at_ = (l, 1) := by simp [insertKid, hv]
    rw [e]
    rw [hv] at hT
    repeat (first | refine qan ?_ | refine qaj ?_ | refine qaf ?_ | refine qad ?_ | refine SX.block ?_ | refine qaq rfl ?_ | (refine qaS rfl rfl rfl ?_) | (refine qau ?_; (refine qac (qao rfl (fun w hl => hT _ hl.mod)) rfl ?_ ?_ ?_); rfl; rfl) | (refine qaw ?_; (first | refine qac (qal 0 rfl rfl rfl) rfl ?_ ?_ ?_ | refine qac (qal 2 rfl rfl rfl) rfl ?_ ?_ ?_); rfl; rfl) | (refine qap ?_; (refine qac (qak rfl) rfl ?_ ?_ ?_); rfl; rfl) | (refine qam ?_; (refine qac (qah rfl) rfl ?_ ?_ ?_); rfl; rfl) | (refine l_not ?_; (refine qac (OpW.not rfl) rfl ?_ ?_ ?_); rfl; rfl) | (refine qaG ?_; (refine qac (qay rfl rfl rfl) rfl ?_ ?_ ?_); rfl; rfl) | (refine qaH ?_; refine SXl.alloc ?_ ?_ (fun g => ?_); rfl; rfl) | (refine qas ?_; first | ((first | refine qag 0 ?_ rfl rfl rfl rfl rfl rfl ?_ | refine qag 1 ?_ rfl rfl rfl rfl rfl rfl ?_ | refine qag 2 ?_ rfl rfl rfl rfl rfl rfl ?_); rfl; simp only [List.set_cons_zero, List.set_cons_succ]) | ((first | refine qaa 0 ?_ rfl rfl rfl rfl rfl rfl rfl ?_ | refine qaa 1 ?_ rfl rfl rfl rfl rfl rfl rfl ?_ | refine qaa 2 ?_ rfl rfl rfl rfl rfl rfl rfl ?_); rfl; simp only [List.set_cons_zero, List.set_cons_succ]) | ((first | refine qab 0 ?_ rfl rfl rfl rfl rfl rfl rfl ?_ | refine qab 1 ?_ rfl rfl rfl rfl rfl rfl rfl ?_ | refine qab 2 ?_ rfl rfl rfl rfl rfl rfl rfl ?_); rfl; simp only [over, List.set_cons_zero, List.set_cons_succ])) | refine qaz ?_ | refine qax ?_ | refine qaD ?_)
    refine qaL 1 rfl rfl rfl rfl rfl (fun w' hl => ⟨q, rfl, hq, hl.owns, hl.mod⟩)
  rw [hv] at hT
  cases hn : inB n 1 l.length
  · have e : insertKid l n kid at_ = (l, 1) := by simp [insertKid, hn]
    rw [e]
    repeat (first | refine qan ?_ | refine qaj ?_ | refine qaf ?_ | refine qad ?_ | refine SX.block ?_ | refine qaq rfl ?_ | (refine qaS rfl rfl rfl ?_) | (refine qau ?_; (first | refine qac (qao rfl (fun w hl => hT _ hl.mod)) rfl ?_ ?_ ?_ | refine qac (qao (args := [.agg #[.slice a l.length c], .int .i64 n]) rfl (fun w hl => sisNode_any _ _ _ _ _)) rfl ?_ ?_ ?_); rfl; rfl) | (refine qaw ?_; (first | refine qac (qal 0 rfl rfl rfl) rfl ?_ ?_ ?_ | refine qac (qal 2 rfl rfl rfl) rfl ?_ ?_ ?_); rfl; rfl) | (refine qap ?_; (refine qac (qak rfl) rfl ?_ ?_ ?_); rfl; rfl) | (refine qam ?_; (refine qac (qah rfl) rfl ?_ ?_ ?_); rfl; rfl) | (refine l_not ?_; (refine qac (OpW.not rfl) rfl ?_ ?_ ?_); rfl; rfl) | (refine qaG ?_; (refine qac (qay rfl rfl rfl) rfl ?_ ?_ ?_); rfl; rfl) | (refine qaH ?_; refine SXl.alloc ?_ ?_ (fun g => ?_); rfl; rfl) | (refine qas ?_; first | ((first | refine qag 0 ?_ rfl rfl rfl rfl rfl rfl ?_ | refine qag 1 ?_ rfl rfl rfl rfl rfl rfl ?_ | refine qag 2 ?_ rfl rfl rfl rfl rfl rfl ?_); rfl; simp only [List.set_cons_zero, List.set_cons_succ]) | ((first | refine qaa 0 ?_ rfl rfl rfl rfl rfl rfl rfl ?_ | refine qaa 1 ?_ rfl rfl rfl rfl rfl rfl rfl ?_ | refine qaa 2 ?_ rfl rfl rfl rfl rfl rfl rfl ?_); rfl; simp only [List.set_cons_zero, List.set_cons_succ]) | ((first | refine qab 0 ?_ rfl rfl rfl rfl rfl rfl rfl ?_ | refine qab 1 ?_ rfl rfl rfl rfl rfl rfl rfl ?_ | refine qab 2 ?_ rfl rfl rfl rfl rfl rfl rfl ?_); rfl; simp only [over, List.set_cons_zero, List.set_cons_succ])) | (rw [hn]) | refine qaz ?_ | refine qax ?_ | refine qaD ?_)
    refine qaL 1 rfl rfl rfl rfl rfl (fun w' hl => ⟨q, rfl, hq, hl.owns, hl.mod⟩)
  cases hk : inB kid 1 l.length
  · have e : insertKid l n kid at_ = (l, 1) := by simp [insertKid, hk]
    rw [e]
    repeat (first | refine qan ?_ | refine qaj ?_ | refine qaf ?_ | refine qad ?_ | refine SX.block ?_ | refine qaq rfl ?_ | (refine qau ?_; (first | refine qac (qao rfl (fun w hl => hT _ hl.mod)) rfl ?_ ?_ ?_ | refine qac (qao rfl (fun w hl => sisNode_any _ _ _ _ _)) rfl ?_ ?_ ?_); rfl; rfl) | (refine qaw ?_; (first | refine qac (qal 0 rfl rfl rfl) rfl ?_ ?_ ?_ | refine qac (qal 2 rfl rfl rfl) rfl ?_ ?_ ?_); rfl; rfl) | (refine qap ?_; (refine qac (qak rfl) rfl ?_ ?_ ?_); rfl; rfl) | (refine qam ?_; (refine qac (qah rfl) rfl ?_ ?_ ?_); rfl; rfl) | (refine l_not ?_; (refine qac (OpW.not rfl) rfl ?_ ?_ ?_); rfl; rfl) | (refine qaG ?_; (refine qac (qay rfl rfl rfl) rfl ?_ ?_ ?_); rfl; rfl) | (refine qaH ?_; refine SXl.alloc ?_ ?_ (fun g => ?_); rfl; rfl) | (refine qas ?_; first | ((first | refine qag 0 ?_ rfl rfl rfl rfl rfl rfl ?_ | refine qag 1 ?_ rfl rfl rfl rfl rfl rfl ?_ | refine qag 2 ?_ rfl rfl rfl rfl rfl rfl ?_); rfl; simp only [List.set_cons_zero, List.set_cons_succ]) | ((first | refine qaa 0 ?_ rfl rfl rfl rfl rfl rfl rfl ?_ | refine qaa 1 ?_ rfl rfl rfl rfl rfl rfl rfl ?_ | refine qaa 2 ?_ rfl rfl rfl rfl rfl rfl rfl ?_); rfl; simp only [List.set_cons_zero, List.set_cons_succ]) | ((first | refine qab 0 ?_ rfl rfl rfl rfl rfl rfl rfl ?_ | refine qab 1 ?_ rfl rfl rfl rfl rfl rfl rfl ?_ | refine qab 2 ?_ rfl rfl rfl rfl rfl rfl rfl ?_); rfl; simp only [over, List.set_cons_zero, List.set_cons_succ])) | (rw [hn]) | (rw [hk]) | refine qaz ?_ | refine qax ?_ | refine qaD ?_)
    refine qaL 1 rfl rfl rfl rfl rfl (fun w' hl => ⟨q, rfl, hq, hl.owns, hl.mod⟩)
  have hU := fun w' (hm : Mod (fun _ => False) w w') => sisUnder_any l n kid o a c R w' hv (h.keep hm)
  by_cases hne : kid = n
  · subst hne
    have e : insertKid l kid kid at_ = (l, 2) := by simp [insertKid, hv, hn]
    rw [e]
    repeat (first | refine qan ?_ | refine qaj ?_ | refine qaf ?_ | refine qad ?_ | refine SX.block ?_ | refine qaq rfl ?_ | refine qat rfl ?_ | (refine qaS rfl rfl rfl ?_) | (refine qau ?_; (first | refine qac (qao rfl (fun w hl => hT _ hl.mod)) rfl ?_ ?_ ?_ | refine qac (qao rfl (fun w hl => sisNode_any _ _ _ _ _)) rfl ?_ ?_ ?_); rfl; rfl) | (refine qaw ?_; (first | refine qac (qal 0 rfl rfl rfl) rfl ?_ ?_ ?_ | refine qac (qal 2 rfl rfl rfl) rfl ?_ ?_ ?_); rfl; rfl) | (refine qap ?_; (refine qac (qak rfl) rfl ?_ ?_ ?_); rfl; rfl) | (refine qam ?_; (refine qac (qah rfl) rfl ?_ ?_ ?_); rfl; rfl) | (refine l_eql ?_; (refine qac (qaQ rfl rfl (by omega)) rfl ?_ ?_ ?_); rfl; rfl) | (refine l_not ?_; (refine qac (OpW.not rfl) rfl ?_ ?_ ?_); rfl; rfl) | (refine qaG ?_; (refine qac (qay rfl rfl rfl) rfl ?_ ?_ ?_); rfl; rfl) | (refine qaH ?_; refine SXl.alloc ?_ ?_ (fun g => ?_); rfl; rfl) | (refine qas ?_; first | ((first | refine qag 0 ?_ rfl rfl rfl rfl rfl rfl ?_ | refine qag 1 ?_ rfl rfl rfl rfl rfl rfl ?_ | refine qag 2 ?_ rfl rfl rfl rfl rfl rfl ?_); rfl; simp only [List.set_cons_zero, List.set_cons_succ]) | ((first | refine qaa 0 ?_ rfl rfl rfl rfl rfl rfl rfl ?_ | refine qaa 1 ?_ rfl rfl rfl rfl rfl rfl rfl ?_ | refine qaa 2 ?_ rfl rfl rfl rfl rfl rfl rfl ?_); rfl; simp only [List.set_cons_zero, List.set_cons_succ]) | ((first | refine qab 0 ?_ rfl rfl rfl rfl rfl rfl rfl ?_ | refine qab 1 ?_ rfl rfl rfl rfl rfl rfl rfl ?_ | refine qab 2 ?_ rfl rfl rfl rfl rfl rfl rfl ?_); rfl; simp only [over, List.set_cons_zero, List.set_cons_succ])) | (rw [hn]) | refine qaz ?_ | refine qax ?_ | refine qaD ?_)
    refine qaL 1 rfl rfl rfl rfl rfl (fun w' hl => ⟨q, rfl, hq, hl.owns, hl.mod⟩)
  cases hu : isUnder l n kid
  rotate_left
  · have e : insertKid l n kid at_ = (l, 2) := by simp [insertKid, hv, hn, hk, hu]
    rw [e]
    rw [hu] at hU
    repeat (first | refine qan ?_ | refine qaj ?_ | refine qaf ?_ | refine qad ?_ | refine SX.block ?_ | refine qaq rfl ?_ | refine qat rfl ?_ | (refine qau ?_; (first | refine qac (qao rfl (fun w hl => hT _ hl.mod)) rfl ?_ ?_ ?_ | refine qac (qao rfl (fun w hl => sisNode_any _ _ _ _ _)) rfl ?_ ?_ ?_ | refine qac (qao rfl (fun w hl => hU _ hl.mod)) rfl ?_ ?_ ?_); rfl; rfl) | (refine qaw ?_; (first | refine qac (qal 0 rfl rfl rfl) rfl ?_ ?_ ?_ | refine qac (qal 2 rfl rfl rfl) rfl ?_ ?_ ?_); rfl; rfl) | (refine qap ?_; (refine qac (qak rfl) rfl ?_ ?_ ?_); rfl; rfl) | (refine qam ?_; (refine qac (qah rfl) rfl ?_ ?_ ?_); rfl; rfl) | (refine l_eql ?_; (refine qac (qaP rfl rfl (by omega)) rfl ?_ ?_ ?_); rfl; rfl) | (refine l_not ?_; (refine qac (OpW.not rfl) rfl ?_ ?_ ?_); rfl; rfl) | (refine qaG ?_; (refine qac (qay rfl rfl rfl) rfl ?_ ?_ ?_); rfl; rfl) | (refine qaH ?_; refine SXl.alloc ?_ ?_ (fun g => ?_); rfl; rfl) | (refine qas ?_; first | ((first | refine qag 0 ?_ rfl rfl rfl rfl rfl rfl ?_ | refine qag 1 ?_ rfl rfl rfl rfl rfl rfl ?_ | refine qag 2 ?_ rfl rfl rfl rfl rfl rfl ?_); rfl; simp only [List.set_cons_zero, List.set_cons_succ]) | ((first | refine qaa 0 ?_ rfl rfl rfl rfl rfl rfl rfl ?_ | refine qaa 1 ?_ rfl rfl rfl rfl rfl rfl rfl ?_ | refine qaa 2 ?_ rfl rfl rfl rfl rfl rfl rfl ?_); rfl; simp only [List.set_cons_zero, List.set_cons_succ]) | ((first | refine qab 0 ?_ rfl rfl rfl rfl rfl rfl rfl ?_ | refine qab 1 ?_ rfl rfl rfl rfl rfl rfl rfl ?_ | refine qab 2 ?_ rfl rfl rfl rfl rfl rfl rfl ?_); rfl; simp only [over, List.set_cons_zero, List.set_cons_succ])) | (rw [hn]) | (rw [hk]) | refine qaz ?_ | refine qax ?_ | refine qaD ?_)
    refine qaL 1 rfl rfl rfl rfl rfl (fun w' hl => ⟨q, rfl, hq, hl.owns, hl.mod⟩)
  rw [hu] at hU
  obtain ⟨kn, x, rfl, hkn, hx, hnx⟩ := node_get hn
  obtain ⟨kk, y, rfl, hkk, hy, hny⟩ := node_get hk
  obtain ⟨p, hp⟩ := pnode_get hq hx
  obtain ⟨py, hpy⟩ := pnode_get hq hy
  obtain ⟨b1, o1, x1, r1, rfl, hR1, hb1, hxk, hr1, hl1, hc1⟩ := h.get hkn
  obtain rfl : x1 = x := Option.some.inj (hxk.out.symm.trans hx)
  obtain ⟨ka, kc, rra, rrc, rfl, hk1, ht1, _⟩ := hr1
  obtain ⟨b2, o2, y1, r2, e2, hR2, hb2, hyk, hr2, hl2, hc2⟩ := h.get hkk
  obtain ⟨rfl, rfl⟩ : b1 = b2 ∧ o1 = o2 := by simpa using e2
  obtain rfl : y1 = y := Option.some.inj (hyk.out.symm.trans hy)
  obtain ⟨kb, kd, rrb, rrd, rfl, _, _, _⟩ := hr2
  have hkc := hcap _ _ rfl kn hkn _ _ _ (hc1 1 _ (nodeRow_1 _ _ _ _ _ _ _ _ _))
  have hkl : x1.kids.length ≤ 12 := ok_kids_len hv hx
  by_cases h0 : y1.up = 0
  rotate_left
  · have e : insertKid l ((kn + 1 : Nat) : Int) ((kk + 1 : Nat) : Int) at_ = (l, 3) := by simp only [insertKid, hv, hn, hk, hu, hny, decide_eq_false hne, decide_eq_true h0]; rfl
    rw [e]
    repeat (first | refine qan ?_ | refine qaj ?_ | refine qaf ?_ | refine qad ?_ | refine SX.block ?_ | refine qaq rfl ?_ | refine qat rfl ?_ | (refine qaS rfl rfl rfl ?_) | (refine qau ?_; (first | refine qac (qao rfl (fun w hl => hT _ hl.mod)) rfl ?_ ?_ ?_ | refine qac (qao rfl (fun w hl => sisNode_any _ _ _ _ _)) rfl ?_ ?_ ?_ | refine qac (qao rfl (fun w hl => hU _ hl.mod)) rfl ?_ ?_ ?_ | refine qac (qao (args := [.agg #[.slice (some ⟨b1, o1, none⟩) l.length c], .int .i64 ((kk + 1 : Nat) : Int)]) rfl (fun w hl => snode_any _ _ _ _ kk _ _ _ _ _ _ _ _ _ w (by omega) hkk (fun j v hv => hl.old (hc2 j v hv) (fun h => h)))) rfl ?_ ?_ ?_); rfl; rfl) | (refine l_field ?_; (refine qac (OpW.field rfl (nodeRow_a0 _ _ _ _ _ _ _ _ _)) rfl ?_ ?_ ?_); rfl; rfl) | (refine qaw ?_; (first | refine qac (qal 0 rfl rfl rfl) rfl ?_ ?_ ?_ | refine qac (qal 2 rfl rfl rfl) rfl ?_ ?_ ?_); rfl; rfl) | (refine qap ?_; (refine qac (qak rfl) rfl ?_ ?_ ?_); rfl; rfl) | (refine qam ?_; (refine qac (qah rfl) rfl ?_ ?_ ?_); rfl; rfl) | (refine l_eql ?_; (refine qac (qaP rfl rfl (by omega)) rfl ?_ ?_ ?_); rfl; rfl) | (refine l_neq ?_; (refine qac (OpW.neqT rfl rfl (by omega)) rfl ?_ ?_ ?_); rfl; rfl) | (refine l_not ?_; (refine qac (OpW.not rfl) rfl ?_ ?_ ?_); rfl; rfl) | (refine qaG ?_; (refine qac (qay rfl rfl rfl) rfl ?_ ?_ ?_); rfl; rfl) | (refine qaH ?_; refine SXl.alloc ?_ ?_ (fun g => ?_); rfl; rfl) | (refine qas ?_; first | ((first | refine qag 0 ?_ rfl rfl rfl rfl rfl rfl ?_ | refine qag 1 ?_ rfl rfl rfl rfl rfl rfl ?_ | refine qag 2 ?_ rfl rfl rfl rfl rfl rfl ?_); rfl; simp only [List.set_cons_zero, List.set_cons_succ]) | ((first | refine qaa 0 ?_ rfl rfl rfl rfl rfl rfl rfl ?_ | refine qaa 1 ?_ rfl rfl rfl rfl rfl rfl rfl ?_ | refine qaa 2 ?_ rfl rfl rfl rfl rfl rfl rfl ?_); rfl; simp only [List.set_cons_zero, List.set_cons_succ]) | ((first | refine qab 0 ?_ rfl rfl rfl rfl rfl rfl rfl ?_ | refine qab 1 ?_ rfl rfl rfl rfl rfl rfl rfl ?_ | refine qab 2 ?_ rfl rfl rfl rfl rfl rfl rfl ?_); rfl; simp only [over, List.set_cons_zero, List.set_cons_succ])) | (rw [hn]) | (rw [hk]) | refine qaz ?_ | refine qax ?_ | refine qaD ?_)
    refine qaL 1 rfl rfl rfl rfl rfl (fun w' hl => ⟨q, rfl, hq, hl.owns, hl.mod⟩)
  cases ha : inB at_ 0 x1.kids.length
  · have e : insertKid l ((kn + 1 : Nat) : Int) ((kk + 1 : Nat) : Int) at_ = (l, 3) := by simp only [insertKid, hv, hn, hk, hu, hny, hnx, decide_eq_false hne, ha]; simp
    rw [e]
    repeat (first | refine qan ?_ | refine qaj ?_ | refine qaf ?_ | refine qad ?_ | refine SX.block ?_ | refine qaq rfl ?_ | refine qat rfl ?_ | (refine qau ?_; (first | refine qac (qao rfl (fun w hl => hT _ hl.mod)) rfl ?_ ?_ ?_ | refine qac (qao rfl (fun w hl => sisNode_any _ _ _ _ _)) rfl ?_ ?_ ?_ | refine qac (qao rfl (fun w hl => hU _ hl.mod)) rfl ?_ ?_ ?_ | refine qac (qao (args := [.agg #[.slice (some ⟨b1, o1, none⟩) l.length c], .int .i64 ((kk + 1 : Nat) : Int)]) rfl (fun w hl => snode_any _ _ _ _ kk _ _ _ _ _ _ _ _ _ w (by omega) hkk (fun j v hv => hl.old (hc2 j v hv) (fun h => h)))) rfl ?_ ?_ ?_ | refine qac (qao (args := [.agg #[.slice (some ⟨b1, o1, none⟩) l.length c], .int .i64 ((kn + 1 : Nat) : Int)]) rfl (fun w hl => snode_any _ _ _ _ kn _ _ _ _ _ _ _ _ _ w (by omega) hkn (fun j v hv => hl.old (hc1 j v hv) (fun h => h)))) rfl ?_ ?_ ?_ | refine qac (qaN rfl (fun w _ => l01In_any _ _ _ _)) rfl ?_ ?_ ?_); rfl; rfl) | (refine l_field ?_; (first | refine qac (OpW.field rfl (nodeRow_a0 _ _ _ _ _ _ _ _ _)) rfl ?_ ?_ ?_ | refine qac (OpW.field rfl (nodeRow_a1 _ _ _ _ _ _ _ _ _)) rfl ?_ ?_ ?_); rfl; rfl) | (refine qaw ?_; (first | refine qac (qal 0 rfl rfl rfl) rfl ?_ ?_ ?_ | refine qac (qal 2 rfl rfl rfl) rfl ?_ ?_ ?_); rfl; rfl) | (refine qap ?_; (refine qac (qak rfl) rfl ?_ ?_ ?_); rfl; rfl) | (refine qam ?_; (refine qac (qah rfl) rfl ?_ ?_ ?_); rfl; rfl) | (refine l_len ?_; (refine qac (OpW.len rfl) rfl ?_ ?_ ?_); rfl; rfl) | (refine l_eql ?_; (refine qac (qaP rfl rfl (by omega)) rfl ?_ ?_ ?_); rfl; rfl) | (refine l_neq ?_; (refine qac (OpW.neqF rfl rfl (by omega)) rfl ?_ ?_ ?_); rfl; rfl) | (refine l_not ?_; (refine qac (OpW.not rfl) rfl ?_ ?_ ?_); rfl; rfl) | (refine qaG ?_; (refine qac (qay rfl rfl rfl) rfl ?_ ?_ ?_); rfl; rfl) | (refine qaH ?_; refine SXl.alloc ?_ ?_ (fun g => ?_); rfl; rfl) | (refine qas ?_; first | ((first | refine qag 0 ?_ rfl rfl rfl rfl rfl rfl ?_ | refine qag 1 ?_ rfl rfl rfl rfl rfl rfl ?_ | refine qag 2 ?_ rfl rfl rfl rfl rfl rfl ?_); rfl; simp only [List.set_cons_zero, List.set_cons_succ]) | ((first | refine qaa 0 ?_ rfl rfl rfl rfl rfl rfl rfl ?_ | refine qaa 1 ?_ rfl rfl rfl rfl rfl rfl rfl ?_ | refine qaa 2 ?_ rfl rfl rfl rfl rfl rfl rfl ?_); rfl; simp only [List.set_cons_zero, List.set_cons_succ]) | ((first | refine qab 0 ?_ rfl rfl rfl rfl rfl rfl rfl ?_ | refine qab 1 ?_ rfl rfl rfl rfl rfl rfl rfl ?_ | refine qab 2 ?_ rfl rfl rfl rfl rfl rfl rfl ?_); rfl; simp only [over, List.set_cons_zero, List.set_cons_succ])) | (rw [hn]) | (rw [hk]) | (rw [ha]) | refine qaz ?_ | refine qax ?_ | refine qaD ?_)
    refine qaL 1 rfl rfl rfl rfl rfl (fun w' hl => ⟨q, rfl, hq, hl.owns, hl.mod⟩)
  cases hme : x1.measured
  rotate_left
  · have e : insertKid l ((kn + 1 : Nat) : Int) ((kk + 1 : Nat) : Int) at_ = (l, 6) := by simp only [insertKid, hv, hn, hk, hu, hny, hnx, decide_eq_false hne, ha, h0, hme]; simp
    rw [e]
    repeat (first | refine qan ?_ | refine qaj ?_ | refine qaf ?_ | refine qad ?_ | refine SX.block ?_ | refine qaq rfl ?_ | refine qat rfl ?_ | (refine qau ?_; (first | refine qac (qao rfl (fun w hl => hT _ hl.mod)) rfl ?_ ?_ ?_ | refine qac (qao rfl (fun w hl => sisNode_any _ _ _ _ _)) rfl ?_ ?_ ?_ | refine qac (qao rfl (fun w hl => hU _ hl.mod)) rfl ?_ ?_ ?_ | refine qac (qao (args := [.agg #[.slice (some ⟨b1, o1, none⟩) l.length c], .int .i64 ((kk + 1 : Nat) : Int)]) rfl (fun w hl => snode_any _ _ _ _ kk _ _ _ _ _ _ _ _ _ w (by omega) hkk (fun j v hv => hl.old (hc2 j v hv) (fun h => h)))) rfl ?_ ?_ ?_ | refine qac (qao (args := [.agg #[.slice (some ⟨b1, o1, none⟩) l.length c], .int .i64 ((kn + 1 : Nat) : Int)]) rfl (fun w hl => snode_any _ _ _ _ kn _ _ _ _ _ _ _ _ _ w (by omega) hkn (fun j v hv => hl.old (hc1 j v hv) (fun h => h)))) rfl ?_ ?_ ?_ | refine qac (qaN rfl (fun w _ => l01In_any _ _ _ _)) rfl ?_ ?_ ?_); rfl; rfl) | (refine l_field ?_; (first | refine qac (OpW.field rfl (nodeRow_a0 _ _ _ _ _ _ _ _ _)) rfl ?_ ?_ ?_ | refine qac (OpW.field rfl (nodeRow_a1 _ _ _ _ _ _ _ _ _)) rfl ?_ ?_ ?_ | refine qac (OpW.field rfl (nodeRow_a62 _ _ _ _ _ _ _ _ _)) rfl ?_ ?_ ?_); rfl; rfl) | (refine qaw ?_; (first | refine qac (qal 0 rfl rfl rfl) rfl ?_ ?_ ?_ | refine qac (qal 2 rfl rfl rfl) rfl ?_ ?_ ?_); rfl; rfl) | (refine qap ?_; (refine qac (qak rfl) rfl ?_ ?_ ?_); rfl; rfl) | (refine qam ?_; (refine qac (qah rfl) rfl ?_ ?_ ?_); rfl; rfl) | (refine l_len ?_; (refine qac (OpW.len rfl) rfl ?_ ?_ ?_); rfl; rfl) | (refine l_eql ?_; (refine qac (qaP rfl rfl (by omega)) rfl ?_ ?_ ?_); rfl; rfl) | (refine l_neq ?_; (refine qac (OpW.neqF rfl rfl (by omega)) rfl ?_ ?_ ?_); rfl; rfl) | (refine l_not ?_; (refine qac (OpW.not rfl) rfl ?_ ?_ ?_); rfl; rfl) | (refine qaG ?_; (refine qac (qay rfl rfl rfl) rfl ?_ ?_ ?_); rfl; rfl) | (refine qaH ?_; refine SXl.alloc ?_ ?_ (fun g => ?_); rfl; rfl) | (refine qas ?_; first | ((first | refine qag 0 ?_ rfl rfl rfl rfl rfl rfl ?_ | refine qag 1 ?_ rfl rfl rfl rfl rfl rfl ?_ | refine qag 2 ?_ rfl rfl rfl rfl rfl rfl ?_); rfl; simp only [List.set_cons_zero, List.set_cons_succ]) | ((first | refine qaa 0 ?_ rfl rfl rfl rfl rfl rfl rfl ?_ | refine qaa 1 ?_ rfl rfl rfl rfl rfl rfl rfl ?_ | refine qaa 2 ?_ rfl rfl rfl rfl rfl rfl rfl ?_); rfl; simp only [List.set_cons_zero, List.set_cons_succ]) | ((first | refine qab 0 ?_ rfl rfl rfl rfl rfl rfl rfl ?_ | refine qab 1 ?_ rfl rfl rfl rfl rfl rfl rfl ?_ | refine qab 2 ?_ rfl rfl rfl rfl rfl rfl rfl ?_); rfl; simp only [over, List.set_cons_zero, List.set_cons_succ])) | (rw [hn]) | (rw [hk]) | (rw [ha]) | (rw [hme]) | refine qaz ?_ | refine qax ?_ | refine qaD ?_)
    refine qaL 1 rfl rfl rfl rfl rfl (fun w' hl => ⟨q, rfl, hq, hl.owns, hl.mod⟩)
  obtain ⟨i, rfl, hi⟩ : ∃ i : Nat, at_ = (i : Int) ∧ i ≤ x1.kids.length := by
    have := inB_eq.1 ha
    exact ⟨at_.toNat, by omega, by omega⟩
  have e : insertKid l ((kn + 1 : Nat) : Int) ((kk + 1 : Nat) : Int) (i : Int) = if treeOk (putKid l ((kn + 1 : Nat) : Int) ((kk + 1 : Nat) : Int) i) then (putKid l ((kn + 1 : Nat) : Int) ((kk + 1 : Nat) : Int) i, 0) else (l, 7) := by simp only [insertKid, hv, hn, hk, hu, hny, hnx, decide_eq_false hne, ha, h0, hme, Int.toNat_natCast]; simp
  rw [e]
  obtain ⟨ps, qa, qc⟩ := q
  simp only at hq hql hp hpy
  refine SXl.know (fun w hl => tree_addr (l := ps) (a := qa) (c := qc) hl.owns (by omega)) (fun ⟨gt, hgt⟩ => ?_)
  subst hgt
  have hkp : kn < ps.length := by omega
  repeat (first | refine qan ?_ | refine qaj ?_ | refine qaf ?_ | refine qad ?_ | refine SX.block ?_ | refine qaC ?_ | refine qat rfl ?_ | (refine qau ?_; (first | refine qac (qao rfl (fun w hl => hT _ hl.mod)) rfl ?_ ?_ ?_ | refine qac (qao rfl (fun w hl => sisNode_any _ _ _ _ _)) rfl ?_ ?_ ?_ | refine qac (qao rfl (fun w hl => hU _ hl.mod)) rfl ?_ ?_ ?_ | refine qac (qao (args := [.agg #[.slice (some ⟨b1, o1, none⟩) l.length c], .int .i64 ((kk + 1 : Nat) : Int)]) rfl (fun w hl => snode_any _ _ _ _ kk _ _ _ _ _ _ _ _ _ w (by omega) hkk (fun j v hv => hl.old (hc2 j v hv) (fun h => h)))) rfl ?_ ?_ ?_ | refine qac (qao (args := [.agg #[.slice (some ⟨b1, o1, none⟩) l.length c], .int .i64 ((kn + 1 : Nat) : Int)]) rfl (fun w hl => snode_any _ _ _ _ kn _ _ _ _ _ _ _ _ _ w (by omega) hkn (fun j v hv => hl.old (hc1 j v hv) (fun h => h)))) rfl ?_ ?_ ?_ | refine qac (qaN rfl (fun w _ => l01In_any _ _ _ _)) rfl ?_ ?_ ?_); rfl; rfl) | (refine l_field ?_; (first | refine qac (OpW.field rfl (nodeRow_a0 _ _ _ _ _ _ _ _ _)) rfl ?_ ?_ ?_ | refine qac (OpW.field rfl (nodeRow_a1 _ _ _ _ _ _ _ _ _)) rfl ?_ ?_ ?_ | refine qac (OpW.field rfl (nodeRow_a62 _ _ _ _ _ _ _ _ _)) rfl ?_ ?_ ?_); rfl; rfl) | (refine qaw ?_; (refine qac (qal 2 rfl rfl rfl) rfl ?_ ?_ ?_); rfl; rfl) | (refine qap ?_; (refine qac (qak rfl) rfl ?_ ?_ ?_); rfl; rfl) | (refine qam ?_; (refine qac (qah rfl) rfl ?_ ?_ ?_); rfl; rfl) | (refine l_len ?_; (refine qac (OpW.len rfl) rfl ?_ ?_ ?_); rfl; rfl) | (refine l_eql ?_; (refine qac (qaP rfl rfl (by omega)) rfl ?_ ?_ ?_); rfl; rfl) | (refine l_neq ?_; (refine qac (OpW.neqF rfl rfl (by omega)) rfl ?_ ?_ ?_); rfl; rfl) | (refine l_not ?_; (refine qac (OpW.not rfl) rfl ?_ ?_ ?_); rfl; rfl) | (refine qaG ?_; (refine qac (qay rfl rfl rfl) rfl ?_ ?_ ?_); rfl; rfl) | (refine qaH ?_; refine SXl.alloc ?_ ?_ (fun g => ?_); rfl; rfl) | (refine qas ?_; first | ((first | refine qag 0 ?_ rfl rfl rfl rfl rfl rfl ?_ | refine qag 1 ?_ rfl rfl rfl rfl rfl rfl ?_ | refine qag 2 ?_ rfl rfl rfl rfl rfl rfl ?_); rfl; simp only [List.set_cons_zero, List.set_cons_succ]) | ((first | refine qaa 0 ?_ rfl rfl rfl rfl rfl rfl rfl ?_ | refine qaa 1 ?_ rfl rfl rfl rfl rfl rfl rfl ?_ | refine qaa 2 ?_ rfl rfl rfl rfl rfl rfl rfl ?_); rfl; simp only [List.set_cons_zero, List.set_cons_succ]) | ((first | refine qab 0 ?_ rfl rfl rfl rfl rfl rfl rfl ?_ | refine qab 1 ?_ rfl rfl rfl rfl rfl rfl rfl ?_ | refine qab 2 ?_ rfl rfl rfl rfl rfl rfl rfl ?_); rfl; simp only [over, List.set_cons_zero, List.set_cons_succ])) | (rw [hn]) | (rw [hk]) | (rw [ha]) | (rw [hme]) | refine qar ?_)
  obtain ⟨A, B, hAB, hA⟩ : ∃ A B : List Int, x1.kids = A ++ B ∧ A.length = i := ⟨x1.kids.take i, x1.kids.drop i, (List.take_append_drop _ _).symm, by rw [List.length_take]; omega⟩
  have hAe : x1.kids.take i = A := by rw [hAB, ← hA, List.take_left]
  have hBe : x1.kids.drop i = B := by rw [hAB, ← hA, List.drop_left]
  have hBl : x1.kids.length - i = B.length := by rw [hAB, List.length_append]; omega
  have hkA := SliceAt.takeS hk1 i
  have hkB := SliceAt.dropS hk1 hkc i
  rw [hAe] at hkA
  rw [hBe] at hkB
  refine SX.drawnG (ζ := Ch3) 16 (fun d p => [⟨g, [.slice (some ⟨gt, 0, none⟩) ps.length qc], 37⟩, ⟨g9, [.slice none 0 0], 37⟩, ⟨g8, [.slice (some ⟨b1, o1, none⟩) l.length c], 37⟩] ++ (bif d 10 then [⟨p.g1, [.int .i64 ((kk + 1 : Nat) : Int)], 3⟩] else []))
    (fun d p => (bif d 4 then [bif d 15 then ch3O A ((kk + 1 : Nat) : Int) B p else bif d 11 then ch2O A ((kk + 1 : Nat) : Int) p else bif d 8 then ch1O A p else ch0O p] else []) ++ treeO ps (some ⟨gt, 0, none⟩) qc) (fun _ _ => [])
    [(4, fun p v => v = .slice (some ⟨p.g0, 0, none⟩) 0 0), (8, fun p v => v = .slice p.a1 A.length p.c1), (10, fun p v => v = .slice (some ⟨p.g1, 0, none⟩) 1 1), (11, fun p v => v = .slice p.a2 (A.length + 1) p.c2), (15, fun p v => v = .slice p.a3 (A.length + 1 + B.length) p.c3)] default (by kernel_rfl) (by kernel_rfl) (by kernel_rfl) ⟨rfl, rfl, rfl⟩ ?_
  repeat (first | (refine SXg.v0 (fun dn x p ha hK => (qav 0 rfl rfl rfl)) rfl (fun _ => rfl) rfl (fun _ _ => ⟨rfl, rfl, rfl⟩) rfl ?_) | (refine SXg.v0 (fun dn x p ha hK => (qae rfl)) rfl (fun _ => rfl) rfl (fun _ _ => ⟨rfl, rfl, rfl⟩) rfl ?_) | (refine SXg.v0 (fun dn x p ha hK => (qak rfl)) rfl (fun _ => rfl) rfl (fun _ _ => ⟨rfl, rfl, rfl⟩) rfl ?_) | (refine SXg.v0 (fun dn x p ha hK => (OpW.subi rfl rfl (by omega) (by omega))) rfl (fun _ => rfl) rfl (fun _ _ => ⟨rfl, rfl, rfl⟩) rfl ?_))
  refine SXg.l rfl (fun _ => rfl) rfl (fun dn x p ha hk => ?_) ?_
  · have d8 : dn 8 = false := ha.later 8 (by kernel_rfl)
    have u8 : upd dn 4 8 = false := d8
    have d11 : dn 11 = false := ha.later 11 (by kernel_rfl)
    have u11 : upd dn 4 11 = false := d11
    have d15 : dn 15 = false := ha.later 15 (by kernel_rfl)
    have u15 : upd dn 4 15 = false := d15
    have d4 : dn 4 = false := ha.not
    have u4 : upd dn 4 4 = true := rfl
    have u10 : upd dn 4 10 = dn 10 := rfl
    simp only [d8, d11, d15, d4, cond_true, cond_false, List.append_nil, List.nil_append]
    refine SXl.lit0R rfl rfl (fun _ h => h) (fun g => ?_)
    refine qaj (SQ.g { p with g0 := g } _ rfl (fun w hl => ?_) ⟨fun _ => rfl, hk.2.1, hk.2.2.1, hk.2.2.2.1, hk.2.2.2.2.1, trivial⟩)
    simp only [u8, u11, u15, u4, u10, cond_true, cond_false, List.append_nil, List.nil_append]
    exact hl
  repeat (first | (refine SXg.v0 (fun dn x p ha hK => ((OpW.sliceToS rfl rfl (by omega)))) rfl (fun _ => rfl) rfl (fun _ _ => ⟨rfl, rfl, rfl⟩) rfl ?_) | (refine SXg.v0 (fun dn x p ha hK => (qak rfl)) rfl (fun _ => rfl) rfl (fun _ _ => ⟨rfl, rfl, rfl⟩) rfl ?_))
  refine SXg.l rfl (fun _ => rfl) rfl (fun dn x p ha hk => ?_) ?_
  · have d4 : dn 4 = true := ha.done 4 (by kernel_rfl)
    have u4 : upd dn 8 4 = true := d4
    have d11 : dn 11 = false := ha.later 11 (by kernel_rfl)
    have u11 : upd dn 8 11 = false := d11
    have d15 : dn 15 = false := ha.later 15 (by kernel_rfl)
    have u15 : upd dn 8 15 = false := d15
    have d8 : dn 8 = false := ha.not
    have u8 : upd dn 8 8 = true := rfl
    have u10 : upd dn 8 10 = dn 10 := rfl
    simp only [d4, d11, d15, d8, cond_true, cond_false, List.append_nil, List.nil_append]
    have x4 : x 4 = .slice (some ⟨p.g0, 0, none⟩) 0 0 := hk.1 d4
    simp only [x4]
    refine SXl.appendS (cs := icell) 0 A rfl rfl rfl rfl rfl hA.symm (fun _ => rfl) icell_one1 (fun w hl => ⟨_, SliceAt.flatKeep hkA hl.mod⟩) (by omega) (by omega) (fun a' c' => ?_)
    simp only [List.set_cons_zero, Nat.zero_add, List.nil_append]
    refine qaj (SQ.g { p with a1 := a', c1 := c' } _ rfl (fun w hl => ?_) ⟨hk.1, fun _ => rfl, hk.2.2.1, hk.2.2.2.1, hk.2.2.2.2.1, trivial⟩)
    simp only [u4, u11, u15, u8, u10, cond_true, cond_false, List.append_nil, List.nil_append]
    exact hl
  repeat ((refine SXg.v0 (fun dn x p ha hK => (qak rfl)) rfl (fun _ => rfl) rfl (fun _ _ => ⟨rfl, rfl, rfl⟩) rfl ?_))
  refine SXg.l rfl (fun _ => rfl) rfl (fun dn x p ha hk => ?_) ?_
  · have d11 : dn 11 = false := ha.later 11 (by kernel_rfl)
    have u11 : upd dn 10 11 = false := d11
    have d15 : dn 15 = false := ha.later 15 (by kernel_rfl)
    have u15 : upd dn 10 15 = false := d15
    have d10 : dn 10 = false := ha.not
    have u10 : upd dn 10 10 = true := rfl
    have u4 : upd dn 10 4 = dn 4 := rfl
    have u8 : upd dn 10 8 = dn 8 := rfl
    simp only [d11, d15, d10, cond_true, cond_false, List.append_nil, List.nil_append]
    refine SXl.lit1 rfl rfl rfl rfl rfl (fun g => ?_)
    refine qaj (SQ.g { p with g1 := g } _ rfl (fun w hl => ?_) ⟨hk.1, hk.2.1, fun _ => rfl, hk.2.2.2.1, hk.2.2.2.2.1, trivial⟩)
    simp only [u11, u15, u10, u4, u8, cond_true, cond_false, List.append_nil, List.nil_append]
    exact hl.blkLast
  skip
  refine SXg.l rfl (fun _ => rfl) rfl (fun dn x p ha hk => ?_) ?_
  · have d4 : dn 4 = true := ha.done 4 (by kernel_rfl)
    have u4 : upd dn 11 4 = true := d4
    have d8 : dn 8 = true := ha.done 8 (by kernel_rfl)
    have u8 : upd dn 11 8 = true := d8
    have d10 : dn 10 = true := ha.done 10 (by kernel_rfl)
    have u10 : upd dn 11 10 = true := d10
    have d15 : dn 15 = false := ha.later 15 (by kernel_rfl)
    have u15 : upd dn 11 15 = false := d15
    have d11 : dn 11 = false := ha.not
    have u11 : upd dn 11 11 = true := rfl
    simp only [d4, d8, d10, d15, d11, cond_true, cond_false, List.append_nil, List.nil_append]
    have x8 : x 8 = .slice p.a1 A.length p.c1 := hk.2.1 d8
    have x10 : x 10 = .slice (some ⟨p.g1, 0, none⟩) 1 1 := hk.2.2.1 d10
    simp only [x8, x10]
    refine SXl.append 0 3 rfl rfl rfl rfl rfl rfl rfl rfl (by omega) (by omega) (fun a' c' => ?_)
    try simp only [List.set_cons_zero]
    refine qaj (SQ.g { p with a2 := a', c2 := c' } _ rfl (fun w hl => ?_) ⟨hk.1, hk.2.1, hk.2.2.1, fun _ => rfl, hk.2.2.2.2.1, trivial⟩)
    simp only [u4, u8, u10, u15, u11, cond_true, cond_false, List.append_nil, List.nil_append]
    exact hl
  repeat (first | (refine SXg.v0 (fun dn x p ha hK => ((OpW.sliceFromS rfl rfl (by omega)))) rfl (fun _ => rfl) rfl (fun _ _ => ⟨rfl, rfl, rfl⟩) rfl ?_) | (refine SXg.v0 (fun dn x p ha hK => (qak rfl)) rfl (fun _ => rfl) rfl (fun _ _ => ⟨rfl, rfl, rfl⟩) rfl ?_))
  refine SXg.l rfl (fun _ => rfl) rfl (fun dn x p ha hk => ?_) ?_
  · have d4 : dn 4 = true := ha.done 4 (by kernel_rfl)
    have u4 : upd dn 15 4 = true := d4
    have d8 : dn 8 = true := ha.done 8 (by kernel_rfl)
    have u8 : upd dn 15 8 = true := d8
    have d10 : dn 10 = true := ha.done 10 (by kernel_rfl)
    have u10 : upd dn 15 10 = true := d10
    have d11 : dn 11 = true := ha.done 11 (by kernel_rfl)
    have u11 : upd dn 15 11 = true := d11
    have d15 : dn 15 = false := ha.not
    have u15 : upd dn 15 15 = true := rfl
    simp only [d4, d8, d10, d11, d15, cond_true, cond_false, List.append_nil, List.nil_append]
    have x11 : x 11 = .slice p.a2 (A.length + 1) p.c2 := hk.2.2.2.1 d11
    simp only [x11]
    refine SXl.appendS (cs := icell) 0 B rfl rfl rfl rfl rfl hBl (fun _ => rfl) icell_one1 (fun w hl => ⟨_, SliceAt.flatKeep hkB hl.mod⟩) (by omega) (by omega) (fun a' c' => ?_)
    try simp only [List.set_cons_zero]
    refine qaj (SQ.g { p with a3 := a', c3 := c' } _ rfl (fun w hl => ?_) ⟨hk.1, hk.2.1, hk.2.2.1, hk.2.2.2.1, fun _ => rfl, trivial⟩)
    simp only [u4, u8, u10, u11, u15, cond_true, cond_false, List.append_nil, List.nil_append]
    exact hl
  refine SXg.tail (fun xq pq hkq => ?_)
  have x15 : xq 15 = .slice pq.a3 (A.length + 1 + B.length) pq.c3 := hkq.2.2.2.2.1 rfl
  simp only [x15]
  have hk3 : ch3O A ((kk + 1 : Nat) : Int) B pq = kidsO (({ x1 with kids := A ++ [((kk + 1 : Nat) : Int)] ++ B } : Node), ({ p with ka := pq.a3, kc := pq.c3 } : NodeP)) := by
    unfold ch3O kidsO
    rw [show A.length + 1 + B.length = (A ++ [((kk + 1 : Nat) : Int)] ++ B).length by simp only [List.length_append, List.length_singleton], List.map_append, List.map_append, List.flatten_append, List.flatten_append]
    rfl
  show SXl _ _ _ _ _ [_, _, _, _] (ch3O A ((kk + 1 : Nat) : Int) B pq :: treeO ps (some ⟨gt, 0, none⟩) qc) _ _ _ _
  rw [hk3]
  have hlAB : (A ++ [((kk + 1 : Nat) : Int)] ++ B).length = A.length + 1 + B.length := by simp only [List.length_append, List.length_singleton]
  repeat (first | (refine qaI ?_; (refine qac ((qaF (i := kn) hkp rfl (congrArg (fun i : Int => some (Value.int .i64 i)) (by omega : ((kn + 1 : Nat) : Int) - 1 = (kn : Int))))) rfl ?_ ?_ ?_); rfl; rfl) | (refine qai ?_; (refine qac (qae rfl) rfl ?_ ?_ ?_); rfl; rfl))
  refine SXl.treeKids0 (c := qc) (({ x1 with kids := A ++ [((kk + 1 : Nat) : Int)] ++ B } : Node), ({ p with ka := pq.a3, kc := pq.c3 } : NodeP)) hp rfl rfl rfl rfl (by rw [← hlAB]; rfl) rfl ?_
  have hkk2 : kk ≠ kn := by omega
  have hpy2 : (ps.set kn (({ x1 with kids := A ++ [((kk + 1 : Nat) : Int)] ++ B } : Node), ({ p with ka := pq.a3, kc := pq.c3 } : NodeP)))[kk]? = some (y1, py) := by rw [List.getElem?_set_ne (fun e => hkk2 e.symm)]; exact hpy
  have hkp2 : kk < ps.length := by omega
  repeat (first | refine qan ?_ | refine qaj ?_ | refine qaf ?_ | refine qad ?_ | (refine qaI ?_; (refine qac ((qaF (i := kk) hkp2 rfl (congrArg (fun i : Int => some (Value.int .i64 i)) (by omega : ((kk + 1 : Nat) : Int) - 1 = (kk : Int))))) rfl ?_ ?_ ?_); rfl; rfl) | (refine qaw ?_; (refine qac (qav 0 rfl rfl rfl) rfl ?_ ?_ ?_); rfl; rfl) | (refine qai ?_; (refine qac (qae rfl) rfl ?_ ?_ ?_); rfl; rfl) | (refine qap ?_; (refine qac (qak rfl) rfl ?_ ?_ ?_); rfl; rfl) | (refine l_sub ?_; (refine qac (OpW.subi rfl rfl (by omega) (by omega)) rfl ?_ ?_ ?_); rfl; rfl))
  refine SXl.treeCell0 (c := qc) ({ y1 with up := ((kn + 1 : Nat) : Int) }, py) hpy2 rfl rfl rfl rfl (by decide) rfl rfl rfl ?_
  obtain ⟨P2, hP2⟩ : ∃ P2, P2 = (ps.set kn (({ x1 with kids := A ++ [((kk + 1 : Nat) : Int)] ++ B } : Node), ({ p with ka := pq.a3, kc := pq.c3 } : NodeP))).set kk ({ y1 with up := ((kn + 1 : Nat) : Int) }, py) := ⟨_, rfl⟩
  rw [← hP2]
  have hb2 : bare P2 = putKid l ((kn + 1 : Nat) : Int) ((kk + 1 : Nat) : Int) i := by
    rw [hP2, bare_set, bare_set, hq]
    unfold putKid
    rw [hnx, hny, hAe, hBe, show (((kn + 1 : Nat) : Int) - 1).toNat = kn by omega, show (((kk + 1 : Nat) : Int) - 1).toNat = kk by omega]
  have hb2l : (bare P2).length = ps.length := by rw [hP2]; simp [bare]
  have hfit2 : ∀ z ∈ bare P2, z.fits 1048576 := fun z hz => by
    rw [hP2, bare_set, bare_set, hq] at hz
    have hfx := hfit x1 (List.mem_of_getElem? hx)
    have hfy := hfit y1 (List.mem_of_getElem? hy)
    rcases List.mem_or_eq_of_mem_set hz with hz | rfl
    · rcases List.mem_or_eq_of_mem_set hz with hz | rfl
      · exact hfit z hz
      · refine ⟨?_, hfx.2⟩
        show (A ++ [((kk + 1 : Nat) : Int)] ++ B).length ≤ _
        rw [hlAB]
        omega
    · exact hfy
  have hT2 := fun w' h2 => streeOk_any (bare P2) false (some ⟨gt, 0, none⟩) qc (fun k => w.heap.size ≤ k) w' (by omega) hfit2 h2
  rw [hb2l, hb2] at hT2
  cases hok : treeOk (putKid l ((kn + 1 : Nat) : Int) ((kk + 1 : Nat) : Int) i)
  · rw [if_neg (by simp)]
    rw [hok] at hT2
    repeat (first | refine qan ?_ | refine qaj ?_ | refine qaf ?_ | refine qad ?_ | refine qaq rfl ?_ | (refine qau ?_; (refine qac (qao rfl (fun w hl => hT2 _ (hb2 ▸ tree_in hl.owns))) rfl ?_ ?_ ?_); rfl; rfl) | (refine qaw ?_; (first | refine qac (qal 0 rfl rfl rfl) rfl ?_ ?_ ?_ | refine qac (qal 2 rfl rfl rfl) rfl ?_ ?_ ?_); rfl; rfl) | (refine l_not ?_; (refine qac (OpW.not rfl) rfl ?_ ?_ ?_); rfl; rfl))
    refine qau ?_
    refine SXl.callO rfl rfl rfl (fun w' hl => scopyTree_any l o _ c R w' hlen hfit (h.keep hl.mod)) (fun q2 hq2 => ?_)
    repeat (first | refine qaj ?_ | refine qad ?_ | (refine qam ?_; (refine qac (qah rfl) rfl ?_ ?_ ?_); rfl; rfl) | (refine qas ?_; first | ((first | refine qag 0 ?_ rfl rfl rfl rfl rfl rfl ?_ | refine qag 1 ?_ rfl rfl rfl rfl rfl rfl ?_ | refine qag 2 ?_ rfl rfl rfl rfl rfl rfl ?_); rfl; simp only [List.set_cons_zero, List.set_cons_succ]) | ((first | refine qaa 0 ?_ rfl rfl rfl rfl rfl rfl rfl ?_ | refine qaa 1 ?_ rfl rfl rfl rfl rfl rfl rfl ?_ | refine qaa 2 ?_ rfl rfl rfl rfl rfl rfl rfl ?_); rfl; simp only [List.set_cons_zero, List.set_cons_succ]) | ((first | refine qab 0 ?_ rfl rfl rfl rfl rfl rfl rfl ?_ | refine qab 1 ?_ rfl rfl rfl rfl rfl rfl rfl ?_ | refine qab 2 ?_ rfl rfl rfl rfl rfl rfl rfl ?_); rfl; simp only [over, List.set_cons_zero, List.set_cons_succ])) | refine qaz ?_ | refine qax ?_)
    refine qaL 1 rfl rfl rfl rfl rfl (fun w' hl => ⟨q2, rfl, hq2, hl.owns.left, hl.mod⟩)
  · rw [if_pos rfl]
    rw [hok] at hT2
    repeat (first | refine qan ?_ | refine qaj ?_ | refine qaf ?_ | refine qad ?_ | refine qaC ?_ | refine qat rfl ?_ | (refine qau ?_; (refine qac (qao rfl (fun w hl => hT2 _ (hb2 ▸ tree_in hl.owns))) rfl ?_ ?_ ?_); rfl; rfl) | (refine qaw ?_; (refine qac (qal 0 rfl rfl rfl) rfl ?_ ?_ ?_); rfl; rfl) | (refine qam ?_; (refine qac (qah rfl) rfl ?_ ?_ ?_); rfl; rfl) | (refine l_not ?_; (refine qac (OpW.not rfl) rfl ?_ ?_ ?_); rfl; rfl) | (refine qas ?_; first | ((first | refine qag 0 ?_ rfl rfl rfl rfl rfl rfl ?_ | refine qag 1 ?_ rfl rfl rfl rfl rfl rfl ?_ | refine qag 2 ?_ rfl rfl rfl rfl rfl rfl ?_); rfl; simp only [List.set_cons_zero, List.set_cons_succ]) | ((first | refine qaa 0 ?_ rfl rfl rfl rfl rfl rfl rfl ?_ | refine qaa 1 ?_ rfl rfl rfl rfl rfl rfl rfl ?_ | refine qaa 2 ?_ rfl rfl rfl rfl rfl rfl rfl ?_); rfl; simp only [List.set_cons_zero, List.set_cons_succ]) | ((first | refine qab 0 ?_ rfl rfl rfl rfl rfl rfl rfl ?_ | refine qab 1 ?_ rfl rfl rfl rfl rfl rfl rfl ?_ | refine qab 2 ?_ rfl rfl rfl rfl rfl rfl rfl ?_); rfl; simp only [over, List.set_cons_zero, List.set_cons_succ])) | refine qaz ?_)
    refine qaL 1 rfl rfl rfl rfl rfl (fun w' hl => ⟨⟨P2, some ⟨gt, 0, none⟩, qc⟩, ?_, hb2, hl.owns, hl.mod⟩)
    rw [show ps.length = P2.length by rw [← hb2l, bare_len]]
    rfl
end Go.Proofs.Ythffgbhphjkdeaa
namespace Go.Proofs.Ythffgbhphjkdeaa
open Go.RowKit
set_option linter.unusedVariables false
set_option linter.unusedSimpArgs false

/-- A cell that holds an int holds one of 64 bits. -/
def CellOk (v : Value) : Prop := ∀ n : Int, v = .int .i64 n → I64 n
def AllOk (c : List Value) : Prop := ∀ v ∈ c, CellOk v
theorem cellOk_int {n : Int} (h : I64 n) : CellOk (.int .i64 n) := fun m e => by cases e; exact h
theorem cellOk_bool (b : Bool) : CellOk (.bool b) := fun m e => by cases e
theorem AllOk.set {c : List Value} (h : AllOk c) {v : Value} (hv : CellOk v) (j : Nat) : AllOk (c.set j v) := fun u hu => by
  rcases List.mem_or_eq_of_mem_set hu with hu | rfl
  · exact h u hu
  · exact hv
theorem AllOk.over : ∀ {r c : List Value} {j : Nat}, AllOk c → AllOk r → AllOk (over c j r)
  | [], _, _, h, _ => h
  | v :: r, c, j, h, hr => AllOk.over (r := r) (h.set (hr v List.mem_cons_self) j) (fun u hu => hr u (List.mem_cons_of_mem _ hu))
theorem allOk_of {c : List Value} (h : c.all (fun v => match v with | .int .i64 n => decide (-9223372036854775808 ≤ n) && decide (n ≤ 9223372036854775807) | _ => true) = true) : AllOk c := fun v hv n e => by
  have := List.all_eq_true.1 h v hv
  subst e
  simp only [Bool.and_eq_true, decide_eq_true_eq] at this
  exact this
theorem SXl.drop1 {P : Program} {n : Nat} {W : World} {R : Rg W} {L : List Blk} {O : List Own} {E : List Res} {f : List (Nat × Value)} {Q : Exit → Go.Act → World → Prop} {ops : Array Oper} {rest : List Oper} {b : Blk} (h : SXl P n W R ops L O E f rest Q) : SXl P n W R ops (b :: L) O E f rest Q := ⟨fun a w hf hl => h.run a w hf hl.drop1⟩

theorem below_d (B gc : Nat) (w : World) (hc : Cur B 141 w gc) (n : Int) (h0 : 0 < n) (h1 : n ≤ 1000000000) : Calls Try.prog 111 #[.pointer (some ⟨gc, 0, none⟩), .int .i64 n] w (DrewV 141 B gc w (fun x : Int => .int .i64 x) (fun x => 0 ≤ x ∧ x < n)) :=
  (l01Below_any B gc w hc n h1).mono fun e w' ⟨x, hx, he, hc, hm⟩ => ⟨x, he, by omega, hm, hc⟩
theorem once_d (B gc : Nat) (w : World) (hc : Cur B 141 w gc) (n : Int) (h1 : n ≤ 1000000000) : Calls Try.prog 69 #[.pointer (some ⟨gc, 0, none⟩), .int .i64 n] w (DrewV 141 B gc w (fun b : Bool => .bool b) (fun _ => True)) :=
  (l01Once_any B gc w hc n h1).mono fun e w' ⟨b, he, hc, hm⟩ => ⟨b, he, trivial, hm, hc⟩
theorem pick_d {W : World} {B gc b : Nat} {hg : gc < W.heap.size} {hB : B ≤ gc} {L : List Blk} {O : List Own} {E : List Res} {w : World} {l : List Int} (hl : Loc W (curRg 141 B gc W hg hB) (⟨b, l.map (.int .i64), 3⟩ :: L) O E w) (h0 : 0 < l.length) (h1 : l.length ≤ 1000) :
    Calls Try.prog 71 #[.pointer (some ⟨gc, 0, none⟩), .slice (some ⟨b, 0, none⟩) l.length l.length] w (DrewV 141 B gc w (fun x : Int => .int .i64 x) (fun x => x ∈ l)) := by
  obtain ⟨hb, hcell⟩ := hl.blk _ (.head _)
  have hne : b ≠ gc := by
    rcases hb with h | h
    · exact h.elim
    · simp only at h; omega
  refine (l01PickInt_any B gc w hl.inv b l.length l (fun i hi => ?_) h0 h1 hne).mono fun e w' h => Drew.v h
  have := blk_cell (j := i) (v := .int .i64 (l.getD i 0)) hcell (by simp [List.getElem?_eq_getElem hi, List.getD, hi])
  rw [Nat.zero_add]
  exact this

set_option maxRecDepth 100000 in
set_option maxHeartbeats 8000000 in
theorem l02Int_d (B gc : Nat) (w : World) (hc : Cur B 141 w gc) : Calls Try.prog 126 #[.pointer (some ⟨gc, 0, none⟩)] w (DrewV 141 B gc w (fun x : Int => .int .i64 x) (fun x => I64 x)) := by
  refine calls_draw (as_ := [.pointer (some ⟨gc, 0, none⟩)]) hc Try.func126 rfl rfl (fun a h1 h2 h3 => ((Fr.nil h1 h2).arg (h3 0 _ rfl))) ?_
  repeat (first | refine qan ?_ | refine qaj ?_ | refine qaf ?_ | refine qad ?_ | (refine qap ?_; (refine qac (qak rfl) rfl ?_ ?_ ?_); rfl; rfl) | (refine qam ?_; (refine qac (qah rfl) rfl ?_ ?_ ?_); rfl; rfl))
  refine qau ?_
  refine qaB (ξ := Int) (v := fun x : Int => .int .i64 x) rfl rfl rfl (fun x => 0 ≤ x ∧ x < 6) (fun w hl => below_d B gc w hl.inv 6 (by decide) (by decide)) (fun x hx => ?_)
  by_cases h0 : x = 0
  · repeat (first | refine qan ?_ | refine qaj ?_ | refine qaf ?_ | refine qad ?_ | refine SX.block ?_ | refine qaq rfl ?_ | (refine qap ?_; (refine qac (qak rfl) rfl ?_ ?_ ?_); rfl; rfl) | (refine qam ?_; (refine qac (qah rfl) rfl ?_ ?_ ?_); rfl; rfl) | (refine l_eql ?_; (refine qac (qaQ rfl rfl (by omega)) rfl ?_ ?_ ?_); rfl; rfl))
    refine qaR ?_
    refine SXl.lit (cells := [.int .i64 0, .int .i64 1, .int .i64 (-1), .int .i64 64, .int .i64 1048576, .int .i64 1048577, .int .i64 (-1048576), .int .i64 (-1048577), .int .i64 9223372036854775807, .int .i64 (-9223372036854775808)]) (z := .int .i64 0) ?_ ?_ rfl (by decide) (by kernel_rfl) rfl (fun gl => ?_)
    rfl; rfl
    skip
    refine qau ?_
    refine qaB (ξ := Int) (v := fun x => .int .i64 x) rfl rfl rfl (fun x => x ∈ ([0, 1, -1, 64, 1048576, 1048577, -1048576, -1048577, 9223372036854775807, -9223372036854775808] : List Int)) (fun w hl => pick_d (l := [0, 1, -1, 64, 1048576, 1048577, -1048576, -1048577, 9223372036854775807, -9223372036854775808]) hl (by decide) (by decide)) (fun y hy => ?_)
    repeat (first | refine qaj ?_ | refine qad ?_ | (refine qam ?_; (refine qac (qah rfl) rfl ?_ ?_ ?_); rfl; rfl) | refine qaz ?_ | refine qax ?_ | refine qaD ?_)
    refine qaA rfl rfl (fun w' hl => ⟨_, rfl, by simp at hy; exact ⟨by omega, by omega⟩, hl.mod, hl.inv⟩)
  by_cases h1 : x = 1
  · repeat (first | refine qan ?_ | refine qaj ?_ | refine qaf ?_ | refine qad ?_ | refine SX.block ?_ | refine qaq rfl ?_ | refine qat rfl ?_ | (refine qap ?_; (refine qac (qak rfl) rfl ?_ ?_ ?_); rfl; rfl) | (refine qam ?_; (refine qac (qah rfl) rfl ?_ ?_ ?_); rfl; rfl) | (refine l_eql ?_; (first | refine qac (qaQ rfl rfl (by omega)) rfl ?_ ?_ ?_ | refine qac (qaP rfl rfl (by omega)) rfl ?_ ?_ ?_); rfl; rfl))
    refine qau ?_
    refine qaB (ξ := Int) (v := fun x : Int => .int .i64 x) rfl rfl rfl (fun x => 0 ≤ x ∧ x < 5000) (fun w hl => below_d B gc w hl.inv 5000 (by decide) (by decide)) (fun y hy => ?_)
    repeat (first | refine qaj ?_ | refine qad ?_ | (refine l_neg ?_; (refine qac ((OpW.negi rfl (by omega) (by omega))) rfl ?_ ?_ ?_); rfl; rfl) | (refine qam ?_; (refine qac (qah rfl) rfl ?_ ?_ ?_); rfl; rfl) | refine qaz ?_ | refine qax ?_ | refine qaD ?_)
    refine qaA rfl rfl (fun w' hl => ⟨_, rfl, ⟨by omega, by omega⟩, hl.mod, hl.inv⟩)
  repeat (first | refine qan ?_ | refine qaj ?_ | refine qaf ?_ | refine qad ?_ | refine SX.block ?_ | refine qaC ?_ | refine qat rfl ?_ | (refine qap ?_; (refine qac (qak rfl) rfl ?_ ?_ ?_); rfl; rfl) | (refine qam ?_; (refine qac (qah rfl) rfl ?_ ?_ ?_); rfl; rfl) | (refine l_eql ?_; (refine qac (qaP rfl rfl (by omega)) rfl ?_ ?_ ?_); rfl; rfl) | refine qar ?_)
  refine qau ?_
  refine qaB (ξ := Int) (v := fun x : Int => .int .i64 x) rfl rfl rfl (fun x => 0 ≤ x ∧ x < 8000) (fun w hl => below_d B gc w hl.inv 8000 (by decide) (by decide)) (fun y hy => ?_)
  repeat (first | refine qaj ?_ | refine qad ?_ | (refine qam ?_; (refine qac (qah rfl) rfl ?_ ?_ ?_); rfl; rfl) | refine qaz ?_)
  refine qaA rfl rfl (fun w' hl => ⟨_, rfl, ⟨by omega, by omega⟩, hl.mod, hl.inv⟩)

set_option maxRecDepth 100000 in
set_option maxHeartbeats 8000000 in
theorem l04Value_d (B gc : Nat) (w : World) (hc : Cur B 141 w gc) : Calls Try.prog 112 #[.pointer (some ⟨gc, 0, none⟩)] w (DrewV 141 B gc w (fun v : Val => .agg v.cells.toArray) (fun v => AllOk v.cells)) := by
  refine calls_draw (as_ := [.pointer (some ⟨gc, 0, none⟩)]) hc Try.func112 rfl rfl (fun a h1 h2 h3 => ((Fr.nil h1 h2).arg (h3 0 _ rfl))) ?_
  repeat (first | refine qan ?_ | refine qaj ?_ | refine qaf ?_ | refine qad ?_ | (refine qap ?_; (refine qac (qak rfl) rfl ?_ ?_ ?_); rfl; rfl) | (refine qaH ?_; refine SXl.alloc ?_ ?_ (fun g => ?_); rfl; rfl))
  refine qau ?_
  refine qaB (ξ := Int) (v := fun x : Int => .int .i64 x) rfl rfl rfl (fun x => 0 ≤ x ∧ x < 6) (fun w hl => below_d B gc w hl.inv 6 (by decide) (by decide)) (fun x hx => ?_)
  by_cases h0 : x = 0
  · repeat (first | refine qan ?_ | refine qaj ?_ | refine qaf ?_ | refine qad ?_ | refine SX.block ?_ | refine qaq rfl ?_ | (refine qap ?_; (refine qac (qak rfl) rfl ?_ ?_ ?_); rfl; rfl) | (refine qam ?_; (refine qac (qah rfl) rfl ?_ ?_ ?_); rfl; rfl) | (refine l_eql ?_; (refine qac (qaQ rfl rfl (by omega)) rfl ?_ ?_ ?_); rfl; rfl))
    refine qaR ?_
    refine SXl.lit (cells := [.int .i64 0, .int .i64 10, .int .i64 25, .int .i64 50, .int .i64 100, .int .i64 150, .int .i64 33]) (z := .int .i64 0) ?_ ?_ rfl (by decide) (by kernel_rfl) rfl (fun gl => ?_)
    rfl; rfl
    skip
    refine qau ?_
    refine qaB (ξ := Int) (v := fun x => .int .i64 x) rfl rfl rfl (fun x => x ∈ ([0, 10, 25, 50, 100, 150, 33] : List Int)) (fun w hl => pick_d (l := [0, 10, 25, 50, 100, 150, 33]) hl (by decide) (by decide)) (fun y hy => ?_)
    refine SXl.drop1 ?_
    have hy2 : 0 ≤ y ∧ y ≤ 150 := by simp at hy; omega
    repeat (first | refine qaj ?_ | refine qad ?_ | (refine l_build ?_; (refine qac ((OpW.build (vals := [(0, .int .i64 2), (1, .int .i64 y)]) (cells := [.int .i64 2, .int .i64 y]) rfl (by kernel_rfl))) rfl ?_ ?_ ?_); rfl; rfl) | (refine qas ?_; first | ((first | refine qaa 0 ?_ rfl rfl rfl rfl rfl rfl rfl ?_ | refine qaa 1 ?_ rfl rfl rfl rfl rfl rfl rfl ?_ | refine qaa 2 ?_ rfl rfl rfl rfl rfl rfl rfl ?_); rfl; simp only [List.set_cons_zero, List.set_cons_succ]) | ((first | refine qab 0 ?_ rfl rfl rfl rfl rfl rfl rfl ?_ | refine qab 1 ?_ rfl rfl rfl rfl rfl rfl rfl ?_ | refine qab 2 ?_ rfl rfl rfl rfl rfl rfl rfl ?_); rfl; simp only [over, List.set_cons_zero, List.set_cons_succ])) | refine qaz ?_ | refine qax ?_ | refine qaD ?_)
    refine qaJ 0 rfl rfl rfl rfl (fun w' hl => ⟨⟨2, y⟩, rfl, (by intro u hu; simp [Val.cells] at hu; rcases hu with rfl | rfl <;> exact cellOk_int ⟨by omega, by omega⟩), hl.mod, hl.inv⟩)
  by_cases h12 : x = 1 ∨ x = 2
  · have hz2 : ∀ z : Int, 0 ≤ z ∧ z < 3000 → ∀ y : Int, y ∈ ([0, 64, 100, 640, 1000, 33, z] : List Int) → 0 ≤ y ∧ y ≤ 3000 := fun z hz y hy => by simp at hy; omega
    rcases h12 with h12 | h12
    · repeat (first | refine qan ?_ | refine qaj ?_ | refine qaf ?_ | refine qad ?_ | refine SX.block ?_ | refine qaC ?_ | refine qaq rfl ?_ | refine qat rfl ?_ | (refine qap ?_; (refine qac (qak rfl) rfl ?_ ?_ ?_); rfl; rfl) | (refine qam ?_; (refine qac (qah rfl) rfl ?_ ?_ ?_); rfl; rfl) | (refine l_eql ?_; (first | refine qac (qaQ rfl rfl (by omega)) rfl ?_ ?_ ?_ | refine qac (qaP rfl rfl (by omega)) rfl ?_ ?_ ?_); rfl; rfl))
      refine qau ?_
      refine qaB (ξ := Int) (v := fun x : Int => .int .i64 x) rfl rfl rfl (fun x => 0 ≤ x ∧ x < 3000) (fun w hl => below_d B gc w hl.inv 3000 (by decide) (by decide)) (fun z hz => ?_)
      skip
      refine qaR ?_
      refine SXl.lit (cells := [.int .i64 0, .int .i64 64, .int .i64 100, .int .i64 640, .int .i64 1000, .int .i64 33, .int .i64 z]) (z := .int .i64 0) ?_ ?_ rfl (by decide) (by kernel_rfl) rfl (fun gl => ?_)
      rfl; rfl
      skip
      refine qau ?_
      refine qaB (ξ := Int) (v := fun x => .int .i64 x) rfl rfl rfl (fun x => x ∈ ([0, 64, 100, 640, 1000, 33, z] : List Int)) (fun w hl => pick_d (l := [0, 64, 100, 640, 1000, 33, z]) hl (by simp) (by simp)) (fun y hy => ?_)
      refine SXl.drop1 ?_
      have hy2 := hz2 z hz y hy
      repeat (first | refine qaj ?_ | refine qad ?_ | (refine l_build ?_; (refine qac ((OpW.build (vals := [(0, .int .i64 1), (1, .int .i64 y)]) (cells := [.int .i64 1, .int .i64 y]) rfl (by kernel_rfl))) rfl ?_ ?_ ?_); rfl; rfl) | (refine qas ?_; first | ((first | refine qaa 0 ?_ rfl rfl rfl rfl rfl rfl rfl ?_ | refine qaa 1 ?_ rfl rfl rfl rfl rfl rfl rfl ?_ | refine qaa 2 ?_ rfl rfl rfl rfl rfl rfl rfl ?_); rfl; simp only [List.set_cons_zero, List.set_cons_succ]) | ((first | refine qab 0 ?_ rfl rfl rfl rfl rfl rfl rfl ?_ | refine qab 1 ?_ rfl rfl rfl rfl rfl rfl rfl ?_ | refine qab 2 ?_ rfl rfl rfl rfl rfl rfl rfl ?_); rfl; simp only [over, List.set_cons_zero, List.set_cons_succ])) | refine qaz ?_ | refine qax ?_ | refine qaD ?_)
      refine qaJ 0 rfl rfl rfl rfl (fun w' hl => ⟨⟨1, y⟩, rfl, (by intro u hu; simp [Val.cells] at hu; rcases hu with rfl | rfl <;> exact cellOk_int ⟨by omega, by omega⟩), hl.mod, hl.inv⟩)
    · repeat (first | refine qan ?_ | refine qaj ?_ | refine qaf ?_ | refine qad ?_ | refine SX.block ?_ | refine qaq rfl ?_ | refine qat rfl ?_ | (refine qap ?_; (refine qac (qak rfl) rfl ?_ ?_ ?_); rfl; rfl) | (refine qam ?_; (refine qac (qah rfl) rfl ?_ ?_ ?_); rfl; rfl) | (refine l_eql ?_; (first | refine qac (qaQ rfl rfl (by omega)) rfl ?_ ?_ ?_ | refine qac (qaP rfl rfl (by omega)) rfl ?_ ?_ ?_); rfl; rfl))
      refine qau ?_
      refine qaB (ξ := Int) (v := fun x : Int => .int .i64 x) rfl rfl rfl (fun x => 0 ≤ x ∧ x < 3000) (fun w hl => below_d B gc w hl.inv 3000 (by decide) (by decide)) (fun z hz => ?_)
      skip
      refine qaR ?_
      refine SXl.lit (cells := [.int .i64 0, .int .i64 64, .int .i64 100, .int .i64 640, .int .i64 1000, .int .i64 33, .int .i64 z]) (z := .int .i64 0) ?_ ?_ rfl (by decide) (by kernel_rfl) rfl (fun gl => ?_)
      rfl; rfl
      skip
      refine qau ?_
      refine qaB (ξ := Int) (v := fun x => .int .i64 x) rfl rfl rfl (fun x => x ∈ ([0, 64, 100, 640, 1000, 33, z] : List Int)) (fun w hl => pick_d (l := [0, 64, 100, 640, 1000, 33, z]) hl (by simp) (by simp)) (fun y hy => ?_)
      refine SXl.drop1 ?_
      have hy2 := hz2 z hz y hy
      repeat (first | refine qaj ?_ | refine qad ?_ | (refine l_build ?_; (refine qac ((OpW.build (vals := [(0, .int .i64 1), (1, .int .i64 y)]) (cells := [.int .i64 1, .int .i64 y]) rfl (by kernel_rfl))) rfl ?_ ?_ ?_); rfl; rfl) | (refine qas ?_; first | ((first | refine qaa 0 ?_ rfl rfl rfl rfl rfl rfl rfl ?_ | refine qaa 1 ?_ rfl rfl rfl rfl rfl rfl rfl ?_ | refine qaa 2 ?_ rfl rfl rfl rfl rfl rfl rfl ?_); rfl; simp only [List.set_cons_zero, List.set_cons_succ]) | ((first | refine qab 0 ?_ rfl rfl rfl rfl rfl rfl rfl ?_ | refine qab 1 ?_ rfl rfl rfl rfl rfl rfl rfl ?_ | refine qab 2 ?_ rfl rfl rfl rfl rfl rfl rfl ?_); rfl; simp only [over, List.set_cons_zero, List.set_cons_succ])) | refine qaz ?_ | refine qax ?_ | refine qaD ?_)
      refine qaJ 0 rfl rfl rfl rfl (fun w' hl => ⟨⟨1, y⟩, rfl, (by intro u hu; simp [Val.cells] at hu; rcases hu with rfl | rfl <;> exact cellOk_int ⟨by omega, by omega⟩), hl.mod, hl.inv⟩)
  repeat (first | refine qan ?_ | refine qaj ?_ | refine qaf ?_ | refine qad ?_ | refine SX.block ?_ | refine qaC ?_ | refine qat rfl ?_ | (refine l_build ?_; (refine qac ((OpW.build (vals := []) (cells := [.int .i64 0, .int .i64 0]) rfl (by kernel_rfl))) rfl ?_ ?_ ?_); rfl; rfl) | (refine qam ?_; (refine qac (qah rfl) rfl ?_ ?_ ?_); rfl; rfl) | (refine l_eql ?_; (refine qac (qaP rfl rfl (by omega)) rfl ?_ ?_ ?_); rfl; rfl) | (refine qas ?_; first | ((first | refine qaa 0 ?_ rfl rfl rfl rfl rfl rfl rfl ?_ | refine qaa 1 ?_ rfl rfl rfl rfl rfl rfl rfl ?_ | refine qaa 2 ?_ rfl rfl rfl rfl rfl rfl rfl ?_); rfl; simp only [List.set_cons_zero, List.set_cons_succ]) | ((first | refine qab 0 ?_ rfl rfl rfl rfl rfl rfl rfl ?_ | refine qab 1 ?_ rfl rfl rfl rfl rfl rfl rfl ?_ | refine qab 2 ?_ rfl rfl rfl rfl rfl rfl rfl ?_); rfl; simp only [over, List.set_cons_zero, List.set_cons_succ])) | refine qaz ?_ | refine qar ?_)
  refine qaJ 0 rfl rfl rfl rfl (fun w' hl => ⟨⟨0, 0⟩, rfl, (by intro u hu; simp [Val.cells] at hu; rcases hu with rfl | rfl <;> exact cellOk_int ⟨by omega, by omega⟩), hl.mod, hl.inv⟩)

set_option maxRecDepth 100000 in
set_option maxHeartbeats 8000000 in
theorem l04Any_d (B gc : Nat) (w : World) (hc : Cur B 141 w gc) : Calls Try.prog 122 #[.pointer (some ⟨gc, 0, none⟩)] w (DrewV 141 B gc w (fun v : Val => .agg v.cells.toArray) (fun v => AllOk v.cells)) := by
  refine calls_draw (as_ := [.pointer (some ⟨gc, 0, none⟩)]) hc Try.func122 rfl rfl (fun a h1 h2 h3 => ((Fr.nil h1 h2).arg (h3 0 _ rfl))) ?_
  repeat (first | refine qan ?_ | refine qaj ?_ | refine qaf ?_ | refine qad ?_ | (refine qap ?_; (refine qac (qak rfl) rfl ?_ ?_ ?_); rfl; rfl) | (refine qaH ?_; refine SXl.alloc ?_ ?_ (fun g => ?_); rfl; rfl))
  refine qau ?_
  refine qaB (ξ := Val) (v := fun v => .agg v.cells.toArray) rfl rfl rfl (fun v => AllOk v.cells) (fun w hl => l04Value_d B gc w hl.inv) (fun v hv => ?_)
  repeat (first | refine qan ?_ | refine qaj ?_ | refine qaf ?_ | refine qad ?_ | (refine qap ?_; (refine qac (qak rfl) rfl ?_ ?_ ?_); rfl; rfl) | (refine qaH ?_; refine SXl.alloc ?_ ?_ (fun g => ?_); rfl; rfl) | (refine qas ?_; first | ((first | refine qag 0 ?_ rfl rfl rfl rfl rfl rfl ?_ | refine qag 1 ?_ rfl rfl rfl rfl rfl rfl ?_ | refine qag 2 ?_ rfl rfl rfl rfl rfl rfl ?_); rfl; simp only [List.set_cons_zero, List.set_cons_succ]) | ((first | refine qaa 0 ?_ rfl rfl rfl rfl rfl rfl rfl ?_ | refine qaa 1 ?_ rfl rfl rfl rfl rfl rfl rfl ?_ | refine qaa 2 ?_ rfl rfl rfl rfl rfl rfl rfl ?_); rfl; simp only [List.set_cons_zero, List.set_cons_succ]) | ((first | refine qab 0 ?_ rfl rfl rfl rfl rfl rfl rfl ?_ | refine qab 1 ?_ rfl rfl rfl rfl rfl rfl rfl ?_ | refine qab 2 ?_ rfl rfl rfl rfl rfl rfl rfl ?_); rfl; simp only [over, List.set_cons_zero, List.set_cons_succ])))
  refine qau ?_
  refine qaB (ξ := Int) (v := fun x : Int => .int .i64 x) rfl rfl rfl (fun x => 0 ≤ x ∧ x < 10) (fun w hl => below_d B gc w hl.inv 10 (by decide) (by decide)) (fun x hx => ?_)
  have hk : I64 v.kind := hv _ (.head _) _ rfl
  have hn : I64 v.n := hv _ (.tail _ (.head _)) _ rfl
  obtain ⟨k1, k2⟩ := hk
  obtain ⟨n1, n2⟩ := hn
  by_cases h0 : x = 0
  · repeat (first | refine qan ?_ | refine qaj ?_ | refine qaf ?_ | refine qad ?_ | refine SX.block ?_ | refine qaq rfl ?_ | (refine qap ?_; (refine qac (qak rfl) rfl ?_ ?_ ?_); rfl; rfl) | (refine qam ?_; (refine qac (qah rfl) rfl ?_ ?_ ?_); rfl; rfl) | (refine l_eql ?_; (refine qac (qaQ rfl rfl (by omega)) rfl ?_ ?_ ?_); rfl; rfl))
    refine qau ?_
    refine qaB (ξ := Int) (v := fun x : Int => .int .i64 x) rfl rfl rfl (fun x => 0 ≤ x ∧ x < 6) (fun w hl => below_d B gc w hl.inv 6 (by decide) (by decide)) (fun y hy => ?_)
    repeat (first | refine qan ?_ | refine qaj ?_ | refine qaf ?_ | refine qad ?_ | (refine qaw ?_; (refine qac (qal 0 rfl rfl rfl) rfl ?_ ?_ ?_); rfl; rfl) | (refine qai ?_; (refine qac (qae rfl) rfl ?_ ?_ ?_); rfl; rfl) | (refine l_sub ?_; (refine qac (OpW.subi rfl rfl (by omega) (by omega)) rfl ?_ ?_ ?_); rfl; rfl) | (refine qas ?_; first | ((first | refine qag 0 ?_ rfl rfl rfl rfl rfl rfl ?_ | refine qag 1 ?_ rfl rfl rfl rfl rfl rfl ?_ | refine qag 2 ?_ rfl rfl rfl rfl rfl rfl ?_); rfl; simp only [List.set_cons_zero, List.set_cons_succ]) | ((first | refine qaa 0 ?_ rfl rfl rfl rfl rfl rfl rfl ?_ | refine qaa 1 ?_ rfl rfl rfl rfl rfl rfl rfl ?_ | refine qaa 2 ?_ rfl rfl rfl rfl rfl rfl rfl ?_); rfl; simp only [List.set_cons_zero, List.set_cons_succ]) | ((first | refine qab 0 ?_ rfl rfl rfl rfl rfl rfl rfl ?_ | refine qab 1 ?_ rfl rfl rfl rfl rfl rfl rfl ?_ | refine qab 2 ?_ rfl rfl rfl rfl rfl rfl rfl ?_); rfl; simp only [over, List.set_cons_zero, List.set_cons_succ])) | refine qaz ?_ | refine qar ?_)
    refine qaJ 1 rfl rfl rfl rfl (fun w' hl => ⟨⟨y - 1, v.n⟩, rfl, (by intro u hu; simp [Val.cells] at hu; rcases hu with rfl | rfl <;> exact cellOk_int ⟨by omega, by omega⟩), hl.mod, hl.inv⟩)
  by_cases h1 : x = 1
  · repeat (first | refine qan ?_ | refine qaj ?_ | refine qaf ?_ | refine qad ?_ | refine SX.block ?_ | refine qaq rfl ?_ | refine qat rfl ?_ | (refine qap ?_; (refine qac (qak rfl) rfl ?_ ?_ ?_); rfl; rfl) | (refine qam ?_; (refine qac (qah rfl) rfl ?_ ?_ ?_); rfl; rfl) | (refine l_eql ?_; (first | refine qac (qaQ rfl rfl (by omega)) rfl ?_ ?_ ?_ | refine qac (qaP rfl rfl (by omega)) rfl ?_ ?_ ?_); rfl; rfl))
    refine qau ?_
    refine qaB (ξ := Int) (v := fun x => .int .i64 x) rfl rfl rfl (fun x => I64 x) (fun w hl => l02Int_d B gc w hl.inv) (fun y hy => ?_)
    obtain ⟨y1, y2⟩ := hy
    repeat (first | refine qan ?_ | refine qaj ?_ | refine qaf ?_ | refine qad ?_ | (refine qaw ?_; (refine qac (qal 0 rfl rfl rfl) rfl ?_ ?_ ?_); rfl; rfl) | (refine qai ?_; (refine qac (qae rfl) rfl ?_ ?_ ?_); rfl; rfl) | (refine qas ?_; first | ((first | refine qag 0 ?_ rfl rfl rfl rfl rfl rfl ?_ | refine qag 1 ?_ rfl rfl rfl rfl rfl rfl ?_ | refine qag 2 ?_ rfl rfl rfl rfl rfl rfl ?_); rfl; simp only [List.set_cons_zero, List.set_cons_succ]) | ((first | refine qaa 0 ?_ rfl rfl rfl rfl rfl rfl rfl ?_ | refine qaa 1 ?_ rfl rfl rfl rfl rfl rfl rfl ?_ | refine qaa 2 ?_ rfl rfl rfl rfl rfl rfl rfl ?_); rfl; simp only [List.set_cons_zero, List.set_cons_succ]) | ((first | refine qab 0 ?_ rfl rfl rfl rfl rfl rfl rfl ?_ | refine qab 1 ?_ rfl rfl rfl rfl rfl rfl rfl ?_ | refine qab 2 ?_ rfl rfl rfl rfl rfl rfl rfl ?_); rfl; simp only [over, List.set_cons_zero, List.set_cons_succ])) | refine qaz ?_ | refine qar ?_)
    refine qaJ 1 rfl rfl rfl rfl (fun w' hl => ⟨⟨v.kind, y⟩, rfl, (by intro u hu; simp [Val.cells] at hu; rcases hu with rfl | rfl <;> exact cellOk_int ⟨by omega, by omega⟩), hl.mod, hl.inv⟩)
  by_cases h2 : x = 2
  · repeat (first | refine qan ?_ | refine qaj ?_ | refine qaf ?_ | refine qad ?_ | refine SX.block ?_ | refine qaq rfl ?_ | refine qat rfl ?_ | (refine l_build ?_; (refine qac ((OpW.build (vals := [(0, .int .i64 3)]) (cells := [.int .i64 3, .int .i64 0]) rfl (by kernel_rfl))) rfl ?_ ?_ ?_); rfl; rfl) | (refine qaw ?_; (refine qac (qal 0 rfl rfl rfl) rfl ?_ ?_ ?_); rfl; rfl) | (refine qam ?_; (refine qac (qah rfl) rfl ?_ ?_ ?_); rfl; rfl) | (refine l_eql ?_; (first | refine qac (qaQ rfl rfl (by omega)) rfl ?_ ?_ ?_ | refine qac (qaP rfl rfl (by omega)) rfl ?_ ?_ ?_); rfl; rfl) | (refine qas ?_; first | ((first | refine qag 0 ?_ rfl rfl rfl rfl rfl rfl ?_ | refine qag 1 ?_ rfl rfl rfl rfl rfl rfl ?_ | refine qag 2 ?_ rfl rfl rfl rfl rfl rfl ?_); rfl; simp only [List.set_cons_zero, List.set_cons_succ]) | ((first | refine qaa 0 ?_ rfl rfl rfl rfl rfl rfl rfl ?_ | refine qaa 1 ?_ rfl rfl rfl rfl rfl rfl rfl ?_ | refine qaa 2 ?_ rfl rfl rfl rfl rfl rfl rfl ?_); rfl; simp only [List.set_cons_zero, List.set_cons_succ]) | ((first | refine qab 0 ?_ rfl rfl rfl rfl rfl rfl rfl ?_ | refine qab 1 ?_ rfl rfl rfl rfl rfl rfl rfl ?_ | refine qab 2 ?_ rfl rfl rfl rfl rfl rfl rfl ?_); rfl; simp only [over, List.set_cons_zero, List.set_cons_succ])) | refine qaz ?_ | refine qar ?_)
    refine qaJ 1 rfl rfl rfl rfl (fun w' hl => ⟨⟨3, 0⟩, rfl, (by intro u hu; simp [Val.cells] at hu; rcases hu with rfl | rfl <;> exact cellOk_int ⟨by omega, by omega⟩), hl.mod, hl.inv⟩)
  repeat (first | refine qan ?_ | refine qaj ?_ | refine qaf ?_ | refine qad ?_ | refine SX.block ?_ | refine qaC ?_ | refine qat rfl ?_ | (refine qaw ?_; (refine qac (qal 0 rfl rfl rfl) rfl ?_ ?_ ?_); rfl; rfl) | (refine qam ?_; (refine qac (qah rfl) rfl ?_ ?_ ?_); rfl; rfl) | (refine l_eql ?_; (refine qac (qaP rfl rfl (by omega)) rfl ?_ ?_ ?_); rfl; rfl) | (refine qas ?_; first | ((first | refine qag 0 ?_ rfl rfl rfl rfl rfl rfl ?_ | refine qag 1 ?_ rfl rfl rfl rfl rfl rfl ?_ | refine qag 2 ?_ rfl rfl rfl rfl rfl rfl ?_); rfl; simp only [List.set_cons_zero, List.set_cons_succ]) | ((first | refine qaa 0 ?_ rfl rfl rfl rfl rfl rfl rfl ?_ | refine qaa 1 ?_ rfl rfl rfl rfl rfl rfl rfl ?_ | refine qaa 2 ?_ rfl rfl rfl rfl rfl rfl rfl ?_); rfl; simp only [List.set_cons_zero, List.set_cons_succ]) | ((first | refine qab 0 ?_ rfl rfl rfl rfl rfl rfl rfl ?_ | refine qab 1 ?_ rfl rfl rfl rfl rfl rfl rfl ?_ | refine qab 2 ?_ rfl rfl rfl rfl rfl rfl rfl ?_); rfl; simp only [over, List.set_cons_zero, List.set_cons_succ])) | refine qaz ?_ | refine qar ?_)
  refine qaJ 1 rfl rfl rfl rfl (fun w' hl => ⟨⟨v.kind, v.n⟩, rfl, (by intro u hu; simp [Val.cells] at hu; rcases hu with rfl | rfl <;> exact cellOk_int ⟨by omega, by omega⟩), hl.mod, hl.inv⟩)
end Go.Proofs.Ythffgbhphjkdeaa
namespace Go.Proofs.Ythffgbhphjkdeaa
open Go.RowKit
set_option linter.unusedVariables false
set_option linter.unusedSimpArgs false

/-- A new style. -/
def newStyle : Style := { (default : Style) with dir := 2, wrap := 1, justify := 1, items := 1, content := 2 }
set_option maxRecDepth 100000 in
theorem sstyleNew_any (w : World) : Calls Try.prog 88 #[] w fun e w' => e = .returned (.agg newStyle.cells.toArray) ∧ Mod (fun _ => False) w w' := by
  refine calls_sx Try.func88 rfl rfl (fun a h1 h2 h3 => (Fr.nil h1 h2)) ?_
  repeat (first | refine qan ?_ | refine qaj ?_ | refine qaf ?_ | refine qad ?_ | refine SX.block ?_ | refine qaC ?_ | refine qaq rfl ?_ | refine qat rfl ?_ | (refine l_build ?_; (first | refine qac ((OpW.build (cells := newStyle.cells) rfl (by kernel_rfl))) rfl ?_ ?_ ?_ | refine qac (OpW.build rfl rfl) rfl ?_ ?_ ?_); rfl; rfl) | (refine qaH ?_; refine SXl.alloc ?_ ?_ (fun g => ?_); rfl; rfl) | (refine qas ?_; first | ((first | refine qaa 0 ?_ rfl rfl rfl rfl rfl rfl rfl ?_ | refine qaa 1 ?_ rfl rfl rfl rfl rfl rfl rfl ?_ | refine qaa 2 ?_ rfl rfl rfl rfl rfl rfl rfl ?_); rfl; simp only [List.set_cons_zero, List.set_cons_succ]) | ((first | refine qab 0 ?_ rfl rfl rfl rfl rfl rfl rfl ?_ | refine qab 1 ?_ rfl rfl rfl rfl rfl rfl rfl ?_ | refine qab 2 ?_ rfl rfl rfl rfl rfl rfl rfl ?_); rfl; simp only [over, List.set_cons_zero, List.set_cons_succ])) | refine qaz ?_ | refine SX.exit ?_ | refine qax ?_ | refine qaO ?_ | refine qar ?_ | refine qaD ?_ | refine qaK ?_ | refine SQ.blockOther rfl ?_)
  refine qaJ 0 rfl rfl rfl rfl (fun w' hl => ⟨rfl, hl.mod⟩)

end Go.Proofs.Ythffgbhphjkdeaa
namespace Go.Proofs.Ythffgbhphjkdeaa
open Go.RowKit
set_option linter.unusedVariables false
set_option linter.unusedSimpArgs false

set_option maxRecDepth 100000 in
set_option maxHeartbeats 8000000 in
theorem l05Sides_d (B gc : Nat) (w : World) (hc : Cur B 141 w gc) : Calls Try.prog 113 #[.pointer (some ⟨gc, 0, none⟩)] w (DrewV 141 B gc w (fun v : Sides => .agg v.cells.toArray) (fun v => AllOk v.cells)) := by
  refine calls_draw (as_ := [.pointer (some ⟨gc, 0, none⟩)]) hc Try.func113 rfl rfl (fun a h1 h2 h3 => ((Fr.nil h1 h2).arg (h3 0 _ rfl))) ?_
  repeat (first | refine qan ?_ | refine qaj ?_ | refine qaf ?_ | refine qad ?_ | refine SX.block ?_ | (refine l_build ?_; (refine qac ((OpW.build (vals := []) (cells := Sides.cells default) rfl (by kernel_rfl))) rfl ?_ ?_ ?_); rfl; rfl) | (refine qam ?_; (refine qac (qah rfl) rfl ?_ ?_ ?_); rfl; rfl) | (refine qaH ?_; refine SXl.alloc ?_ ?_ (fun g => ?_); rfl; rfl) | (refine qas ?_; first | ((first | refine qaa 0 ?_ rfl rfl rfl rfl rfl rfl rfl ?_ | refine qaa 1 ?_ rfl rfl rfl rfl rfl rfl rfl ?_ | refine qaa 2 ?_ rfl rfl rfl rfl rfl rfl rfl ?_); rfl; simp only [List.set_cons_zero, List.set_cons_succ]) | ((first | refine qab 0 ?_ rfl rfl rfl rfl rfl rfl rfl ?_ | refine qab 1 ?_ rfl rfl rfl rfl rfl rfl rfl ?_ | refine qab 2 ?_ rfl rfl rfl rfl rfl rfl rfl ?_); rfl; simp only [over, List.set_cons_zero, List.set_cons_succ])))
  rename_i g2
  revert g; intro g3
  refine SX.loopi (ι := Nat × Sides) (fun i => i.1 ≤ 3 ∧ AllOk i.2.cells) (fun i => 4 - i.1) (fun i => [⟨g3, i.2.cells, 62⟩, ⟨g2, [.int .i64 0, .int .i64 0, .int .i64 0, .int .i64 0, .int .i64 0, .int .i64 0, .int .i64 0, .int .i64 0, .int .i64 0, .int .i64 0, .int .i64 0, .int .i64 0], 62⟩]) (fun _ => []) (fun _ => []) (fun i => [(0, .pointer (some ⟨gc, 0, none⟩)), (2, .pointer (some ⟨g2, 0, none⟩)), (3, .pointer (some ⟨g3, 0, none⟩)), (4, .int .i64 i.1)]) (0, default) ⟨by simp, allOk_of (by decide)⟩ ?_ (fun _ hl => hl) ?_
  · (repeat (first | exact subF_nil _ | (refine subF_cons rfl ?_) | (refine subF_consv rfl (by rfl) ?_)))
  rintro ⟨i, s⟩ ⟨hi, hs⟩
  simp only at hi hs
  repeat (first | refine qan ?_ | refine qaf ?_ | (refine qap ?_; (refine qac (qak rfl) rfl ?_ ?_ ?_); rfl; rfl))
  refine qau ?_
  refine qaB (ξ := Int) (v := fun x : Int => .int .i64 x) rfl rfl rfl (fun x => 0 ≤ x ∧ x < 4) (fun w hl => below_d B gc w hl.inv 4 (by decide) (by decide)) (fun x hx => ?_)
  by_cases hlt : (i : Int) < x
  rotate_left
  · repeat (first | refine qan ?_ | refine qaj ?_ | refine qaf ?_ | refine qad ?_ | refine qat rfl ?_ | (refine qaw ?_; (refine qac (qal 0 rfl rfl rfl) rfl ?_ ?_ ?_); rfl; rfl) | (refine l_lss ?_; (refine qac (OpW.lssF rfl rfl (by omega)) rfl ?_ ?_ ?_); rfl; rfl) | (refine qas ?_; first | ((first | refine qaa 0 ?_ rfl rfl rfl rfl rfl rfl rfl ?_ | refine qaa 1 ?_ rfl rfl rfl rfl rfl rfl rfl ?_ | refine qaa 2 ?_ rfl rfl rfl rfl rfl rfl rfl ?_); rfl; simp only [List.set_cons_zero, List.set_cons_succ]) | ((first | refine qab 0 ?_ rfl rfl rfl rfl rfl rfl rfl ?_ | refine qab 1 ?_ rfl rfl rfl rfl rfl rfl rfl ?_ | refine qab 2 ?_ rfl rfl rfl rfl rfl rfl rfl ?_); rfl; simp only [over, List.set_cons_zero, List.set_cons_succ])) | refine qaz ?_ | refine SX.exit ?_ | refine qaO ?_ | refine qaK ?_)
    refine qaJ 1 rfl rfl rfl rfl (fun w' hl => ⟨s, rfl, hs, hl.mod, hl.inv⟩)
  repeat (first | refine qan ?_ | refine qaj ?_ | refine qaf ?_ | refine qad ?_ | refine SX.block ?_ | refine qaC ?_ | refine qaq rfl ?_ | (refine qap ?_; (refine qac (qak rfl) rfl ?_ ?_ ?_); rfl; rfl) | (refine l_lss ?_; (refine qac (OpW.lssT rfl rfl (by omega)) rfl ?_ ?_ ?_); rfl; rfl))
  refine qau ?_
  refine qaB (ξ := Val) (v := fun v => .agg v.cells.toArray) rfl rfl rfl (fun v => AllOk v.cells) (fun w hl => l04Value_d B gc w hl.inv) (fun v hv => ?_)
  repeat (first | refine qan ?_ | refine qaj ?_ | refine qaf ?_ | refine qad ?_ | (refine qap ?_; (refine qac (qak rfl) rfl ?_ ?_ ?_); rfl; rfl) | (refine qaH ?_; refine SXl.alloc ?_ ?_ (fun g => ?_); rfl; rfl) | (refine qas ?_; first | ((first | refine qaa 0 ?_ rfl rfl rfl rfl rfl rfl rfl ?_ | refine qaa 1 ?_ rfl rfl rfl rfl rfl rfl rfl ?_ | refine qaa 2 ?_ rfl rfl rfl rfl rfl rfl rfl ?_); rfl; simp only [List.set_cons_zero, List.set_cons_succ]) | ((first | refine qab 0 ?_ rfl rfl rfl rfl rfl rfl rfl ?_ | refine qab 1 ?_ rfl rfl rfl rfl rfl rfl rfl ?_ | refine qab 2 ?_ rfl rfl rfl rfl rfl rfl rfl ?_); rfl; simp only [over, List.set_cons_zero, List.set_cons_succ])))
  refine qau ?_
  refine qaB (ξ := Bool) (v := fun b => .bool b) rfl rfl rfl (fun _ => True) (fun w hl => once_d B gc w hl.inv 4 (by decide)) (fun b _ => ?_)
  cases b
  · repeat (first | refine qan ?_ | refine qaj ?_ | refine qaf ?_ | refine qad ?_ | refine qaC ?_ | refine qat rfl ?_ | (refine qap ?_; (refine qac (qak rfl) rfl ?_ ?_ ?_); rfl; rfl))
    refine qau ?_
    refine qaB (ξ := Int) (v := fun x : Int => .int .i64 x) rfl rfl rfl (fun x => 0 ≤ x ∧ x < 6) (fun w hl => below_d B gc w hl.inv 6 (by decide) (by decide)) (fun y hy => ?_)
    by_cases h0 : y = 0
    · repeat (first | refine qan ?_ | refine qaj ?_ | refine qaf ?_ | refine qad ?_ | refine SX.block ?_ | refine qaq rfl ?_ | (refine qaw ?_; (refine qac (qal 0 rfl rfl rfl) rfl ?_ ?_ ?_); rfl; rfl) | (refine qai ?_; (refine qac (qae rfl) rfl ?_ ?_ ?_); rfl; rfl) | (refine qap ?_; (refine qac (qak rfl) rfl ?_ ?_ ?_); rfl; rfl) | (refine qam ?_; (refine qac (qah rfl) rfl ?_ ?_ ?_); rfl; rfl) | (refine l_add ?_; (refine qac (OpW.succ rfl rfl (by omega)) rfl ?_ ?_ ?_); rfl; rfl) | (refine l_eql ?_; (refine qac (qaQ rfl rfl (by omega)) rfl ?_ ?_ ?_); rfl; rfl) | (refine qas ?_; first | ((first | refine qaa 0 ?_ rfl rfl rfl rfl rfl rfl rfl ?_ | refine qaa 1 ?_ rfl rfl rfl rfl rfl rfl rfl ?_ | refine qaa 2 ?_ rfl rfl rfl rfl rfl rfl rfl ?_); rfl; simp only [List.set_cons_zero, List.set_cons_succ]) | ((first | refine qab 0 ?_ rfl rfl rfl rfl rfl rfl rfl ?_ | refine qab 1 ?_ rfl rfl rfl rfl rfl rfl rfl ?_ | refine qab 2 ?_ rfl rfl rfl rfl rfl rfl rfl ?_); rfl; simp only [over, List.set_cons_zero, List.set_cons_succ])) | refine qar ?_)
      refine SQ.roundi (i + 1, { s with left := v }) ⟨by simp only; omega, AllOk.over (j := 0) hs hv⟩ (by simp only; omega) ?_ (fun _ hl => hl.drop1)
      (repeat (first | exact subF_nil _ | (refine subF_cons rfl ?_) | (refine subF_consv rfl (by rfl) ?_)))
    by_cases h1 : y = 1
    · repeat (first | refine qan ?_ | refine qaj ?_ | refine qaf ?_ | refine qad ?_ | refine SX.block ?_ | refine qaq rfl ?_ | refine qat rfl ?_ | (refine qaw ?_; (refine qac (qal 0 rfl rfl rfl) rfl ?_ ?_ ?_); rfl; rfl) | (refine qai ?_; (refine qac (qae rfl) rfl ?_ ?_ ?_); rfl; rfl) | (refine qap ?_; (refine qac (qak rfl) rfl ?_ ?_ ?_); rfl; rfl) | (refine qam ?_; (refine qac (qah rfl) rfl ?_ ?_ ?_); rfl; rfl) | (refine l_add ?_; (refine qac (OpW.succ rfl rfl (by omega)) rfl ?_ ?_ ?_); rfl; rfl) | (refine l_eql ?_; (first | refine qac (qaQ rfl rfl (by omega)) rfl ?_ ?_ ?_ | refine qac (qaP rfl rfl (by omega)) rfl ?_ ?_ ?_); rfl; rfl) | (refine qas ?_; first | ((first | refine qaa 0 ?_ rfl rfl rfl rfl rfl rfl rfl ?_ | refine qaa 1 ?_ rfl rfl rfl rfl rfl rfl rfl ?_ | refine qaa 2 ?_ rfl rfl rfl rfl rfl rfl rfl ?_); rfl; simp only [List.set_cons_zero, List.set_cons_succ]) | ((first | refine qab 0 ?_ rfl rfl rfl rfl rfl rfl rfl ?_ | refine qab 1 ?_ rfl rfl rfl rfl rfl rfl rfl ?_ | refine qab 2 ?_ rfl rfl rfl rfl rfl rfl rfl ?_); rfl; simp only [over, List.set_cons_zero, List.set_cons_succ])) | refine qar ?_)
      refine SQ.roundi (i + 1, { s with top := v }) ⟨by simp only; omega, AllOk.over (j := 2) hs hv⟩ (by simp only; omega) ?_ (fun _ hl => hl.drop1)
      (repeat (first | exact subF_nil _ | (refine subF_cons rfl ?_) | (refine subF_consv rfl (by rfl) ?_)))
    by_cases h2 : y = 2
    · repeat (first | refine qan ?_ | refine qaj ?_ | refine qaf ?_ | refine qad ?_ | refine SX.block ?_ | refine qaq rfl ?_ | refine qat rfl ?_ | (refine qaw ?_; (refine qac (qal 0 rfl rfl rfl) rfl ?_ ?_ ?_); rfl; rfl) | (refine qai ?_; (refine qac (qae rfl) rfl ?_ ?_ ?_); rfl; rfl) | (refine qap ?_; (refine qac (qak rfl) rfl ?_ ?_ ?_); rfl; rfl) | (refine qam ?_; (refine qac (qah rfl) rfl ?_ ?_ ?_); rfl; rfl) | (refine l_add ?_; (refine qac (OpW.succ rfl rfl (by omega)) rfl ?_ ?_ ?_); rfl; rfl) | (refine l_eql ?_; (first | refine qac (qaQ rfl rfl (by omega)) rfl ?_ ?_ ?_ | refine qac (qaP rfl rfl (by omega)) rfl ?_ ?_ ?_); rfl; rfl) | (refine qas ?_; first | ((first | refine qaa 0 ?_ rfl rfl rfl rfl rfl rfl rfl ?_ | refine qaa 1 ?_ rfl rfl rfl rfl rfl rfl rfl ?_ | refine qaa 2 ?_ rfl rfl rfl rfl rfl rfl rfl ?_); rfl; simp only [List.set_cons_zero, List.set_cons_succ]) | ((first | refine qab 0 ?_ rfl rfl rfl rfl rfl rfl rfl ?_ | refine qab 1 ?_ rfl rfl rfl rfl rfl rfl rfl ?_ | refine qab 2 ?_ rfl rfl rfl rfl rfl rfl rfl ?_); rfl; simp only [over, List.set_cons_zero, List.set_cons_succ])) | refine qar ?_)
      refine SQ.roundi (i + 1, { s with right := v }) ⟨by simp only; omega, AllOk.over (j := 4) hs hv⟩ (by simp only; omega) ?_ (fun _ hl => hl.drop1)
      (repeat (first | exact subF_nil _ | (refine subF_cons rfl ?_) | (refine subF_consv rfl (by rfl) ?_)))
    by_cases h3 : y = 3
    · repeat (first | refine qan ?_ | refine qaj ?_ | refine qaf ?_ | refine qad ?_ | refine SX.block ?_ | refine qaq rfl ?_ | refine qat rfl ?_ | (refine qaw ?_; (refine qac (qal 0 rfl rfl rfl) rfl ?_ ?_ ?_); rfl; rfl) | (refine qai ?_; (refine qac (qae rfl) rfl ?_ ?_ ?_); rfl; rfl) | (refine qap ?_; (refine qac (qak rfl) rfl ?_ ?_ ?_); rfl; rfl) | (refine qam ?_; (refine qac (qah rfl) rfl ?_ ?_ ?_); rfl; rfl) | (refine l_add ?_; (refine qac (OpW.succ rfl rfl (by omega)) rfl ?_ ?_ ?_); rfl; rfl) | (refine l_eql ?_; (first | refine qac (qaQ rfl rfl (by omega)) rfl ?_ ?_ ?_ | refine qac (qaP rfl rfl (by omega)) rfl ?_ ?_ ?_); rfl; rfl) | (refine qas ?_; first | ((first | refine qaa 0 ?_ rfl rfl rfl rfl rfl rfl rfl ?_ | refine qaa 1 ?_ rfl rfl rfl rfl rfl rfl rfl ?_ | refine qaa 2 ?_ rfl rfl rfl rfl rfl rfl rfl ?_); rfl; simp only [List.set_cons_zero, List.set_cons_succ]) | ((first | refine qab 0 ?_ rfl rfl rfl rfl rfl rfl rfl ?_ | refine qab 1 ?_ rfl rfl rfl rfl rfl rfl rfl ?_ | refine qab 2 ?_ rfl rfl rfl rfl rfl rfl rfl ?_); rfl; simp only [over, List.set_cons_zero, List.set_cons_succ])) | refine qar ?_)
      refine SQ.roundi (i + 1, { s with bottom := v }) ⟨by simp only; omega, AllOk.over (j := 6) hs hv⟩ (by simp only; omega) ?_ (fun _ hl => hl.drop1)
      (repeat (first | exact subF_nil _ | (refine subF_cons rfl ?_) | (refine subF_consv rfl (by rfl) ?_)))
    by_cases h4 : y = 4
    · repeat (first | refine qan ?_ | refine qaj ?_ | refine qaf ?_ | refine qad ?_ | refine SX.block ?_ | refine qaq rfl ?_ | refine qat rfl ?_ | (refine qaw ?_; (refine qac (qal 0 rfl rfl rfl) rfl ?_ ?_ ?_); rfl; rfl) | (refine qai ?_; (refine qac (qae rfl) rfl ?_ ?_ ?_); rfl; rfl) | (refine qap ?_; (refine qac (qak rfl) rfl ?_ ?_ ?_); rfl; rfl) | (refine qam ?_; (refine qac (qah rfl) rfl ?_ ?_ ?_); rfl; rfl) | (refine l_add ?_; (refine qac (OpW.succ rfl rfl (by omega)) rfl ?_ ?_ ?_); rfl; rfl) | (refine l_eql ?_; (first | refine qac (qaQ rfl rfl (by omega)) rfl ?_ ?_ ?_ | refine qac (qaP rfl rfl (by omega)) rfl ?_ ?_ ?_); rfl; rfl) | (refine qas ?_; first | ((first | refine qaa 0 ?_ rfl rfl rfl rfl rfl rfl rfl ?_ | refine qaa 1 ?_ rfl rfl rfl rfl rfl rfl rfl ?_ | refine qaa 2 ?_ rfl rfl rfl rfl rfl rfl rfl ?_); rfl; simp only [List.set_cons_zero, List.set_cons_succ]) | ((first | refine qab 0 ?_ rfl rfl rfl rfl rfl rfl rfl ?_ | refine qab 1 ?_ rfl rfl rfl rfl rfl rfl rfl ?_ | refine qab 2 ?_ rfl rfl rfl rfl rfl rfl rfl ?_); rfl; simp only [over, List.set_cons_zero, List.set_cons_succ])) | refine qar ?_)
      refine SQ.roundi (i + 1, { s with start := v }) ⟨by simp only; omega, AllOk.over (j := 8) hs hv⟩ (by simp only; omega) ?_ (fun _ hl => hl.drop1)
      (repeat (first | exact subF_nil _ | (refine subF_cons rfl ?_) | (refine subF_consv rfl (by rfl) ?_)))
    repeat (first | refine qan ?_ | refine qaj ?_ | refine qaf ?_ | refine qad ?_ | refine SX.block ?_ | refine qat rfl ?_ | (refine qaw ?_; (refine qac (qal 0 rfl rfl rfl) rfl ?_ ?_ ?_); rfl; rfl) | (refine qai ?_; (refine qac (qae rfl) rfl ?_ ?_ ?_); rfl; rfl) | (refine qap ?_; (refine qac (qak rfl) rfl ?_ ?_ ?_); rfl; rfl) | (refine qam ?_; (refine qac (qah rfl) rfl ?_ ?_ ?_); rfl; rfl) | (refine l_add ?_; (refine qac (OpW.succ rfl rfl (by omega)) rfl ?_ ?_ ?_); rfl; rfl) | (refine l_eql ?_; (refine qac (qaP rfl rfl (by omega)) rfl ?_ ?_ ?_); rfl; rfl) | (refine qas ?_; first | ((first | refine qaa 0 ?_ rfl rfl rfl rfl rfl rfl rfl ?_ | refine qaa 1 ?_ rfl rfl rfl rfl rfl rfl rfl ?_ | refine qaa 2 ?_ rfl rfl rfl rfl rfl rfl rfl ?_); rfl; simp only [List.set_cons_zero, List.set_cons_succ]) | ((first | refine qab 0 ?_ rfl rfl rfl rfl rfl rfl rfl ?_ | refine qab 1 ?_ rfl rfl rfl rfl rfl rfl rfl ?_ | refine qab 2 ?_ rfl rfl rfl rfl rfl rfl rfl ?_); rfl; simp only [over, List.set_cons_zero, List.set_cons_succ])) | refine qar ?_)
    refine SQ.roundi (i + 1, { s with stop := v }) ⟨by simp only; omega, AllOk.over (j := 10) hs hv⟩ (by simp only; omega) ?_ (fun _ hl => hl.drop1)
    (repeat (first | exact subF_nil _ | (refine subF_cons rfl ?_) | (refine subF_consv rfl (by rfl) ?_)))
  · repeat (first | refine qan ?_ | refine qaj ?_ | refine qaf ?_ | refine qad ?_ | refine qaq rfl ?_ | (refine l_build ?_; (refine qac ((OpW.build (vals := [(0, .int .i64 3)]) (cells := Val.cells ⟨3, 0⟩) rfl (by kernel_rfl))) rfl ?_ ?_ ?_); rfl; rfl) | (refine qap ?_; (refine qac (qak rfl) rfl ?_ ?_ ?_); rfl; rfl) | (refine qas ?_; first | ((first | refine qaa 0 ?_ rfl rfl rfl rfl rfl rfl rfl ?_ | refine qaa 1 ?_ rfl rfl rfl rfl rfl rfl rfl ?_ | refine qaa 2 ?_ rfl rfl rfl rfl rfl rfl rfl ?_); rfl; simp only [List.set_cons_zero, List.set_cons_succ]) | ((first | refine qab 0 ?_ rfl rfl rfl rfl rfl rfl rfl ?_ | refine qab 1 ?_ rfl rfl rfl rfl rfl rfl rfl ?_ | refine qab 2 ?_ rfl rfl rfl rfl rfl rfl rfl ?_); rfl; simp only [over, List.set_cons_zero, List.set_cons_succ])))
    refine qau ?_
    refine qaB (ξ := Int) (v := fun x : Int => .int .i64 x) rfl rfl rfl (fun x => 0 ≤ x ∧ x < 6) (fun w hl => below_d B gc w hl.inv 6 (by decide) (by decide)) (fun y hy => ?_)
    by_cases h0 : y = 0
    · repeat (first | refine qan ?_ | refine qaj ?_ | refine qaf ?_ | refine qad ?_ | refine SX.block ?_ | refine qaq rfl ?_ | (refine qaw ?_; (refine qac (qal 0 rfl rfl rfl) rfl ?_ ?_ ?_); rfl; rfl) | (refine qai ?_; (refine qac (qae rfl) rfl ?_ ?_ ?_); rfl; rfl) | (refine qap ?_; (refine qac (qak rfl) rfl ?_ ?_ ?_); rfl; rfl) | (refine qam ?_; (refine qac (qah rfl) rfl ?_ ?_ ?_); rfl; rfl) | (refine l_add ?_; (refine qac (OpW.succ rfl rfl (by omega)) rfl ?_ ?_ ?_); rfl; rfl) | (refine l_eql ?_; (refine qac (qaQ rfl rfl (by omega)) rfl ?_ ?_ ?_); rfl; rfl) | (refine qas ?_; first | ((first | refine qaa 0 ?_ rfl rfl rfl rfl rfl rfl rfl ?_ | refine qaa 1 ?_ rfl rfl rfl rfl rfl rfl rfl ?_ | refine qaa 2 ?_ rfl rfl rfl rfl rfl rfl rfl ?_); rfl; simp only [List.set_cons_zero, List.set_cons_succ]) | ((first | refine qab 0 ?_ rfl rfl rfl rfl rfl rfl rfl ?_ | refine qab 1 ?_ rfl rfl rfl rfl rfl rfl rfl ?_ | refine qab 2 ?_ rfl rfl rfl rfl rfl rfl rfl ?_); rfl; simp only [over, List.set_cons_zero, List.set_cons_succ])) | refine qar ?_)
      refine SQ.roundi (i + 1, { s with left := ⟨3, 0⟩ }) ⟨by simp only; omega, AllOk.over (j := 0) hs (allOk_of (c := Val.cells ⟨3, 0⟩) (by decide))⟩ (by simp only; omega) ?_ (fun _ hl => hl.drop1)
      (repeat (first | exact subF_nil _ | (refine subF_cons rfl ?_) | (refine subF_consv rfl (by rfl) ?_)))
    by_cases h1 : y = 1
    · repeat (first | refine qan ?_ | refine qaj ?_ | refine qaf ?_ | refine qad ?_ | refine SX.block ?_ | refine qaq rfl ?_ | refine qat rfl ?_ | (refine qaw ?_; (refine qac (qal 0 rfl rfl rfl) rfl ?_ ?_ ?_); rfl; rfl) | (refine qai ?_; (refine qac (qae rfl) rfl ?_ ?_ ?_); rfl; rfl) | (refine qap ?_; (refine qac (qak rfl) rfl ?_ ?_ ?_); rfl; rfl) | (refine qam ?_; (refine qac (qah rfl) rfl ?_ ?_ ?_); rfl; rfl) | (refine l_add ?_; (refine qac (OpW.succ rfl rfl (by omega)) rfl ?_ ?_ ?_); rfl; rfl) | (refine l_eql ?_; (first | refine qac (qaQ rfl rfl (by omega)) rfl ?_ ?_ ?_ | refine qac (qaP rfl rfl (by omega)) rfl ?_ ?_ ?_); rfl; rfl) | (refine qas ?_; first | ((first | refine qaa 0 ?_ rfl rfl rfl rfl rfl rfl rfl ?_ | refine qaa 1 ?_ rfl rfl rfl rfl rfl rfl rfl ?_ | refine qaa 2 ?_ rfl rfl rfl rfl rfl rfl rfl ?_); rfl; simp only [List.set_cons_zero, List.set_cons_succ]) | ((first | refine qab 0 ?_ rfl rfl rfl rfl rfl rfl rfl ?_ | refine qab 1 ?_ rfl rfl rfl rfl rfl rfl rfl ?_ | refine qab 2 ?_ rfl rfl rfl rfl rfl rfl rfl ?_); rfl; simp only [over, List.set_cons_zero, List.set_cons_succ])) | refine qar ?_)
      refine SQ.roundi (i + 1, { s with top := ⟨3, 0⟩ }) ⟨by simp only; omega, AllOk.over (j := 2) hs (allOk_of (c := Val.cells ⟨3, 0⟩) (by decide))⟩ (by simp only; omega) ?_ (fun _ hl => hl.drop1)
      (repeat (first | exact subF_nil _ | (refine subF_cons rfl ?_) | (refine subF_consv rfl (by rfl) ?_)))
    by_cases h2 : y = 2
    · repeat (first | refine qan ?_ | refine qaj ?_ | refine qaf ?_ | refine qad ?_ | refine SX.block ?_ | refine qaq rfl ?_ | refine qat rfl ?_ | (refine qaw ?_; (refine qac (qal 0 rfl rfl rfl) rfl ?_ ?_ ?_); rfl; rfl) | (refine qai ?_; (refine qac (qae rfl) rfl ?_ ?_ ?_); rfl; rfl) | (refine qap ?_; (refine qac (qak rfl) rfl ?_ ?_ ?_); rfl; rfl) | (refine qam ?_; (refine qac (qah rfl) rfl ?_ ?_ ?_); rfl; rfl) | (refine l_add ?_; (refine qac (OpW.succ rfl rfl (by omega)) rfl ?_ ?_ ?_); rfl; rfl) | (refine l_eql ?_; (first | refine qac (qaQ rfl rfl (by omega)) rfl ?_ ?_ ?_ | refine qac (qaP rfl rfl (by omega)) rfl ?_ ?_ ?_); rfl; rfl) | (refine qas ?_; first | ((first | refine qaa 0 ?_ rfl rfl rfl rfl rfl rfl rfl ?_ | refine qaa 1 ?_ rfl rfl rfl rfl rfl rfl rfl ?_ | refine qaa 2 ?_ rfl rfl rfl rfl rfl rfl rfl ?_); rfl; simp only [List.set_cons_zero, List.set_cons_succ]) | ((first | refine qab 0 ?_ rfl rfl rfl rfl rfl rfl rfl ?_ | refine qab 1 ?_ rfl rfl rfl rfl rfl rfl rfl ?_ | refine qab 2 ?_ rfl rfl rfl rfl rfl rfl rfl ?_); rfl; simp only [over, List.set_cons_zero, List.set_cons_succ])) | refine qar ?_)
      refine SQ.roundi (i + 1, { s with right := ⟨3, 0⟩ }) ⟨by simp only; omega, AllOk.over (j := 4) hs (allOk_of (c := Val.cells ⟨3, 0⟩) (by decide))⟩ (by simp only; omega) ?_ (fun _ hl => hl.drop1)
      (repeat (first | exact subF_nil _ | (refine subF_cons rfl ?_) | (refine subF_consv rfl (by rfl) ?_)))
    by_cases h3 : y = 3
    · repeat (first | refine qan ?_ | refine qaj ?_ | refine qaf ?_ | refine qad ?_ | refine SX.block ?_ | refine qaq rfl ?_ | refine qat rfl ?_ | (refine qaw ?_; (refine qac (qal 0 rfl rfl rfl) rfl ?_ ?_ ?_); rfl; rfl) | (refine qai ?_; (refine qac (qae rfl) rfl ?_ ?_ ?_); rfl; rfl) | (refine qap ?_; (refine qac (qak rfl) rfl ?_ ?_ ?_); rfl; rfl) | (refine qam ?_; (refine qac (qah rfl) rfl ?_ ?_ ?_); rfl; rfl) | (refine l_add ?_; (refine qac (OpW.succ rfl rfl (by omega)) rfl ?_ ?_ ?_); rfl; rfl) | (refine l_eql ?_; (first | refine qac (qaQ rfl rfl (by omega)) rfl ?_ ?_ ?_ | refine qac (qaP rfl rfl (by omega)) rfl ?_ ?_ ?_); rfl; rfl) | (refine qas ?_; first | ((first | refine qaa 0 ?_ rfl rfl rfl rfl rfl rfl rfl ?_ | refine qaa 1 ?_ rfl rfl rfl rfl rfl rfl rfl ?_ | refine qaa 2 ?_ rfl rfl rfl rfl rfl rfl rfl ?_); rfl; simp only [List.set_cons_zero, List.set_cons_succ]) | ((first | refine qab 0 ?_ rfl rfl rfl rfl rfl rfl rfl ?_ | refine qab 1 ?_ rfl rfl rfl rfl rfl rfl rfl ?_ | refine qab 2 ?_ rfl rfl rfl rfl rfl rfl rfl ?_); rfl; simp only [over, List.set_cons_zero, List.set_cons_succ])) | refine qar ?_)
      refine SQ.roundi (i + 1, { s with bottom := ⟨3, 0⟩ }) ⟨by simp only; omega, AllOk.over (j := 6) hs (allOk_of (c := Val.cells ⟨3, 0⟩) (by decide))⟩ (by simp only; omega) ?_ (fun _ hl => hl.drop1)
      (repeat (first | exact subF_nil _ | (refine subF_cons rfl ?_) | (refine subF_consv rfl (by rfl) ?_)))
    by_cases h4 : y = 4
    · repeat (first | refine qan ?_ | refine qaj ?_ | refine qaf ?_ | refine qad ?_ | refine SX.block ?_ | refine qaq rfl ?_ | refine qat rfl ?_ | (refine qaw ?_; (refine qac (qal 0 rfl rfl rfl) rfl ?_ ?_ ?_); rfl; rfl) | (refine qai ?_; (refine qac (qae rfl) rfl ?_ ?_ ?_); rfl; rfl) | (refine qap ?_; (refine qac (qak rfl) rfl ?_ ?_ ?_); rfl; rfl) | (refine qam ?_; (refine qac (qah rfl) rfl ?_ ?_ ?_); rfl; rfl) | (refine l_add ?_; (refine qac (OpW.succ rfl rfl (by omega)) rfl ?_ ?_ ?_); rfl; rfl) | (refine l_eql ?_; (first | refine qac (qaQ rfl rfl (by omega)) rfl ?_ ?_ ?_ | refine qac (qaP rfl rfl (by omega)) rfl ?_ ?_ ?_); rfl; rfl) | (refine qas ?_; first | ((first | refine qaa 0 ?_ rfl rfl rfl rfl rfl rfl rfl ?_ | refine qaa 1 ?_ rfl rfl rfl rfl rfl rfl rfl ?_ | refine qaa 2 ?_ rfl rfl rfl rfl rfl rfl rfl ?_); rfl; simp only [List.set_cons_zero, List.set_cons_succ]) | ((first | refine qab 0 ?_ rfl rfl rfl rfl rfl rfl rfl ?_ | refine qab 1 ?_ rfl rfl rfl rfl rfl rfl rfl ?_ | refine qab 2 ?_ rfl rfl rfl rfl rfl rfl rfl ?_); rfl; simp only [over, List.set_cons_zero, List.set_cons_succ])) | refine qar ?_)
      refine SQ.roundi (i + 1, { s with start := ⟨3, 0⟩ }) ⟨by simp only; omega, AllOk.over (j := 8) hs (allOk_of (c := Val.cells ⟨3, 0⟩) (by decide))⟩ (by simp only; omega) ?_ (fun _ hl => hl.drop1)
      (repeat (first | exact subF_nil _ | (refine subF_cons rfl ?_) | (refine subF_consv rfl (by rfl) ?_)))
    repeat (first | refine qan ?_ | refine qaj ?_ | refine qaf ?_ | refine qad ?_ | refine SX.block ?_ | refine qat rfl ?_ | (refine qaw ?_; (refine qac (qal 0 rfl rfl rfl) rfl ?_ ?_ ?_); rfl; rfl) | (refine qai ?_; (refine qac (qae rfl) rfl ?_ ?_ ?_); rfl; rfl) | (refine qap ?_; (refine qac (qak rfl) rfl ?_ ?_ ?_); rfl; rfl) | (refine qam ?_; (refine qac (qah rfl) rfl ?_ ?_ ?_); rfl; rfl) | (refine l_add ?_; (refine qac (OpW.succ rfl rfl (by omega)) rfl ?_ ?_ ?_); rfl; rfl) | (refine l_eql ?_; (refine qac (qaP rfl rfl (by omega)) rfl ?_ ?_ ?_); rfl; rfl) | (refine qas ?_; first | ((first | refine qaa 0 ?_ rfl rfl rfl rfl rfl rfl rfl ?_ | refine qaa 1 ?_ rfl rfl rfl rfl rfl rfl rfl ?_ | refine qaa 2 ?_ rfl rfl rfl rfl rfl rfl rfl ?_); rfl; simp only [List.set_cons_zero, List.set_cons_succ]) | ((first | refine qab 0 ?_ rfl rfl rfl rfl rfl rfl rfl ?_ | refine qab 1 ?_ rfl rfl rfl rfl rfl rfl rfl ?_ | refine qab 2 ?_ rfl rfl rfl rfl rfl rfl rfl ?_); rfl; simp only [over, List.set_cons_zero, List.set_cons_succ])) | refine qar ?_)
    refine SQ.roundi (i + 1, { s with stop := ⟨3, 0⟩ }) ⟨by simp only; omega, AllOk.over (j := 10) hs (allOk_of (c := Val.cells ⟨3, 0⟩) (by decide))⟩ (by simp only; omega) ?_ (fun _ hl => hl.drop1)
    (repeat (first | exact subF_nil _ | (refine subF_cons rfl ?_) | (refine subF_consv rfl (by rfl) ?_)))

set_option maxRecDepth 100000 in
set_option maxHeartbeats 8000000 in
theorem l05Any_d (B gc : Nat) (w : World) (hc : Cur B 141 w gc) : Calls Try.prog 123 #[.pointer (some ⟨gc, 0, none⟩)] w (DrewV 141 B gc w (fun v : Sides => .agg v.cells.toArray) (fun v => AllOk v.cells)) := by
  refine calls_draw (as_ := [.pointer (some ⟨gc, 0, none⟩)]) hc Try.func123 rfl rfl (fun a h1 h2 h3 => ((Fr.nil h1 h2).arg (h3 0 _ rfl))) ?_
  repeat (first | refine qan ?_ | refine qaj ?_ | refine qaf ?_ | refine qad ?_ | (refine qap ?_; (refine qac (qak rfl) rfl ?_ ?_ ?_); rfl; rfl) | (refine qaH ?_; refine SXl.alloc ?_ ?_ (fun g => ?_); rfl; rfl))
  refine qau ?_
  refine qaB (ξ := Sides) (v := fun v => .agg v.cells.toArray) rfl rfl rfl (fun v => AllOk v.cells) (fun w hl => l05Sides_d B gc w hl.inv) (fun s hs => ?_)
  repeat (first | refine qan ?_ | refine qaj ?_ | refine qaf ?_ | refine qad ?_ | (refine qap ?_; (refine qac (qak rfl) rfl ?_ ?_ ?_); rfl; rfl) | (refine qaH ?_; refine SXl.alloc ?_ ?_ (fun g => ?_); rfl; rfl) | (refine qas ?_; first | ((first | refine qaa 0 ?_ rfl rfl rfl rfl rfl rfl rfl ?_ | refine qaa 1 ?_ rfl rfl rfl rfl rfl rfl rfl ?_ | refine qaa 2 ?_ rfl rfl rfl rfl rfl rfl rfl ?_); rfl; simp only [List.set_cons_zero, List.set_cons_succ]) | ((first | refine qab 0 ?_ rfl rfl rfl rfl rfl rfl rfl ?_ | refine qab 1 ?_ rfl rfl rfl rfl rfl rfl rfl ?_ | refine qab 2 ?_ rfl rfl rfl rfl rfl rfl rfl ?_); rfl; simp only [over, List.set_cons_zero, List.set_cons_succ])))
  refine qau ?_
  refine qaB (ξ := Bool) (v := fun b => .bool b) rfl rfl rfl (fun _ => True) (fun w hl => once_d B gc w hl.inv 8 (by decide)) (fun b1 _ => ?_)
  cases b1
  · repeat (first | refine qan ?_ | refine qaj ?_ | refine qaf ?_ | refine qad ?_ | refine qaC ?_ | refine qat rfl ?_ | (refine qap ?_; (refine qac (qak rfl) rfl ?_ ?_ ?_); rfl; rfl))
    refine qau ?_
    refine qaB (ξ := Bool) (v := fun b => .bool b) rfl rfl rfl (fun _ => True) (fun w hl => once_d B gc w hl.inv 8 (by decide)) (fun b2 _ => ?_)
    cases b2
    · repeat (first | refine qan ?_ | refine qaj ?_ | refine qaf ?_ | refine qad ?_ | refine qaC ?_ | refine qat rfl ?_ | (refine qaw ?_; (refine qac (qal 0 rfl rfl rfl) rfl ?_ ?_ ?_); rfl; rfl) | (refine qas ?_; first | ((first | refine qaa 0 ?_ rfl rfl rfl rfl rfl rfl rfl ?_ | refine qaa 1 ?_ rfl rfl rfl rfl rfl rfl rfl ?_ | refine qaa 2 ?_ rfl rfl rfl rfl rfl rfl rfl ?_); rfl; simp only [List.set_cons_zero, List.set_cons_succ]) | ((first | refine qab 0 ?_ rfl rfl rfl rfl rfl rfl rfl ?_ | refine qab 1 ?_ rfl rfl rfl rfl rfl rfl rfl ?_ | refine qab 2 ?_ rfl rfl rfl rfl rfl rfl rfl ?_); rfl; simp only [over, List.set_cons_zero, List.set_cons_succ])) | refine qaz ?_)
      refine qaJ 1 rfl rfl rfl rfl (fun w' hl => ⟨s, rfl, hs, hl.mod, hl.inv⟩)
    · repeat (first | refine qaj ?_ | refine qaf ?_ | refine qad ?_ | refine qaq rfl ?_ | (refine qap ?_; (refine qac (qak rfl) rfl ?_ ?_ ?_); rfl; rfl))
      refine qau ?_
      refine qaB (ξ := Val) (v := fun v => .agg v.cells.toArray) rfl rfl rfl (fun v => AllOk v.cells) (fun w hl => l04Any_d B gc w hl.inv) (fun v2 hv2 => ?_)
      repeat (first | refine qan ?_ | refine qaj ?_ | refine qaf ?_ | refine qad ?_ | (refine qaw ?_; (refine qac (qal 0 rfl rfl rfl) rfl ?_ ?_ ?_); rfl; rfl) | (refine qai ?_; (refine qac (qae rfl) rfl ?_ ?_ ?_); rfl; rfl) | (refine qas ?_; first | ((first | refine qaa 0 ?_ rfl rfl rfl rfl rfl rfl rfl ?_ | refine qaa 1 ?_ rfl rfl rfl rfl rfl rfl rfl ?_ | refine qaa 2 ?_ rfl rfl rfl rfl rfl rfl rfl ?_); rfl; simp only [List.set_cons_zero, List.set_cons_succ]) | ((first | refine qab 0 ?_ rfl rfl rfl rfl rfl rfl rfl ?_ | refine qab 1 ?_ rfl rfl rfl rfl rfl rfl rfl ?_ | refine qab 2 ?_ rfl rfl rfl rfl rfl rfl rfl ?_); rfl; simp only [over, List.set_cons_zero, List.set_cons_succ])) | refine qaz ?_)
      refine qaJ 1 rfl rfl rfl rfl (fun w' hl => ⟨{ s with start := v2 }, rfl, AllOk.over (j := 8) hs hv2, hl.mod, hl.inv⟩)
  · repeat (first | refine qaj ?_ | refine qaf ?_ | refine qad ?_ | refine qaq rfl ?_ | (refine qap ?_; (refine qac (qak rfl) rfl ?_ ?_ ?_); rfl; rfl))
    refine qau ?_
    refine qaB (ξ := Val) (v := fun v => .agg v.cells.toArray) rfl rfl rfl (fun v => AllOk v.cells) (fun w hl => l04Any_d B gc w hl.inv) (fun v1 hv1 => ?_)
    repeat (first | refine qan ?_ | refine qaj ?_ | refine qaf ?_ | refine qad ?_ | (refine qai ?_; (refine qac (qae rfl) rfl ?_ ?_ ?_); rfl; rfl) | (refine qap ?_; (refine qac (qak rfl) rfl ?_ ?_ ?_); rfl; rfl) | (refine qas ?_; first | ((first | refine qaa 0 ?_ rfl rfl rfl rfl rfl rfl rfl ?_ | refine qaa 1 ?_ rfl rfl rfl rfl rfl rfl rfl ?_ | refine qaa 2 ?_ rfl rfl rfl rfl rfl rfl rfl ?_); rfl; simp only [List.set_cons_zero, List.set_cons_succ]) | ((first | refine qab 0 ?_ rfl rfl rfl rfl rfl rfl rfl ?_ | refine qab 1 ?_ rfl rfl rfl rfl rfl rfl rfl ?_ | refine qab 2 ?_ rfl rfl rfl rfl rfl rfl rfl ?_); rfl; simp only [over, List.set_cons_zero, List.set_cons_succ])))
    refine qau ?_
    refine qaB (ξ := Bool) (v := fun b => .bool b) rfl rfl rfl (fun _ => True) (fun w hl => once_d B gc w hl.inv 8 (by decide)) (fun b2 _ => ?_)
    cases b2
    · repeat (first | refine qan ?_ | refine qaj ?_ | refine qaf ?_ | refine qad ?_ | refine qaC ?_ | refine qat rfl ?_ | (refine qaw ?_; (refine qac (qal 0 rfl rfl rfl) rfl ?_ ?_ ?_); rfl; rfl) | (refine qas ?_; first | ((first | refine qaa 0 ?_ rfl rfl rfl rfl rfl rfl rfl ?_ | refine qaa 1 ?_ rfl rfl rfl rfl rfl rfl rfl ?_ | refine qaa 2 ?_ rfl rfl rfl rfl rfl rfl rfl ?_); rfl; simp only [List.set_cons_zero, List.set_cons_succ]) | ((first | refine qab 0 ?_ rfl rfl rfl rfl rfl rfl rfl ?_ | refine qab 1 ?_ rfl rfl rfl rfl rfl rfl rfl ?_ | refine qab 2 ?_ rfl rfl rfl rfl rfl rfl rfl ?_); rfl; simp only [over, List.set_cons_zero, List.set_cons_succ])) | refine qaz ?_)
      refine qaJ 1 rfl rfl rfl rfl (fun w' hl => ⟨{ s with top := v1 }, rfl, (AllOk.over (j := 2) hs hv1), hl.mod, hl.inv⟩)
    · repeat (first | refine qaj ?_ | refine qaf ?_ | refine qad ?_ | refine qaq rfl ?_ | (refine qap ?_; (refine qac (qak rfl) rfl ?_ ?_ ?_); rfl; rfl))
      refine qau ?_
      refine qaB (ξ := Val) (v := fun v => .agg v.cells.toArray) rfl rfl rfl (fun v => AllOk v.cells) (fun w hl => l04Any_d B gc w hl.inv) (fun v2 hv2 => ?_)
      repeat (first | refine qan ?_ | refine qaj ?_ | refine qaf ?_ | refine qad ?_ | (refine qaw ?_; (refine qac (qal 0 rfl rfl rfl) rfl ?_ ?_ ?_); rfl; rfl) | (refine qai ?_; (refine qac (qae rfl) rfl ?_ ?_ ?_); rfl; rfl) | (refine qas ?_; first | ((first | refine qaa 0 ?_ rfl rfl rfl rfl rfl rfl rfl ?_ | refine qaa 1 ?_ rfl rfl rfl rfl rfl rfl rfl ?_ | refine qaa 2 ?_ rfl rfl rfl rfl rfl rfl rfl ?_); rfl; simp only [List.set_cons_zero, List.set_cons_succ]) | ((first | refine qab 0 ?_ rfl rfl rfl rfl rfl rfl rfl ?_ | refine qab 1 ?_ rfl rfl rfl rfl rfl rfl rfl ?_ | refine qab 2 ?_ rfl rfl rfl rfl rfl rfl rfl ?_); rfl; simp only [over, List.set_cons_zero, List.set_cons_succ])) | refine qaz ?_)
      refine qaJ 1 rfl rfl rfl rfl (fun w' hl => ⟨{ s with top := v1, start := v2 }, rfl, AllOk.over (j := 8) (AllOk.over (j := 2) hs hv1) hv2, hl.mod, hl.inv⟩)

set_option maxRecDepth 100000 in
set_option maxHeartbeats 8000000 in
theorem l05Edges_d (B gc : Nat) (w : World) (hc : Cur B 141 w gc) : Calls Try.prog 114 #[.pointer (some ⟨gc, 0, none⟩)] w (DrewV 141 B gc w (fun v : Edges => .agg v.cells.toArray) (fun v => AllOk v.cells)) := by
  refine calls_draw (as_ := [.pointer (some ⟨gc, 0, none⟩)]) hc Try.func114 rfl rfl (fun a h1 h2 h3 => ((Fr.nil h1 h2).arg (h3 0 _ rfl))) ?_
  repeat (first | refine qan ?_ | refine qaj ?_ | refine qaf ?_ | refine qad ?_ | (refine l_build ?_; (refine qac ((OpW.build (vals := []) (cells := Edges.cells default) rfl (by kernel_rfl))) rfl ?_ ?_ ?_); rfl; rfl) | (refine qap ?_; (refine qac (qak rfl) rfl ?_ ?_ ?_); rfl; rfl) | (refine qaH ?_; refine SXl.alloc ?_ ?_ (fun g => ?_); rfl; rfl) | (refine qas ?_; first | ((first | refine qag 0 ?_ rfl rfl rfl rfl rfl rfl ?_ | refine qag 1 ?_ rfl rfl rfl rfl rfl rfl ?_ | refine qag 2 ?_ rfl rfl rfl rfl rfl rfl ?_); rfl; simp only [List.set_cons_zero, List.set_cons_succ]) | ((first | refine qaa 0 ?_ rfl rfl rfl rfl rfl rfl rfl ?_ | refine qaa 1 ?_ rfl rfl rfl rfl rfl rfl rfl ?_ | refine qaa 2 ?_ rfl rfl rfl rfl rfl rfl rfl ?_); rfl; simp only [List.set_cons_zero, List.set_cons_succ]) | ((first | refine qab 0 ?_ rfl rfl rfl rfl rfl rfl rfl ?_ | refine qab 1 ?_ rfl rfl rfl rfl rfl rfl rfl ?_ | refine qab 2 ?_ rfl rfl rfl rfl rfl rfl rfl ?_); rfl; simp only [over, List.set_cons_zero, List.set_cons_succ])))
  refine qau ?_
  refine qaB (ξ := Bool) (v := fun b => .bool b) rfl rfl rfl (fun _ => True) (fun w hl => once_d B gc w hl.inv 2 (by decide)) (fun b _ => ?_)
  cases b
  rotate_left
  · repeat (first | refine qan ?_ | refine qaj ?_ | refine qaf ?_ | refine qad ?_ | refine qaq rfl ?_ | (refine qaw ?_; (refine qac (qal 0 rfl rfl rfl) rfl ?_ ?_ ?_); rfl; rfl) | (refine qas ?_; first | ((first | refine qag 0 ?_ rfl rfl rfl rfl rfl rfl ?_ | refine qag 1 ?_ rfl rfl rfl rfl rfl rfl ?_ | refine qag 2 ?_ rfl rfl rfl rfl rfl rfl ?_); rfl; simp only [List.set_cons_zero, List.set_cons_succ]) | ((first | refine qaa 0 ?_ rfl rfl rfl rfl rfl rfl rfl ?_ | refine qaa 1 ?_ rfl rfl rfl rfl rfl rfl rfl ?_ | refine qaa 2 ?_ rfl rfl rfl rfl rfl rfl rfl ?_); rfl; simp only [List.set_cons_zero, List.set_cons_succ]) | ((first | refine qab 0 ?_ rfl rfl rfl rfl rfl rfl rfl ?_ | refine qab 1 ?_ rfl rfl rfl rfl rfl rfl rfl ?_ | refine qab 2 ?_ rfl rfl rfl rfl rfl rfl rfl ?_); rfl; simp only [over, List.set_cons_zero, List.set_cons_succ])) | refine qaz ?_ | refine qax ?_)
    refine qaJ 1 rfl rfl rfl rfl (fun w' hl => ⟨default, rfl, allOk_of (by decide), hl.mod, hl.inv⟩)
  repeat (first | refine qan ?_ | refine qaj ?_ | refine qaf ?_ | refine qad ?_ | refine qaC ?_ | refine qat rfl ?_ | (refine qap ?_; (refine qac (qak rfl) rfl ?_ ?_ ?_); rfl; rfl))
  refine qaR ?_
  refine SXl.lit (cells := [.int .i64 0, .int .i64 64, .int .i64 10, .int .i64 33]) (z := .int .i64 0) ?_ ?_ rfl (by decide) (by kernel_rfl) rfl (fun gl => ?_)
  rfl; rfl
  skip
  refine qau ?_
  refine qaB (ξ := Int) (v := fun x => .int .i64 x) rfl rfl rfl (fun x => x ∈ ([0, 64, 10, 33] : List Int)) (fun w hl => pick_d (l := [0, 64, 10, 33]) hl (by decide) (by decide)) (fun x0 hx0 => ?_)
  refine SXl.drop1 ?_
  have hy0 : 0 ≤ x0 ∧ x0 ≤ 64 := by simp at hx0; omega
  repeat (first | refine qan ?_ | refine qaj ?_ | refine qaf ?_ | refine qad ?_ | (refine qai ?_; (refine qac (qae rfl) rfl ?_ ?_ ?_); rfl; rfl) | (refine qap ?_; (refine qac (qak rfl) rfl ?_ ?_ ?_); rfl; rfl) | (refine qas ?_; first | ((first | refine qag 0 ?_ rfl rfl rfl rfl rfl rfl ?_ | refine qag 1 ?_ rfl rfl rfl rfl rfl rfl ?_ | refine qag 2 ?_ rfl rfl rfl rfl rfl rfl ?_); rfl; simp only [List.set_cons_zero, List.set_cons_succ]) | ((first | refine qaa 0 ?_ rfl rfl rfl rfl rfl rfl rfl ?_ | refine qaa 1 ?_ rfl rfl rfl rfl rfl rfl rfl ?_ | refine qaa 2 ?_ rfl rfl rfl rfl rfl rfl rfl ?_); rfl; simp only [List.set_cons_zero, List.set_cons_succ]) | ((first | refine qab 0 ?_ rfl rfl rfl rfl rfl rfl rfl ?_ | refine qab 1 ?_ rfl rfl rfl rfl rfl rfl rfl ?_ | refine qab 2 ?_ rfl rfl rfl rfl rfl rfl rfl ?_); rfl; simp only [over, List.set_cons_zero, List.set_cons_succ])))
  refine qaR ?_
  refine SXl.lit (cells := [.int .i64 0, .int .i64 64, .int .i64 10, .int .i64 33]) (z := .int .i64 0) ?_ ?_ rfl (by decide) (by kernel_rfl) rfl (fun gl => ?_)
  rfl; rfl
  skip
  refine qau ?_
  refine qaB (ξ := Int) (v := fun x => .int .i64 x) rfl rfl rfl (fun x => x ∈ ([0, 64, 10, 33] : List Int)) (fun w hl => pick_d (l := [0, 64, 10, 33]) hl (by decide) (by decide)) (fun x1 hx1 => ?_)
  refine SXl.drop1 ?_
  have hy1 : 0 ≤ x1 ∧ x1 ≤ 64 := by simp at hx1; omega
  repeat (first | refine qan ?_ | refine qaj ?_ | refine qaf ?_ | refine qad ?_ | (refine qai ?_; (refine qac (qae rfl) rfl ?_ ?_ ?_); rfl; rfl) | (refine qap ?_; (refine qac (qak rfl) rfl ?_ ?_ ?_); rfl; rfl) | (refine qas ?_; first | ((first | refine qag 0 ?_ rfl rfl rfl rfl rfl rfl ?_ | refine qag 1 ?_ rfl rfl rfl rfl rfl rfl ?_ | refine qag 2 ?_ rfl rfl rfl rfl rfl rfl ?_); rfl; simp only [List.set_cons_zero, List.set_cons_succ]) | ((first | refine qaa 0 ?_ rfl rfl rfl rfl rfl rfl rfl ?_ | refine qaa 1 ?_ rfl rfl rfl rfl rfl rfl rfl ?_ | refine qaa 2 ?_ rfl rfl rfl rfl rfl rfl rfl ?_); rfl; simp only [List.set_cons_zero, List.set_cons_succ]) | ((first | refine qab 0 ?_ rfl rfl rfl rfl rfl rfl rfl ?_ | refine qab 1 ?_ rfl rfl rfl rfl rfl rfl rfl ?_ | refine qab 2 ?_ rfl rfl rfl rfl rfl rfl rfl ?_); rfl; simp only [over, List.set_cons_zero, List.set_cons_succ])))
  refine qaR ?_
  refine SXl.lit (cells := [.int .i64 0, .int .i64 64, .int .i64 10]) (z := .int .i64 0) ?_ ?_ rfl (by decide) (by kernel_rfl) rfl (fun gl => ?_)
  rfl; rfl
  skip
  refine qau ?_
  refine qaB (ξ := Int) (v := fun x => .int .i64 x) rfl rfl rfl (fun x => x ∈ ([0, 64, 10] : List Int)) (fun w hl => pick_d (l := [0, 64, 10]) hl (by decide) (by decide)) (fun x2 hx2 => ?_)
  refine SXl.drop1 ?_
  have hy2 : 0 ≤ x2 ∧ x2 ≤ 64 := by simp at hx2; omega
  repeat (first | refine qan ?_ | refine qaj ?_ | refine qaf ?_ | refine qad ?_ | (refine qai ?_; (refine qac (qae rfl) rfl ?_ ?_ ?_); rfl; rfl) | (refine qap ?_; (refine qac (qak rfl) rfl ?_ ?_ ?_); rfl; rfl) | (refine qas ?_; first | ((first | refine qag 0 ?_ rfl rfl rfl rfl rfl rfl ?_ | refine qag 1 ?_ rfl rfl rfl rfl rfl rfl ?_ | refine qag 2 ?_ rfl rfl rfl rfl rfl rfl ?_); rfl; simp only [List.set_cons_zero, List.set_cons_succ]) | ((first | refine qaa 0 ?_ rfl rfl rfl rfl rfl rfl rfl ?_ | refine qaa 1 ?_ rfl rfl rfl rfl rfl rfl rfl ?_ | refine qaa 2 ?_ rfl rfl rfl rfl rfl rfl rfl ?_); rfl; simp only [List.set_cons_zero, List.set_cons_succ]) | ((first | refine qab 0 ?_ rfl rfl rfl rfl rfl rfl rfl ?_ | refine qab 1 ?_ rfl rfl rfl rfl rfl rfl rfl ?_ | refine qab 2 ?_ rfl rfl rfl rfl rfl rfl rfl ?_); rfl; simp only [over, List.set_cons_zero, List.set_cons_succ])))
  refine qaR ?_
  refine SXl.lit (cells := [.int .i64 0, .int .i64 64, .int .i64 10]) (z := .int .i64 0) ?_ ?_ rfl (by decide) (by kernel_rfl) rfl (fun gl => ?_)
  rfl; rfl
  skip
  refine qau ?_
  refine qaB (ξ := Int) (v := fun x => .int .i64 x) rfl rfl rfl (fun x => x ∈ ([0, 64, 10] : List Int)) (fun w hl => pick_d (l := [0, 64, 10]) hl (by decide) (by decide)) (fun x3 hx3 => ?_)
  refine SXl.drop1 ?_
  have hy3 : 0 ≤ x3 ∧ x3 ≤ 64 := by simp at hx3; omega
  repeat (first | refine qan ?_ | refine qaj ?_ | refine qaf ?_ | refine qad ?_ | (refine qaw ?_; (refine qac (qal 0 rfl rfl rfl) rfl ?_ ?_ ?_); rfl; rfl) | (refine qai ?_; (refine qac (qae rfl) rfl ?_ ?_ ?_); rfl; rfl) | (refine qas ?_; first | ((first | refine qag 0 ?_ rfl rfl rfl rfl rfl rfl ?_ | refine qag 1 ?_ rfl rfl rfl rfl rfl rfl ?_ | refine qag 2 ?_ rfl rfl rfl rfl rfl rfl ?_); rfl; simp only [List.set_cons_zero, List.set_cons_succ]) | ((first | refine qaa 0 ?_ rfl rfl rfl rfl rfl rfl rfl ?_ | refine qaa 1 ?_ rfl rfl rfl rfl rfl rfl rfl ?_ | refine qaa 2 ?_ rfl rfl rfl rfl rfl rfl rfl ?_); rfl; simp only [List.set_cons_zero, List.set_cons_succ]) | ((first | refine qab 0 ?_ rfl rfl rfl rfl rfl rfl rfl ?_ | refine qab 1 ?_ rfl rfl rfl rfl rfl rfl rfl ?_ | refine qab 2 ?_ rfl rfl rfl rfl rfl rfl rfl ?_); rfl; simp only [over, List.set_cons_zero, List.set_cons_succ])) | refine qaz ?_)
  refine qaJ 1 rfl rfl rfl rfl (fun w' hl => ⟨⟨x0, x1, x2, x3⟩, rfl, ((((allOk_of (c := Edges.cells default) (by decide)).set (cellOk_int (n := x0) ⟨by omega, by omega⟩) 0).set (cellOk_int (n := x1) ⟨by omega, by omega⟩) 1).set (cellOk_int (n := x2) ⟨by omega, by omega⟩) 2).set (cellOk_int (n := x3) ⟨by omega, by omega⟩) 3, hl.mod, hl.inv⟩)

set_option maxRecDepth 100000 in
set_option maxHeartbeats 8000000 in
theorem l05AnyEdges_d (B gc : Nat) (w : World) (hc : Cur B 141 w gc) : Calls Try.prog 124 #[.pointer (some ⟨gc, 0, none⟩)] w (DrewV 141 B gc w (fun v : Edges => .agg v.cells.toArray) (fun v => AllOk v.cells)) := by
  refine calls_draw (as_ := [.pointer (some ⟨gc, 0, none⟩)]) hc Try.func124 rfl rfl (fun a h1 h2 h3 => ((Fr.nil h1 h2).arg (h3 0 _ rfl))) ?_
  repeat (first | refine qan ?_ | refine qaj ?_ | refine qaf ?_ | refine qad ?_ | (refine qap ?_; (refine qac (qak rfl) rfl ?_ ?_ ?_); rfl; rfl) | (refine qaH ?_; refine SXl.alloc ?_ ?_ (fun g => ?_); rfl; rfl))
  refine qau ?_
  refine qaB (ξ := Edges) (v := fun v => .agg v.cells.toArray) rfl rfl rfl (fun v => AllOk v.cells) (fun w hl => l05Edges_d B gc w hl.inv) (fun s hs => ?_)
  repeat (first | refine qan ?_ | refine qaj ?_ | refine qaf ?_ | refine qad ?_ | (refine qap ?_; (refine qac (qak rfl) rfl ?_ ?_ ?_); rfl; rfl) | (refine qaH ?_; refine SXl.alloc ?_ ?_ (fun g => ?_); rfl; rfl) | (refine qas ?_; first | ((first | refine qag 0 ?_ rfl rfl rfl rfl rfl rfl ?_ | refine qag 1 ?_ rfl rfl rfl rfl rfl rfl ?_ | refine qag 2 ?_ rfl rfl rfl rfl rfl rfl ?_); rfl; simp only [List.set_cons_zero, List.set_cons_succ]) | ((first | refine qaa 0 ?_ rfl rfl rfl rfl rfl rfl rfl ?_ | refine qaa 1 ?_ rfl rfl rfl rfl rfl rfl rfl ?_ | refine qaa 2 ?_ rfl rfl rfl rfl rfl rfl rfl ?_); rfl; simp only [List.set_cons_zero, List.set_cons_succ]) | ((first | refine qab 0 ?_ rfl rfl rfl rfl rfl rfl rfl ?_ | refine qab 1 ?_ rfl rfl rfl rfl rfl rfl rfl ?_ | refine qab 2 ?_ rfl rfl rfl rfl rfl rfl rfl ?_); rfl; simp only [over, List.set_cons_zero, List.set_cons_succ])))
  refine qau ?_
  refine qaB (ξ := Bool) (v := fun b => .bool b) rfl rfl rfl (fun _ => True) (fun w hl => once_d B gc w hl.inv 6 (by decide)) (fun b _ => ?_)
  cases b
  · repeat (first | refine qan ?_ | refine qaj ?_ | refine qaf ?_ | refine qad ?_ | refine qaC ?_ | refine qat rfl ?_ | (refine qaw ?_; (refine qac (qal 0 rfl rfl rfl) rfl ?_ ?_ ?_); rfl; rfl) | (refine qas ?_; first | ((first | refine qag 0 ?_ rfl rfl rfl rfl rfl rfl ?_ | refine qag 1 ?_ rfl rfl rfl rfl rfl rfl ?_ | refine qag 2 ?_ rfl rfl rfl rfl rfl rfl ?_); rfl; simp only [List.set_cons_zero, List.set_cons_succ]) | ((first | refine qaa 0 ?_ rfl rfl rfl rfl rfl rfl rfl ?_ | refine qaa 1 ?_ rfl rfl rfl rfl rfl rfl rfl ?_ | refine qaa 2 ?_ rfl rfl rfl rfl rfl rfl rfl ?_); rfl; simp only [List.set_cons_zero, List.set_cons_succ]) | ((first | refine qab 0 ?_ rfl rfl rfl rfl rfl rfl rfl ?_ | refine qab 1 ?_ rfl rfl rfl rfl rfl rfl rfl ?_ | refine qab 2 ?_ rfl rfl rfl rfl rfl rfl rfl ?_); rfl; simp only [over, List.set_cons_zero, List.set_cons_succ])) | refine qaz ?_)
    refine qaJ 1 rfl rfl rfl rfl (fun w' hl => ⟨s, rfl, hs, hl.mod, hl.inv⟩)
  · repeat (first | refine qaj ?_ | refine qaf ?_ | refine qad ?_ | refine qaq rfl ?_ | (refine qap ?_; (refine qac (qak rfl) rfl ?_ ?_ ?_); rfl; rfl))
    refine qau ?_
    refine qaB (ξ := Int) (v := fun x => .int .i64 x) rfl rfl rfl (fun x => I64 x) (fun w hl => l02Int_d B gc w hl.inv) (fun y hy => ?_)
    repeat (first | refine qan ?_ | refine qaj ?_ | refine qaf ?_ | refine qad ?_ | (refine qaw ?_; (refine qac (qal 0 rfl rfl rfl) rfl ?_ ?_ ?_); rfl; rfl) | (refine qai ?_; (refine qac (qae rfl) rfl ?_ ?_ ?_); rfl; rfl) | (refine qas ?_; first | ((first | refine qag 0 ?_ rfl rfl rfl rfl rfl rfl ?_ | refine qag 1 ?_ rfl rfl rfl rfl rfl rfl ?_ | refine qag 2 ?_ rfl rfl rfl rfl rfl rfl ?_); rfl; simp only [List.set_cons_zero, List.set_cons_succ]) | ((first | refine qaa 0 ?_ rfl rfl rfl rfl rfl rfl rfl ?_ | refine qaa 1 ?_ rfl rfl rfl rfl rfl rfl rfl ?_ | refine qaa 2 ?_ rfl rfl rfl rfl rfl rfl rfl ?_); rfl; simp only [List.set_cons_zero, List.set_cons_succ]) | ((first | refine qab 0 ?_ rfl rfl rfl rfl rfl rfl rfl ?_ | refine qab 1 ?_ rfl rfl rfl rfl rfl rfl rfl ?_ | refine qab 2 ?_ rfl rfl rfl rfl rfl rfl rfl ?_); rfl; simp only [over, List.set_cons_zero, List.set_cons_succ])) | refine qaz ?_)
    refine qaJ 1 rfl rfl rfl rfl (fun w' hl => ⟨{ s with right := y }, rfl, hs.set (cellOk_int hy) 2, hl.mod, hl.inv⟩)
end Go.Proofs.Ythffgbhphjkdeaa
