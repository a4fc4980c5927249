/-
  PROVED: a region that draws its order, walked once in the order of its text: each operation is shown under a condition S on the world that every operation keeps. No program in sight. Conditions: a check on the region's edges, by computation.
-/
import Derived.Test.YthffgbhphjkdeaaDoorMem
import Derived.OrdersHeld
import Derived.StillTail
namespace Go.Proofs.YthffgbhphjkdeaaDoor
open Go.RowKit

def edgesOf (ops : Array Oper) (k : Nat) : List Nat := ((ops[k]?).map fun o => o.after.toList.filterMap fun e => if Region.binds .any e then some e.on else none).getD []
def anc (ops : Array Oper) : Nat → List Nat → List Nat
  | 0, acc => acc
  | n + 1, acc => anc ops n (if acc.contains n then acc ++ edgesOf ops n else acc)
/-- Who must have come up before number k. -/
def reach (ops : Array Oper) (_f k : Nat) : List Nat := anc ops k (edgesOf ops k)

def dstOf (ops : Array Oper) (i : Nat) : Option Tmp := (ops[i]?).bind (·.dst)

/-- The region is in order: edges go back; each temporary has one writer; who looks at it waits for its writer. -/
def regOkTo (n : Nat) (ops : Array Oper) : Bool :=
  Region.noSelect ops &&
  ((List.range ops.size).all fun i => match ops[i]? with
    | none => true
    | some o => o.after.all fun e => !Region.binds .any e || decide (e.on < i)) &&
  (List.range n).all fun i => match ops[i]? with
    | none => true
    | some o => (List.range n).all fun j => match dstOf ops j with
      | none => true
      | some d => (i == j || o.dst != some d) && (!(o.looksAt ops).contains d || o.after.any fun e => Region.binds .any e && e.on == j)
abbrev regOk (ops : Array Oper) : Bool := regOkTo ops.size ops

theorem regOk_spec {n : Nat} {ops : Array Oper} (h : regOkTo n ops = true) : Region.noSelect ops = true ∧
    (∀ (i : Nat) o, ops[i]? = some o → ∀ e ∈ o.after, Region.binds .any e = true → e.on < i) ∧
    (∀ (i j : Nat) o p d, i < n → j < n → ops[i]? = some o → ops[j]? = some p → p.dst = some d → o.dst = some d → i = j) ∧
    (∀ (i j : Nat) o p d, i < n → j < n → ops[i]? = some o → ops[j]? = some p → p.dst = some d → d ∈ o.looksAt ops → ∃ e ∈ o.after, Region.binds .any e = true ∧ e.on = j) := by
  unfold regOkTo at h
  simp only [Bool.and_eq_true, List.all_eq_true, List.mem_range] at h
  obtain ⟨⟨h0, hb⟩, h1⟩ := h
  have lt : ∀ (i : Nat) o, ops[i]? = some o → i < ops.size := fun i o hi => (Array.getElem?_eq_some_iff.1 hi).1
  refine ⟨h0, fun i o hi e he hbd => ?_, fun i j o p d hin hjn hi hj hp ho => ?_, fun i j o p d hin hjn hi hj hp hd => ?_⟩
  · have h2 := hb i (lt i o hi)
    simp only [hi] at h2
    have h3 := Array.all_eq_true_iff_forall_mem.1 h2 e he
    simpa [hbd] using h3
  · have h2 := h1 i hin
    simp only [hi] at h2
    have h3 := List.all_eq_true.1 h2 j (by simpa using hjn)
    have hdj : dstOf ops j = some d := by simp [dstOf, hj, hp]
    simp only [hdj, Bool.and_eq_true, Bool.or_eq_true] at h3
    rcases h3.1 with h4 | h4
    · simpa using h4
    · simp [ho] at h4
  · have h2 := h1 i hin
    simp only [hi] at h2
    have h3 := List.all_eq_true.1 h2 j (by simpa using hjn)
    have hdj : dstOf ops j = some d := by simp [dstOf, hj, hp]
    simp only [hdj, Bool.and_eq_true, Bool.or_eq_true] at h3
    rcases h3.2 with h4 | h4
    · rw [List.contains_iff_mem.2 hd] at h4; simp at h4
    · rw [← Array.any_toList] at h4
      obtain ⟨e, he, h5⟩ := List.any_eq_true.1 h4
      simp only [Bool.and_eq_true, beq_iff_eq] at h5
      exact ⟨e, Array.mem_toList_iff.1 he, h5.1, h5.2⟩

def never : Exit → Act → World → Prop := fun _ _ _ => False

/-- The walk in the text's order. x: what the calls that make memory hand back, by their number. -/
inductive RS (P : Program) (ops : Array Oper) (T : World → World → Prop) (S : World → Prop) (Q : Exit → Act → World → Prop) : Nat → List Oper → ((Nat → Value) → Act) → List (Nat × ((Nat → Value) → World → Value → Prop)) → Prop
  | done {k : Nat} {F : (Nat → Value) → Act} {U : List (Nat × ((Nat → Value) → World → Value → Prop))} (h : ∀ x w, S w → (∀ u ∈ U, u.2 x w (x u.1)) → Q .normal (F x) w) : RS P ops T S Q k [] F U
  | skip {k : Nat} {o : Oper} {rest : List Oper} {F : (Nat → Value) → Act} {U : List (Nat × ((Nat → Value) → World → Value → Prop))} (hw : ∀ x, Region.wanted o (yielded ops (F x).tmps) = false)
      (h : RS P ops T S Q (k + 1) rest (fun x => (F x).put o.dst undef) U) : RS P ops T S Q k (o :: rest) F U
  | val {k : Nat} {o : Oper} {rest : List Oper} {F : (Nat → Value) → Act} {U : List (Nat × ((Nat → Value) → World → Value → Prop))} (us : List Nat) (g : (Nat → Value) → Value)
      (hus : (us.all fun i => (reach ops ops.size k).contains i) = true) (hg : ∀ x y, (∀ i ∈ us, x i = y i) → g x = g y)
      (hw : ∀ x, Region.wanted o (yielded ops (F x).tmps) = true)
      (ho : ∀ x w, S w → (∀ u ∈ U, u.1 ∈ us → u.2 x w (x u.1)) → o.wp P (F x) w (fun a' w' => a' = (F x).put o.dst (g x) ∧ S w' ∧ T w w') never)
      (h : RS P ops T S Q (k + 1) rest (fun x => (F x).put o.dst (g x)) U) : RS P ops T S Q k (o :: rest) F U
  | newx {k : Nat} {o : Oper} {rest : List Oper} {F : (Nat → Value) → Act} {U : List (Nat × ((Nat → Value) → World → Value → Prop))} (us : List Nat) (V : ((Nat → Value) → World → Value → Prop)) (D : Value → Value) (hD : ∀ x w v, V x w v → D v = v)
      (hus : (us.all fun i => (reach ops ops.size k).contains i) = true) (hV : (∀ x w w' v, V x w v → T w w' → V x w' v) ∧ ∀ x y w v, (∀ i ∈ us, x i = y i) → V x w v → V y w v)
      (hw : ∀ x, Region.wanted o (yielded ops (F x).tmps) = true)
      (ho : ∀ x w, S w → (∀ u ∈ U, u.1 ∈ us → u.2 x w (x u.1)) → o.wp P (F x) w (fun a' w' => ∃ v, a' = (F x).put o.dst v ∧ V x w' v ∧ S w' ∧ T w w') never)
      (h : RS P ops T S Q (k + 1) rest (fun x => (F x).put o.dst (D (x k))) ((k, V) :: U)) : RS P ops T S Q k (o :: rest) F U

section
variable {P : Program} {ops : Array Oper} {T : World → World → Prop} {S : World → Prop} {Q : Exit → Act → World → Prop}

/-- The same, where what is told of a value does not hang on other values. -/
theorem RS.new {k : Nat} {o : Oper} {rest : List Oper} {F : (Nat → Value) → Act} {U : List (Nat × ((Nat → Value) → World → Value → Prop))} (us : List Nat) (V : World → Value → Prop) (D : Value → Value) (hD : ∀ w v, V w v → D v = v)
    (hus : (us.all fun i => (reach ops ops.size k).contains i) = true) (hV : ∀ w w' v, V w v → T w w' → V w' v)
    (hw : ∀ x, Region.wanted o (yielded ops (F x).tmps) = true)
    (ho : ∀ x w, S w → (∀ u ∈ U, u.1 ∈ us → u.2 x w (x u.1)) → o.wp P (F x) w (fun a' w' => ∃ v, a' = (F x).put o.dst v ∧ V w' v ∧ S w' ∧ T w w') never)
    (h : RS P ops T S Q (k + 1) rest (fun x => (F x).put o.dst (D (x k))) ((k, fun _ => V) :: U)) : RS P ops T S Q k (o :: rest) F U :=
  RS.newx us (fun _ => V) D (fun _ => hD) hus ⟨fun _ => hV, fun _ _ _ _ _ h => h⟩ hw ho h

/-- The frame behind the first k operations. -/
def frm (ops : Array Oper) (a0 : Act) (G : Nat → (Nat → Value) → Value) (x : Nat → Value) : Nat → Act
  | 0 => a0
  | k + 1 => (frm ops a0 G x k).put (dstOf ops k) (G k x)

/-- What the walk says of one operation. -/
def Spec (P : Program) (ops : Array Oper) (T : World → World → Prop) (S : World → Prop) (k : Nat) (o : Oper) (A : (Nat → Value) → Act) (U : List (Nat × ((Nat → Value) → World → Value → Prop))) (g : (Nat → Value) → Value) (nw : Option ((Nat → Value) → World → Value → Prop)) : Prop :=
  ((∀ x, Region.wanted o (yielded ops (A x).tmps) = false) ∧ g = (fun _ => undef) ∧ nw = none) ∨
  (∃ us : List Nat, (∀ i ∈ us, i ∈ reach ops ops.size k) ∧ (∀ x y, (∀ i ∈ us, x i = y i) → g x = g y) ∧ nw = none ∧ (∀ x, Region.wanted o (yielded ops (A x).tmps) = true) ∧
    ∀ x w, S w → (∀ u ∈ U, u.1 ∈ us → u.2 x w (x u.1)) → o.wp P (A x) w (fun a' w' => a' = (A x).put o.dst (g x) ∧ S w' ∧ T w w') never) ∨
  (∃ (us : List Nat) (V : ((Nat → Value) → World → Value → Prop)) (D : Value → Value), (∀ i ∈ us, i ∈ reach ops ops.size k) ∧ nw = some V ∧ (g = (fun x => D (x k)) ∧ ∀ x w v, V x w v → D v = v) ∧ ((∀ x w w' v, V x w v → T w w' → V x w' v) ∧ ∀ x y w v, (∀ i ∈ us, x i = y i) → V x w v → V y w v) ∧ (∀ x, Region.wanted o (yielded ops (A x).tmps) = true) ∧
    ∀ x w, S w → (∀ u ∈ U, u.1 ∈ us → u.2 x w (x u.1)) → o.wp P (A x) w (fun a' w' => ∃ v, a' = (A x).put o.dst v ∧ V x w' v ∧ S w' ∧ T w w') never)

theorem contains_all {us r : List Nat} (h : (us.all fun i => r.contains i) = true) : ∀ i ∈ us, i ∈ r := fun i hi => by
  have := List.all_eq_true.1 h i hi
  simpa using this

/-- What a walk from number k on holds, written out. -/
theorem RS.out {k : Nat} {rest : List Oper} {F : (Nat → Value) → Act} {U : List (Nat × ((Nat → Value) → World → Value → Prop))} (h : RS P ops T S Q k rest F U) :
    ∀ (a0 : Act) (G0 : Nat → (Nat → Value) → Value) (N0 : Nat → Option ((Nat → Value) → World → Value → Prop)), (∀ j, j < rest.length → rest[j]? = ops[k + j]?) → F = (fun x => frm ops a0 G0 x k) → (∀ u ∈ U, N0 u.1 = some u.2 ∧ u.1 < k) → (∀ i V, i < k → N0 i = some V → (i, V) ∈ U) →
    ∃ (G : Nat → (Nat → Value) → Value) (N : Nat → Option ((Nat → Value) → World → Value → Prop)), (∀ i, i < k → G i = G0 i ∧ N i = N0 i) ∧
      (∀ i o, k ≤ i → i < k + rest.length → ops[i]? = some o → ∃ Ui : List (Nat × ((Nat → Value) → World → Value → Prop)), (∀ u ∈ Ui, N u.1 = some u.2 ∧ u.1 < i) ∧ Spec P ops T S i o (fun x => frm ops a0 G x i) Ui (G i) (N i)) ∧
      (∀ x w, S w → (∀ i V, i < k + rest.length → N i = some V → V x w (x i)) → Q .normal (frm ops a0 G x (k + rest.length)) w) := by
  have frmEq : ∀ (a0 : Act) (G G' : Nat → (Nat → Value) → Value) (m : Nat), (∀ i, i < m → G i = G' i) → ∀ x, frm ops a0 G x m = frm ops a0 G' x m := by
    intro a0 G G' m
    induction m with
    | zero => intro _ _; rfl
    | succ m ih => intro hG x; simp only [frm]; rw [ih (fun i hi => hG i (by omega)) x, hG m (by omega)]
  induction h with
  | @done k F U h =>
    intro a0 G0 N0 hr hF hU hU2
    subst hF
    refine ⟨G0, N0, fun i _ => ⟨rfl, rfl⟩, fun i o hi hlt ho => ?_, fun x w hS hN => h x w hS fun u hu => hN u.1 u.2 (by have := (hU u hu).2; simp; omega) (hU u hu).1⟩
    simp at hlt; omega
  | @skip k o rest F U hw h ih =>
    intro a0 G0 N0 hr hF hU hU2
    subst hF
    have ho : ops[k]? = some o := by simpa using (hr 0 (by simp)).symm
    have hd : dstOf ops k = o.dst := by simp [dstOf, ho]
    let G1 : Nat → (Nat → Value) → Value := fun i => if i = k then fun _ => undef else G0 i
    let N1 : Nat → Option ((Nat → Value) → World → Value → Prop) := fun i => if i = k then none else N0 i
    have g1 : ∀ i, i < k → G1 i = G0 i := fun i hi => if_neg (by omega)
    have n1 : ∀ i, i < k → N1 i = N0 i := fun i hi => if_neg (by omega)
    have gk : G1 k = fun _ => undef := if_pos rfl
    have nk : N1 k = none := if_pos rfl
    obtain ⟨G, N, e1, e2, e3⟩ := ih a0 G1 N1 (fun j hj => by have := hr (j + 1) (by simp; omega); simpa [Nat.add_assoc, Nat.add_comm 1 j] using this)
      (by funext x; simp only [frm, gk, hd]; rw [frmEq a0 G1 G0 k g1 x])
      (fun u hu => ⟨by rw [n1 _ (hU u hu).2]; exact (hU u hu).1, by have := (hU u hu).2; omega⟩)
      (fun i V hi hN => by
        by_cases e : i = k
        · subst e; rw [nk] at hN; cases hN
        · rw [n1 i (by omega)] at hN; exact hU2 i V (by omega) hN)
    refine ⟨G, N, fun i hi => ⟨(e1 i (by omega)).1.trans (g1 i hi), (e1 i (by omega)).2.trans (n1 i hi)⟩, fun i o' hi hlt ho' => ?_, by simpa [Nat.add_assoc, Nat.add_comm 1] using e3⟩
    by_cases e : i = k
    · subst e
      obtain rfl : o = o' := by rw [ho] at ho'; simpa using ho'
      refine ⟨[], fun u hu => by simp at hu, .inl ⟨fun x => ?_, by rw [(e1 i (by omega)).1, gk], by rw [(e1 i (by omega)).2, nk]⟩⟩
      show Region.wanted o (yielded ops (frm ops a0 G x i).tmps) = false
      rw [frmEq a0 G G0 i (fun j hj => (e1 j (by omega)).1.trans (g1 j hj)) x]
      exact hw x
    · exact e2 i o' (by omega) (by simp only [List.length_cons] at hlt; omega) ho'
  | @val k o rest F U us g hus hg hw hop h ih =>
    intro a0 G0 N0 hr hF hU hU2
    subst hF
    have ho : ops[k]? = some o := by simpa using (hr 0 (by simp)).symm
    have hd : dstOf ops k = o.dst := by simp [dstOf, ho]
    let G1 : Nat → (Nat → Value) → Value := fun i => if i = k then g else G0 i
    let N1 : Nat → Option ((Nat → Value) → World → Value → Prop) := fun i => if i = k then none else N0 i
    have g1 : ∀ i, i < k → G1 i = G0 i := fun i hi => if_neg (by omega)
    have n1 : ∀ i, i < k → N1 i = N0 i := fun i hi => if_neg (by omega)
    have gk : G1 k = g := if_pos rfl
    have nk : N1 k = none := if_pos rfl
    obtain ⟨G, N, e1, e2, e3⟩ := ih a0 G1 N1 (fun j hj => by have := hr (j + 1) (by simp; omega); simpa [Nat.add_assoc, Nat.add_comm 1 j] using this)
      (by funext x; simp only [frm, gk, hd]; rw [frmEq a0 G1 G0 k g1 x])
      (fun u hu => ⟨by rw [n1 _ (hU u hu).2]; exact (hU u hu).1, by have := (hU u hu).2; omega⟩)
      (fun i V hi hN => by
        by_cases e : i = k
        · subst e; rw [nk] at hN; cases hN
        · rw [n1 i (by omega)] at hN; exact hU2 i V (by omega) hN)
    refine ⟨G, N, fun i hi => ⟨(e1 i (by omega)).1.trans (g1 i hi), (e1 i (by omega)).2.trans (n1 i hi)⟩, fun i o' hi hlt ho' => ?_, by simpa [Nat.add_assoc, Nat.add_comm 1] using e3⟩
    by_cases e : i = k
    · subst e
      obtain rfl : o = o' := by rw [ho] at ho'; simpa using ho'
      have fe := frmEq a0 G G0 i (fun j hj => (e1 j (by omega)).1.trans (g1 j hj))
      have ge : G i = g := (e1 i (by omega)).1.trans gk
      refine ⟨U, fun u hu => ⟨by rw [(e1 u.1 (by have := (hU u hu).2; omega)).2, n1 _ (hU u hu).2]; exact (hU u hu).1, (hU u hu).2⟩, .inr (.inl ⟨us, contains_all hus, by rw [ge]; exact hg, by rw [(e1 i (by omega)).2, nk], fun x => by show Region.wanted o (yielded ops (frm ops a0 G x i).tmps) = true; rw [fe]; exact hw x, fun x w hS hK => ?_⟩)⟩
      simp only [fe, ge]
      exact hop x w hS hK
    · exact e2 i o' (by omega) (by simp only [List.length_cons] at hlt; omega) ho'
  | @newx k o rest F U us V D hD hus hV hw hop h ih =>
    intro a0 G0 N0 hr hF hU hU2
    subst hF
    have ho : ops[k]? = some o := by simpa using (hr 0 (by simp)).symm
    have hd : dstOf ops k = o.dst := by simp [dstOf, ho]
    let G1 : Nat → (Nat → Value) → Value := fun i => if i = k then fun x => D (x k) else G0 i
    let N1 : Nat → Option ((Nat → Value) → World → Value → Prop) := fun i => if i = k then some V else N0 i
    have g1 : ∀ i, i < k → G1 i = G0 i := fun i hi => if_neg (by omega)
    have n1 : ∀ i, i < k → N1 i = N0 i := fun i hi => if_neg (by omega)
    have gk : G1 k = fun x => D (x k) := if_pos rfl
    have nk : N1 k = some V := if_pos rfl
    obtain ⟨G, N, e1, e2, e3⟩ := ih a0 G1 N1 (fun j hj => by have := hr (j + 1) (by simp; omega); simpa [Nat.add_assoc, Nat.add_comm 1 j] using this)
      (by funext x; simp only [frm, gk, hd]; rw [frmEq a0 G1 G0 k g1 x])
      (fun u hu => by
        rcases List.mem_cons.1 hu with rfl | hu
        · exact ⟨nk, Nat.lt_succ_self _⟩
        · exact ⟨by rw [n1 _ (hU u hu).2]; exact (hU u hu).1, by have := (hU u hu).2; omega⟩)
      (fun i V' hi hN => by
        by_cases e : i = k
        · subst e; rw [nk] at hN; cases hN; exact List.mem_cons_self
        · rw [n1 i (by omega)] at hN; exact List.mem_cons_of_mem _ (hU2 i V' (by omega) hN))
    refine ⟨G, N, fun i hi => ⟨(e1 i (by omega)).1.trans (g1 i hi), (e1 i (by omega)).2.trans (n1 i hi)⟩, fun i o' hi hlt ho' => ?_, by simpa [Nat.add_assoc, Nat.add_comm 1] using e3⟩
    by_cases e : i = k
    · subst e
      obtain rfl : o = o' := by rw [ho] at ho'; simpa using ho'
      have fe := frmEq a0 G G0 i (fun j hj => (e1 j (by omega)).1.trans (g1 j hj))
      have ge : G i = fun x => D (x i) := (e1 i (by omega)).1.trans gk
      refine ⟨U, fun u hu => ⟨by rw [(e1 u.1 (by have := (hU u hu).2; omega)).2, n1 _ (hU u hu).2]; exact (hU u hu).1, (hU u hu).2⟩, .inr (.inr ⟨us, V, D, contains_all hus, by rw [(e1 i (by omega)).2, nk], ⟨ge, hD⟩, hV, fun x => by show Region.wanted o (yielded ops (frm ops a0 G x i).tmps) = true; rw [fe]; exact hw x, fun x w hS hK => ?_⟩)⟩
      simp only [fe]
      exact hop x w hS hK
    · exact e2 i o' (by omega) (by simp only [List.length_cons] at hlt; omega) ho'

/-! ### Frames -/
theorem put_size (a : Act) (d : Option Tmp) (v : Value) : (a.put d v).tmps.size = a.tmps.size := by
  cases d <;> simp [Act.put]
theorem put_at (a : Act) (t : Tmp) (v : Value) (h : t < a.tmps.size) : (a.put (some t) v).tmps[t]? = some v := by
  simp [Act.put, h]
theorem put_other (a : Act) (d : Option Tmp) (v : Value) (t : Tmp) (h : d ≠ some t) : (a.put d v).tmps[t]? = a.tmps[t]? := by
  cases d with
  | none => rfl
  | some d => exact Array.getElem?_setIfInBounds_ne (fun e => h (by rw [e]))
theorem put_defers' (a : Act) (d : Option Tmp) (v : Value) : (a.put d v).defers = a.defers := by cases d <;> rfl

/-- The frame a is a0 with what has come up laid in. -/
structure Laid (ops : Array Oper) (a0 : Act) (G : Nat → (Nat → Value) → Value) (x : Nat → Value) (L : Nat → Prop) (a : Act) : Prop where
  defers : a.defers = a0.defers
  size : a.tmps.size = a0.tmps.size
  on : ∀ i t, L i → dstOf ops i = some t → t < a0.tmps.size → a.tmps[t]? = some (G i x)
  off : ∀ t, (∀ i, L i → dstOf ops i ≠ some t) → a.tmps[t]? = a0.tmps[t]?

theorem Laid.put {a0 : Act} {G : Nat → (Nat → Value) → Value} {x : Nat → Value} {L : Nat → Prop} {a : Act} (h : Laid ops a0 G x L a) (k : Nat)
    (hd : ∀ i t, L i → dstOf ops i = some t → dstOf ops k = some t → i = k) : Laid ops a0 G x (fun i => L i ∨ i = k) (a.put (dstOf ops k) (G k x)) := by
  refine ⟨(put_defers' _ _ _).trans h.defers, (put_size _ _ _).trans h.size, fun i t hi ht hs => ?_, fun t ht => ?_⟩
  · by_cases e : dstOf ops k = some t
    · have : i = k := hi.elim (fun hi => hd i t hi ht e) id
      subst this
      rw [e]
      exact put_at a t _ (by rw [h.size]; exact hs)
    · rw [put_other a _ _ t e]
      rcases hi with hi | rfl
      · exact h.on i t hi ht hs
      · exact (e ht).elim
  · rw [put_other a _ _ t (ht k (.inr rfl))]
    exact h.off t fun i hi => ht i (.inl hi)

theorem laid_frm {n : Nat} (hc : regOkTo n ops = true) (a0 : Act) (G : Nat → (Nat → Value) → Value) (x : Nat → Value) (k : Nat) (hk : k ≤ n) : Laid ops a0 G x (fun i => i < k) (frm ops a0 G x k) := by
  obtain ⟨_, _, h3, _⟩ := regOk_spec hc
  induction k with
  | zero => exact ⟨rfl, rfl, fun i t hi => by omega, fun _ _ => rfl⟩
  | succ k ih =>
    have h1 := (ih (by omega)).put k (fun i t hik ht hk' => by
      unfold dstOf at ht hk'
      obtain ⟨o, ho, hot⟩ := Option.bind_eq_some_iff.1 ht
      obtain ⟨p, hp, hpt⟩ := Option.bind_eq_some_iff.1 hk'
      exact h3 i k o p t (by omega) (by omega) ho hp hpt hot)
    have e : (fun i => i < k ∨ i = k) = fun i => i < k + 1 := by funext i; exact propext (by omega)
    rw [e] at h1
    exact h1

/-- Two frames laid alike look alike to an operation whose writers have come up in both. -/
theorem Laid.same {a0 : Act} {G : Nat → (Nat → Value) → Value} {x : Nat → Value} {L M : Nat → Prop} {a b : Act} (ha : Laid ops a0 G x L a) (hb : Laid ops a0 G x M b) {o : Oper} (hs : ∀ cs c, o.op ≠ .select cs c)
    (hl : ∀ t ∈ o.looksAt ops, (∃ i, dstOf ops i = some t ∧ L i ∧ M i) ∨ ∀ i, dstOf ops i = some t → ¬ L i ∧ ¬ M i) :
    execOp a.eval o = execOp b.eval o ∧ Region.wanted o (yielded ops a.tmps) = Region.wanted o (yielded ops b.tmps) := by
  have key : ∀ t ∈ o.looksAt ops, a.tmps[t]? = b.tmps[t]? := fun t ht => by
    by_cases hs : t < a0.tmps.size
    · rcases hl t ht with ⟨i, hi, h1, h2⟩ | he
      · rw [ha.on i t h1 hi hs, hb.on i t h2 hi hs]
      · rw [ha.off t (fun i hi hd => (he i hd).1 hi), hb.off t (fun i hi hd => (he i hd).2 hi)]
    · rw [Array.getElem?_eq_none (by rw [ha.size]; exact Nat.le_of_not_lt hs), Array.getElem?_eq_none (by rw [hb.size]; exact Nat.le_of_not_lt hs)]
  refine ⟨execOp_congr o hs fun y hy => ?_, ?_⟩
  · cases y with
    | tmp t =>
      have := key t (List.mem_append_left _ (List.mem_filterMap.2 ⟨.tmp t, by simpa using hy, rfl⟩))
      simp only [Act.eval, Array.getD_eq_getD_getElem?, this]
    | _ => rfl
  · unfold Region.wanted
    cases hg : o.guard with
    | none => rfl
    | some g =>
      obtain ⟨j, want⟩ := g
      simp only [yielded]
      cases hj : ops[j]? with
      | none => rfl
      | some p =>
        cases hp : p.dst with
        | none => simp [hp]
        | some d =>
          have := key d (List.mem_append_right _ (by simp [hg, hj, hp]))
          simp only [Option.bind_some, hp, this]

theorem upon_transfer {o : Oper} {a b : Act} {w : World} (hs : a.tmps.size = b.tmps.size) (he : execOp a.eval o = execOp b.eval o) {R : Value → World → Prop}
    (h : o.wp P b w (fun a' w' => ∃ v, a' = b.put o.dst v ∧ R v w') never) : o.wp P a w (fun a' w' => ∃ v, a' = a.put o.dst v ∧ R v w') Q := by
  have key : ∀ u w', (∃ v, b.put o.dst u = b.put o.dst v ∧ R v w') → ∃ v, a.put o.dst u = a.put o.dst v ∧ R v w' := fun u w' ⟨v, h1, h2⟩ => by
    refine ⟨v, ?_, h2⟩
    cases hd : o.dst with
    | none => rfl
    | some d =>
      rw [hd] at h1
      by_cases hb : d < b.tmps.size
      · have e1 := put_at b d u hb
        rw [h1, put_at b d v hb] at e1
        simp only [Option.some.injEq] at e1
        rw [e1]
      · simp only [Act.put]
        rw [Array.setIfInBounds_eq_of_size_le (by rw [hs]; exact Nat.le_of_not_lt hb), Array.setIfInBounds_eq_of_size_le (by rw [hs]; exact Nat.le_of_not_lt hb)]
  unfold Oper.wp at *
  rw [he]
  generalize (execOp b.eval o).run P w = r at *
  cases r with
  | ok n w' =>
    cases n <;> simp only [Oper.upon] at h ⊢
    case value v => exact key _ _ h
    case skip => exact key _ _ h
    case defer d =>
      obtain ⟨v, h1, _⟩ := h
      have := congrArg Act.defers h1
      simp only [put_defers'] at this
      exact absurd (congrArg List.length this) (by simp)
    case enter f args =>
      refine Calls.mono h fun e w'' he => ?_
      cases e with
      | returned u => exact key _ _ he
      | panicked c => exact he.elim
      | outgrown => obtain ⟨_, _, hf⟩ := he; exact hf.elim
    case row row args => exact Rows.mono h fun u w'' he => key _ _ he
  | halt x w' => cases x <;> simp only [Oper.upon, never] at h

def unlistedNo (listed : Array Bool) : List Nat := (List.range listed.size).filter fun i => !listed.getD i true

theorem mem_edgesOf {k i : Nat} (h : i ∈ edgesOf ops k) : ∃ o, ops[k]? = some o ∧ ∃ e ∈ o.after, Region.binds .any e = true ∧ e.on = i := by
  unfold edgesOf at h
  cases ho : ops[k]? with
  | none => simp [ho] at h
  | some o =>
    simp only [ho, Option.map_some, Option.getD_some, List.mem_filterMap, Array.mem_toList_iff] at h
    obtain ⟨e, he, h2⟩ := h
    by_cases hb : Region.binds .any e = true
    · rw [if_pos hb] at h2
      exact ⟨o, rfl, e, he, hb, by simpa using h2⟩
    · rw [if_neg hb] at h2
      cases h2
theorem reach_listed {L : Nat → Prop} (hL : ∀ i, L i → ∀ o, ops[i]? = some o → ∀ e ∈ o.after, Region.binds .any e = true → L e.on) :
    ∀ f k, (∀ o, ops[k]? = some o → ∀ e ∈ o.after, Region.binds .any e = true → L e.on) → ∀ i ∈ reach ops f k, L i := by
  have hanc : ∀ n (acc : List Nat), (∀ i ∈ acc, L i) → ∀ i ∈ anc ops n acc, L i := by
    intro n
    induction n with
    | zero => intro acc h; exact h
    | succ n ih =>
      intro acc h
      refine ih _ ?_
      intro i hi
      by_cases hc : acc.contains n = true
      · rw [if_pos hc] at hi
        rcases List.mem_append.1 hi with hi | hi
        · exact h i hi
        · obtain ⟨o, ho, e, he, hb, rfl⟩ := mem_edgesOf hi
          exact hL n (h n (by simpa using hc)) o ho e he hb
      · rw [if_neg hc] at hi
        exact h i hi
  intro _ k hk
  refine hanc k _ ?_
  intro i hi
  obtain ⟨o, ho, e, he, hb, rfl⟩ := mem_edgesOf hi
  exact hk o ho e he hb

/-- WHATEVER ORDER: the walk in the text's order serves. -/
theorem RS.any {a0 : Act} {w0 : World} (hc : regOk ops = true) (h : RS P ops T S Q 0 ops.toList (fun _ => a0) []) (hS : S w0) :
    wpAny P .any ops Q ops.size (Array.replicate ops.size false) a0 w0 := by
  obtain ⟨c1, c2, c3, c4⟩ := regOk_spec hc
  obtain ⟨G, N, _, hspec, hfin⟩ := h.out a0 (fun _ _ => undef) (fun _ => none) (fun j _ => by simp) rfl (fun u hu => by simp at hu) (fun i V hi => by omega)
  simp only [Nat.zero_add, Array.length_toList] at hfin
  have gdep : ∀ i o, ops[i]? = some o → ∀ x y, (∀ j, (j ∈ reach ops ops.size i ∨ j = i) → x j = y j) → G i x = G i y := fun i o ho x y hxy => by
    obtain ⟨Ui, _, hs⟩ := hspec i o (Nat.zero_le _) (by simpa using (Array.getElem?_eq_some_iff.1 ho).1) ho
    rcases hs with ⟨_, hg, _⟩ | ⟨us, hus, hg, _⟩ | ⟨us, V, D, _, _, hg, _⟩
    · rw [hg]
    · exact hg x y fun j hj => hxy j (.inl (hus j hj))
    · rw [hg.1]; show D (x i) = D (y i); rw [hxy i (.inr rfl)]
  have main : ∀ (fuel : Nat) (listed : Array Bool) (a : Act) (w : World) (x : Nat → Value), listed.size = ops.size → (unlistedNo listed).length ≤ fuel →
      (∀ i, listed.getD i false = true → ∀ o, ops[i]? = some o → ∀ e ∈ o.after, Region.binds .any e = true → listed.getD e.on false = true) →
      Laid ops a0 G x (fun i => listed.getD i false = true) a → S w → (∀ i V, listed.getD i false = true → N i = some V → V x w (x i)) → wpAny P .any ops Q fuel listed a w := by
    intro fuel
    induction fuel with
    | zero =>
      intro listed a w x hsz hfu hcl hla hSw hNw
      have hall : ∀ i, i < ops.size → listed.getD i false = true := fun i hi => by
        have h0 : unlistedNo listed = [] := List.eq_nil_of_length_eq_zero (by omega)
        by_cases hn : listed.getD i false = true
        · exact hn
        · have : i ∈ unlistedNo listed := by
            unfold unlistedNo
            rw [List.mem_filter, List.mem_range]
            have hi' : i < listed.size := by omega
            simp only [Array.getD_eq_getD_getElem?, Array.getElem?_eq_getElem hi', Option.getD_some, Bool.not_eq_true] at hn ⊢
            exact ⟨hi', by rw [hn]; rfl⟩
          rw [h0] at this; simp at this
      refine ⟨?_, ?_⟩
      · cases hr : Region.ready .any ops listed with
        | nil => rfl
        | cons i rest =>
          have hi : i ∈ Region.ready .any ops listed := by rw [hr]; exact List.mem_cons_self
          obtain ⟨h1, o, ho, _⟩ := mem_ready.1 hi
          have hlt := (Array.getElem?_eq_some_iff.1 ho).1
          have h2 := hall i hlt
          have hi' : i < listed.size := by omega
          simp only [Array.getD_eq_getD_getElem?, Array.getElem?_eq_getElem hi', Option.getD_some] at h1 h2
          rw [h1] at h2; cases h2
      · have e : a = frm ops a0 G x ops.size := by
          have hb := laid_frm hc a0 G x ops.size (Nat.le_refl _)
          have ht : a.tmps = (frm ops a0 G x ops.size).tmps := by
            apply Array.ext_getElem?
            intro t
            by_cases hs : t < a0.tmps.size
            · by_cases he : ∃ i, dstOf ops i = some t
              · obtain ⟨i, hi⟩ := he
                obtain ⟨o, ho, _⟩ := Option.bind_eq_some_iff.1 hi
                have hlt := (Array.getElem?_eq_some_iff.1 ho).1
                rw [hla.on i t (hall i hlt) hi hs, hb.on i t hlt hi hs]
              · rw [hla.off t (fun i _ hi => he ⟨i, hi⟩), hb.off t (fun i _ hi => he ⟨i, hi⟩)]
            · rw [Array.getElem?_eq_none (by rw [hla.size]; exact Nat.le_of_not_lt hs), Array.getElem?_eq_none (by rw [hb.size]; exact Nat.le_of_not_lt hs)]
          have hd : a.defers = (frm ops a0 G x ops.size).defers := hla.defers.trans hb.defers.symm
          cases a; cases hf : frm ops a0 G x ops.size
          rw [hf] at ht hd
          simp only at ht hd
          rw [ht, hd]
        rw [e]
        exact hfin x w hSw fun i V hi hN => hNw i V (hall i hi) hN
    | succ fuel ih =>
      intro listed a w x hsz hfu hcl hla hSw hNw
      -- an operation that comes up
      have step : ∀ i ∈ Region.ready .any ops listed, wpOp P ops Q i (wpAny P .any ops Q fuel (listed.setIfInBounds i true)) a w := by
        intro i hi
        obtain ⟨h1, o, ho, h2⟩ := mem_ready.1 hi
        have hlt := (Array.getElem?_eq_some_iff.1 ho).1
        have hli : i < listed.size := by omega
        have hun : listed.getD i false = false := by
          simp only [Array.getD_eq_getD_getElem?, Array.getElem?_eq_getElem hli, Option.getD_some] at h1 ⊢
          exact h1
        have hd : dstOf ops i = o.dst := by simp [dstOf, ho]
        have hset : ∀ j, (listed.setIfInBounds i true).getD j false = true ↔ listed.getD j false = true ∨ j = i := fun j => by
          by_cases e : i = j
          · subst e; simp [hli]
          · rw [getD_set_ne false e]
            exact ⟨.inl, fun h => h.elim id fun h => (e h.symm).elim⟩
        have hcl' : ∀ j, (listed.setIfInBounds i true).getD j false = true → ∀ p, ops[j]? = some p → ∀ e ∈ p.after, Region.binds .any e = true → (listed.setIfInBounds i true).getD e.on false = true := fun j hj p hp e he hb => by
          rw [hset] at hj ⊢
          rcases hj with hj | rfl
          · exact .inl (hcl j hj p hp e he hb)
          · obtain rfl : o = p := by rw [ho] at hp; simpa using hp
            exact .inl (h2 e he hb)
        have hsz' : (listed.setIfInBounds i true).size = ops.size := by simpa using hsz
        have hfu' : (unlistedNo (listed.setIfInBounds i true)).length ≤ fuel := by
          have hlt2 : (unlistedNo (listed.setIfInBounds i true)).length < (unlistedNo listed).length := by
            unfold unlistedNo
            have e : ∀ j, (!(listed.setIfInBounds i true).getD j true) = ((!listed.getD j true) && decide (j ≠ i)) := fun j => by
              by_cases hj : i = j
              · subst hj; simp [hli]
              · rw [getD_set_ne true hj]; simp [Ne.symm hj]
            simp only [e, Array.size_setIfInBounds]
            have hm : i ∈ (List.range listed.size).filter fun j => !listed.getD j true := by
              rw [List.mem_filter, List.mem_range]
              exact ⟨hli, by rw [h1]; rfl⟩
            have hf : (List.range listed.size).filter (fun j => (!listed.getD j true) && decide (j ≠ i)) = ((List.range listed.size).filter fun j => !listed.getD j true).filter fun j => decide (j ≠ i) := by
              rw [List.filter_filter]
              exact List.filter_congr fun j _ => Bool.and_comm _ _
            rw [hf]
            exact List.length_filter_lt_length_iff_exists.2 ⟨i, hm, by simp⟩
          omega
        have hself : ∀ t ∈ o.looksAt ops, (∃ j, dstOf ops j = some t ∧ listed.getD j false = true ∧ j < i) ∨ ∀ j, dstOf ops j = some t → ¬ listed.getD j false = true ∧ ¬ j < i := fun t ht => by
          by_cases hex : ∃ j, j < ops.size ∧ dstOf ops j = some t
          · obtain ⟨j, hjn, hj⟩ := hex
            obtain ⟨p, hp, hpt⟩ := Option.bind_eq_some_iff.1 hj
            obtain ⟨e, he, hb, rfl⟩ := c4 i j o p t hlt hjn ho hp hpt ht
            exact .inl ⟨e.on, hj, h2 e he hb, c2 i o ho e he hb⟩
          · exact .inr fun j hj => ⟨fun hl => hex ⟨j, (by obtain ⟨p, hp, _⟩ := Option.bind_eq_some_iff.1 hj; exact (Array.getElem?_eq_some_iff.1 hp).1), hj⟩, fun hl => hex ⟨j, by omega, hj⟩⟩
        have hreach : ∀ j ∈ reach ops ops.size i, listed.getD j false = true :=
          reach_listed (L := fun j => listed.getD j false = true) hcl ops.size i (fun p hp e he hb => by
            obtain rfl : o = p := by rw [ho] at hp; simpa using hp
            exact h2 e he hb)
        have hdist : ∀ j t, listed.getD j false = true → dstOf ops j = some t → dstOf ops i = some t → j = i := fun j t _ hj hi' => by
          obtain ⟨p, hp, hpt⟩ := Option.bind_eq_some_iff.1 hj
          obtain ⟨q, hq, hqt⟩ := Option.bind_eq_some_iff.1 hi'
          exact c3 j i p q t (Array.getElem?_eq_some_iff.1 hp).1 hlt hp hq hqt hpt
        have hsel : ∀ cs c, o.op ≠ .select cs c := fun cs c => Region.noSelect_spec c1 i o cs c ho
        have hfr := laid_frm hc a0 G x i (by omega)
        obtain ⟨he, hwa⟩ := Laid.same hla hfr hsel hself
        have hlaid' : Laid ops a0 G x (fun j => (listed.setIfInBounds i true).getD j false = true) (a.put o.dst (G i x)) := by
          have := hla.put i hdist
          rw [hd] at this
          have e : (fun j => listed.getD j false = true ∨ j = i) = fun j => (listed.setIfInBounds i true).getD j false = true := funext fun j => propext (hset j).symm
          rwa [e] at this
        obtain ⟨Ui, hUi, hs⟩ := hspec i o (Nat.zero_le _) (by simpa using (Array.getElem?_eq_some_iff.1 ho).1) ho
        have know : ∀ us : List Nat, (∀ j ∈ us, j ∈ reach ops ops.size i) → ∀ u ∈ Ui, u.1 ∈ us → u.2 x w (x u.1) := fun us hus u hu hm => hNw u.1 u.2 (hreach _ (hus _ hm)) (hUi u hu).1
        unfold wpOp
        simp only [ho]
        rcases hs with ⟨hw, hg, hn⟩ | ⟨us, hus, _, hn, hw, hop⟩ | ⟨us, V, D, hus, hn, hg, hst, hw, hop⟩
        · rw [hwa, hw x]
          simp only [Bool.false_eq_true, if_false]
          have hgu : G i x = undef := by rw [hg]
          rw [hgu] at hlaid'
          refine ih _ _ w x hsz' hfu' hcl' hlaid' hSw fun j V' hj hN => ?_
          rw [hset] at hj
          rcases hj with hj | rfl
          · exact hNw j V' hj hN
          · rw [hn] at hN; cases hN
        · rw [hwa, hw x]
          simp only [if_true]
          refine .inl (Oper.wp_mono ?_ (upon_transfer (R := fun v w' => v = G i x ∧ S w' ∧ T w w') (b := frm ops a0 G x i) (by rw [hla.size, hfr.size]) he ?_))
          · rintro a' w' ⟨v, rfl, rfl, hS', hT⟩
            refine ih _ _ w' x hsz' hfu' hcl' hlaid' hS' fun j V' hj hN => ?_
            rw [hset] at hj
            rcases hj with hj | rfl
            · have hlo := hNw j V' hj hN
              -- stable
              have hlt' : j < ops.size := by
                by_cases h : j < ops.size
                · exact h
                · rw [Array.getD_eq_getD_getElem?, Array.getElem?_eq_none (by omega)] at hj; cases hj
              obtain ⟨Uj, _, hsj⟩ := hspec j ops[j] (Nat.zero_le _) (by simpa using hlt') (Array.getElem?_eq_getElem hlt')
              rcases hsj with ⟨_, _, h0⟩ | ⟨_, _, _, h0, _⟩ | ⟨_, V2, _, _, h0, _, hst, _⟩
              · rw [h0] at hN; cases hN
              · rw [h0] at hN; cases hN
              · rw [h0] at hN
                cases hN
                exact hst.1 _ _ _ _ hlo hT
            · rw [hn] at hN; cases hN
          · refine Oper.wp_mono ?_ (hop x w hSw (know us hus))
            rintro a' w' ⟨h1, h2, h3⟩
            exact ⟨_, h1, rfl, h2, h3⟩
        · rw [hwa, hw x]
          simp only [if_true]
          refine .inl (Oper.wp_mono ?_ (upon_transfer (R := fun v w' => V x w' v ∧ S w' ∧ T w w') (b := frm ops a0 G x i) (by rw [hla.size, hfr.size]) he ?_))
          · rintro a' w' ⟨v, rfl, hVv, hS', hT⟩
            let y : Nat → Value := fun j => if j = i then v else x j
            have yi : y i = v := if_pos rfl
            have yo : ∀ j, j ≠ i → y j = x j := fun j hj => if_neg hj
            have hirr : ∀ j ∈ reach ops ops.size i, j ≠ i := fun j hj e => by
              subst e
              rw [hreach j hj] at hun; cases hun
            have hGy : ∀ j, listed.getD j false = true → ∀ p, ops[j]? = some p → G j y = G j x := fun j hj p hp => by
              refine gdep j p hp y x fun m hm => yo m fun e => ?_
              subst e
              rcases hm with hm | rfl
              · have := reach_listed (L := fun j => listed.getD j false = true) hcl ops.size j (fun q hq e he hb => hcl j hj q hq e he hb) m hm
                rw [this] at hun; cases hun
              · rw [hj] at hun; cases hun
            have hla' : Laid ops a0 G y (fun j => listed.getD j false = true) a := by
              refine ⟨hla.defers, hla.size, fun j t hj ht hs => ?_, hla.off⟩
              obtain ⟨p, hp, _⟩ := Option.bind_eq_some_iff.1 ht
              rw [hGy j hj p hp]
              exact hla.on j t hj ht hs
            have hlaid2 : Laid ops a0 G y (fun j => (listed.setIfInBounds i true).getD j false = true) (a.put o.dst v) := by
              have := hla'.put i hdist
              rw [hd, show G i y = v by rw [hg.1]; show D (y i) = v; rw [yi]; exact hg.2 _ _ _ hVv] at this
              have e : (fun j => listed.getD j false = true ∨ j = i) = fun j => (listed.setIfInBounds i true).getD j false = true := funext fun j => propext (hset j).symm
              rwa [e] at this
            refine ih _ _ w' y hsz' hfu' hcl' hlaid2 hS' fun j V' hj hN => ?_
            rw [hset] at hj
            by_cases e : j = i
            · subst e
              rw [hn] at hN
              cases hN
              rw [yi]
              exact hst.2 x y w' v (fun m hm => (yo m (hirr m (hus m hm))).symm) hVv
            · have hj' := hj.resolve_right e
              rw [yo j e]
              have hlo := hNw j V' hj' hN
              have hlt' : j < ops.size := by
                by_cases h : j < ops.size
                · exact h
                · rw [Array.getD_eq_getD_getElem?, Array.getElem?_eq_none (by omega)] at hj'; cases hj'
              obtain ⟨Uj, _, hsj⟩ := hspec j ops[j] (Nat.zero_le _) (by simpa using hlt') (Array.getElem?_eq_getElem hlt')
              rcases hsj with ⟨_, _, h0⟩ | ⟨_, _, _, h0, _⟩ | ⟨us2, V2, _, hus2, h0, _, hst2, _⟩
              · rw [h0] at hN; cases hN
              · rw [h0] at hN; cases hN
              · rw [h0] at hN
                cases hN
                exact hst2.2 x y w' _ (fun m hm => (yo m fun e => by
                  subst e
                  have := reach_listed (L := fun j => listed.getD j false = true) hcl ops.size j (fun q hq e he hb => hcl j hj' q hq e he hb) m (hus2 m hm)
                  rw [this] at hun; cases hun).symm) (hst2.1 _ _ _ _ hlo hT)
          · refine Oper.wp_mono ?_ (hop x w hSw (know us hus))
            rintro a' w' ⟨v, h1, h2, h3, h4⟩
            exact ⟨v, h1, h2, h3, h4⟩
      refine ⟨fun hr => ?_, step⟩
      -- nobody is ready: all have come up
      have hall : ∀ i, i < ops.size → listed.getD i false = true := by
        intro i
        induction i using Nat.strongRecOn with
        | _ i ihi =>
          intro hi
          by_cases hn : listed.getD i false = true
          · exact hn
          · have hli : i < listed.size := by omega
            have : i ∈ Region.ready .any ops listed := mem_ready.2 ⟨by
                simp only [Array.getD_eq_getD_getElem?, Array.getElem?_eq_getElem hli, Option.getD_some, Bool.not_eq_true] at hn ⊢
                exact hn, ops[i], Array.getElem?_eq_getElem hi, fun e he hb => ihi e.on (c2 i _ (Array.getElem?_eq_getElem hi) e he hb) (by have := c2 i _ (Array.getElem?_eq_getElem hi) e he hb; omega)⟩
            rw [hr] at this; simp at this
      have h0 : (unlistedNo listed).length ≤ 0 := by
        have : unlistedNo listed = [] := by
          unfold unlistedNo
          rw [List.filter_eq_nil_iff]
          intro i hi
          have hi' : i < listed.size := by simpa using hi
          have := hall i (by omega)
          simp only [Array.getD_eq_getD_getElem?, Array.getElem?_eq_getElem hi', Option.getD_some] at this ⊢
          rw [this]; simp
        rw [this]; simp
      clear ih step
      -- as at the end
      have e : a = frm ops a0 G x ops.size := by
        have hb := laid_frm hc a0 G x ops.size (Nat.le_refl _)
        have ht : a.tmps = (frm ops a0 G x ops.size).tmps := by
          apply Array.ext_getElem?
          intro t
          by_cases hs : t < a0.tmps.size
          · by_cases he : ∃ i, dstOf ops i = some t
            · obtain ⟨i, hi⟩ := he
              obtain ⟨o, ho, _⟩ := Option.bind_eq_some_iff.1 hi
              have hlt := (Array.getElem?_eq_some_iff.1 ho).1
              rw [hla.on i t (hall i hlt) hi hs, hb.on i t hlt hi hs]
            · rw [hla.off t (fun i _ hi => he ⟨i, hi⟩), hb.off t (fun i _ hi => he ⟨i, hi⟩)]
          · rw [Array.getElem?_eq_none (by rw [hla.size]; exact Nat.le_of_not_lt hs), Array.getElem?_eq_none (by rw [hb.size]; exact Nat.le_of_not_lt hs)]
        have hd : a.defers = (frm ops a0 G x ops.size).defers := hla.defers.trans hb.defers.symm
        cases a; cases hf : frm ops a0 G x ops.size
        rw [hf] at ht hd
        simp only at ht hd
        rw [ht, hd]
      rw [e]
      exact hfin x w hSw fun i V hi hN => hNw i V (hall i hi) hN
  refine main ops.size _ a0 w0 (fun _ => undef) (by simp) ?_ (fun i hi => ?_) ⟨rfl, rfl, fun i t hi => ?_, fun _ _ => rfl⟩ hS (fun i V hi => ?_)
  · unfold unlistedNo
    exact Nat.le_trans (List.length_filter_le _ _) (by simp)
  all_goals
    exfalso
    rw [Array.getD_eq_getD_getElem?, Array.getElem?_replicate] at hi
    split at hi <;> cases hi

/-! ### A head in any order, and a tail that waits for all of it -/
def unlistedTo (n : Nat) (listed : Array Bool) : List Nat := (List.range n).filter fun i => !listed.getD i true
def headDone (n m : Nat) : Array Bool := Array.replicate n true ++ Array.replicate (m - n) false
def tailOk (ops : Array Oper) (n : Nat) : Bool :=
  decide (n < ops.size) && Region.sinkB .any ops n && Region.chainB .any ops n && Region.seqB .any ops (ops.size - n) n (headDone n ops.size)

/-- WHATEVER ORDER of the head: the walk in the text's order serves; behind it the tail goes in its own order. -/
theorem RS.tail {n : Nat} {a0 : Act} {w0 : World} (hc : regOkTo n ops = true) (ht : tailOk ops n = true) (h : RS P ops T S (fun _ a w => wpList P ops Q (ops.toList.drop n) a w) 0 (ops.toList.take n) (fun _ => a0) []) (hS : S w0) :
    wpAny P .any ops Q ops.size (Array.replicate ops.size false) a0 w0 := by
  obtain ⟨c1, c2, c3, c4⟩ := regOk_spec hc
  simp only [tailOk, Bool.and_eq_true, decide_eq_true_eq] at ht
  obtain ⟨⟨⟨hn, hs1⟩, hs2⟩, hs3⟩ := ht
  have htn : 0 + (ops.toList.take n).length = n := by simp; omega
  obtain ⟨G, N, _, hspec, hfin⟩ := h.out a0 (fun _ _ => undef) (fun _ => none) (fun j hj => by
    have hj' : j < n := by omega
    simp [hj']) rfl (fun u hu => by simp at hu) (fun i V hi => by omega)
  rw [htn] at hfin
  have gdep : ∀ i o, i < n → ops[i]? = some o → ∀ x y, (∀ j, (j ∈ reach ops ops.size i ∨ j = i) → x j = y j) → G i x = G i y := fun i o hin ho x y hxy => by
    obtain ⟨Ui, _, hs⟩ := hspec i o (Nat.zero_le _) (by rw [htn]; exact hin) ho
    rcases hs with ⟨_, hg, _⟩ | ⟨us, hus, hg, _⟩ | ⟨us, V, D, _, _, hg, _⟩
    · rw [hg]
    · exact hg x y fun j hj => hxy j (.inl (hus j hj))
    · rw [hg.1]; show D (x i) = D (y i); rw [hxy i (.inr rfl)]
  have main : ∀ (fuel : Nat) (listed : Array Bool) (a : Act) (w : World) (x : Nat → Value), listed.size = ops.size → (unlistedTo n listed).length = fuel →
      (∀ i, listed.getD i false = true → ∀ o, ops[i]? = some o → ∀ e ∈ o.after, Region.binds .any e = true → listed.getD e.on false = true) →
      (∀ t, n ≤ t → t < ops.size → listed.getD t true = false) →
      Laid ops a0 G x (fun i => listed.getD i false = true) a → S w → (∀ i V, listed.getD i false = true → N i = some V → V x w (x i)) → wpAny P .any ops Q (fuel + (ops.size - n)) listed a w := by
    intro fuel
    induction fuel with
    | zero =>
      intro listed a w x hsz hfu hcl htl hla hSw hNw
      have hall : ∀ i, i < n → listed.getD i false = true := fun i hi => by
        have h0 : unlistedTo n listed = [] := List.eq_nil_of_length_eq_zero hfu
        by_cases hn' : listed.getD i false = true
        · exact hn'
        · have : i ∈ unlistedTo n listed := by
            unfold unlistedTo
            rw [List.mem_filter, List.mem_range]
            have hi' : i < listed.size := by omega
            simp only [Array.getD_eq_getD_getElem?, Array.getElem?_eq_getElem hi', Option.getD_some, Bool.not_eq_true] at hn' ⊢
            exact ⟨hi, by rw [hn']; rfl⟩
          rw [h0] at this; simp at this
      have hon : ∀ i, listed.getD i false = true → i < n := fun i hi => by
        by_cases h : i < n
        · exact h
        · by_cases h2 : i < ops.size
          · have := getD_both (htl i (Nat.le_of_not_lt h) h2)
            rw [this] at hi; cases hi
          · rw [Array.getD_eq_getD_getElem?, Array.getElem?_eq_none (by omega)] at hi; cases hi
      have eL : listed = headDone n ops.size := by
        have hds : (headDone n ops.size).size = ops.size := by simp [headDone]; omega
        apply Array.ext (by rw [hds, hsz])
        intro i h1 h2
        have e1 : listed.getD i false = listed[i] := by simp [h1]
        by_cases hi : i < n
        · have := hall i hi
          rw [e1] at this
          rw [this]
          simp [headDone, hi]
        · have := getD_both (htl i (Nat.le_of_not_lt hi) (by omega))
          rw [e1] at this
          rw [this]
          simp [headDone, Array.getElem_append, hi]
      have e : a = frm ops a0 G x n := by
        have hb := laid_frm hc a0 G x n (by omega)
        have ht : a.tmps = (frm ops a0 G x n).tmps := by
          apply Array.ext_getElem?
          intro t
          by_cases hs : t < a0.tmps.size
          · by_cases he : ∃ i, i < n ∧ dstOf ops i = some t
            · obtain ⟨i, hin, hi⟩ := he
              rw [hla.on i t (hall i hin) hi hs, hb.on i t hin hi hs]
            · rw [hla.off t (fun i hli hi => he ⟨i, hon i hli, hi⟩), hb.off t (fun i hin hi => he ⟨i, hin, hi⟩)]
          · rw [Array.getElem?_eq_none (by rw [hla.size]; exact Nat.le_of_not_lt hs), Array.getElem?_eq_none (by rw [hb.size]; exact Nat.le_of_not_lt hs)]
        have hd : a.defers = (frm ops a0 G x n).defers := hla.defers.trans hb.defers.symm
        cases a; cases hf : frm ops a0 G x n
        rw [hf] at ht hd
        simp only at ht hd
        rw [ht, hd]
      have hlen : (ops.toList.drop n).length = ops.size - n := by simp
      have hw := hfin x w hSw fun i V hi hN => hNw i V (hall i hi) hN
      rw [← e] at hw
      have := wpAny_of_seq (md := .any) (ops.toList.drop n) n listed a w (fun j => by simp [List.getElem?_drop]) (by rw [hlen, eL]; exact hs3) hw
      rw [hlen] at this
      rw [Nat.zero_add]
      exact this
    | succ fuel ih =>
      intro listed a w x hsz hfu hcl htl hla hSw hNw
      have inv : HeadInv .any ops n listed := ⟨hsz, fun j oj hj hl e he hb => hcl j hl oj hj e he hb, htl⟩
      obtain ⟨j0, hj0⟩ : ∃ j0, j0 < n ∧ listed.getD j0 true = false := by
        cases hu : unlistedTo n listed with
        | nil => rw [hu] at hfu; cases hfu
        | cons j r =>
          have : j ∈ unlistedTo n listed := by rw [hu]; exact List.mem_cons_self
          unfold unlistedTo at this
          rw [List.mem_filter, List.mem_range] at this
          exact ⟨j, this.1, by simpa using this.2⟩
      have lt_of_listed : ∀ j, listed.getD j false = true → j < n := fun i hi => by
        by_cases h : i < n
        · exact h
        · by_cases h2 : i < ops.size
          · have := getD_both (htl i (Nat.le_of_not_lt h) h2)
            rw [this] at hi; cases hi
          · rw [Array.getD_eq_getD_getElem?, Array.getElem?_eq_none (by omega)] at hi; cases hi
      -- an operation that comes up
      have step : ∀ i ∈ Region.ready .any ops listed, wpOp P ops Q i (wpAny P .any ops Q (fuel + (ops.size - n)) (listed.setIfInBounds i true)) a w := by
        intro i hi
        have hin : i < n := by
          by_cases h : i < n
          · exact h
          · exact (tail_waits hs1 hs2 hn inv (n - j0) j0 rfl hj0.1 hj0.2 i (Nat.le_of_not_lt h) hi).elim
        obtain ⟨h1, o, ho, h2⟩ := mem_ready.1 hi
        have hlt := (Array.getElem?_eq_some_iff.1 ho).1
        have hli : i < listed.size := by omega
        have hun : listed.getD i false = false := by
          simp only [Array.getD_eq_getD_getElem?, Array.getElem?_eq_getElem hli, Option.getD_some] at h1 ⊢
          exact h1
        have hd : dstOf ops i = o.dst := by simp [dstOf, ho]
        have hset : ∀ j, (listed.setIfInBounds i true).getD j false = true ↔ listed.getD j false = true ∨ j = i := fun j => by
          by_cases e : i = j
          · subst e; simp [hli]
          · rw [getD_set_ne false e]
            exact ⟨.inl, fun h => h.elim id fun h => (e h.symm).elim⟩
        have hcl' : ∀ j, (listed.setIfInBounds i true).getD j false = true → ∀ p, ops[j]? = some p → ∀ e ∈ p.after, Region.binds .any e = true → (listed.setIfInBounds i true).getD e.on false = true := fun j hj p hp e he hb => by
          rw [hset] at hj ⊢
          rcases hj with hj | rfl
          · exact .inl (hcl j hj p hp e he hb)
          · obtain rfl : o = p := by rw [ho] at hp; simpa using hp
            exact .inl (h2 e he hb)
        have hsz' : (listed.setIfInBounds i true).size = ops.size := by simpa using hsz
        have hfu' : (unlistedTo n (listed.setIfInBounds i true)).length = fuel := by
          have e : unlistedTo n (listed.setIfInBounds i true) = (unlistedTo n listed).erase i := by
            unfold unlistedTo
            rw [List.Nodup.erase_eq_filter (List.nodup_range.filter _), List.filter_filter]
            refine List.filter_congr fun j _ => ?_
            by_cases hj : i = j
            · subst hj; simp [hli]
            · rw [getD_set_ne true hj]; simp [Ne.symm hj]
          rw [e, List.length_erase_of_mem, hfu]
          · rfl
          · unfold unlistedTo
            rw [List.mem_filter, List.mem_range]
            exact ⟨hin, by rw [h1]; rfl⟩
        have htl' : ∀ t, n ≤ t → t < ops.size → (listed.setIfInBounds i true).getD t true = false := fun t ht ht' => by rw [getD_set_ne true (by omega)]; exact htl t ht ht'
        have hself : ∀ t ∈ o.looksAt ops, (∃ j, dstOf ops j = some t ∧ listed.getD j false = true ∧ j < i) ∨ ∀ j, dstOf ops j = some t → ¬ listed.getD j false = true ∧ ¬ j < i := fun t ht => by
          by_cases hex : ∃ j, j < n ∧ dstOf ops j = some t
          · obtain ⟨j, hjn, hj⟩ := hex
            obtain ⟨p, hp, hpt⟩ := Option.bind_eq_some_iff.1 hj
            obtain ⟨e, he, hb, rfl⟩ := c4 i j o p t hin hjn ho hp hpt ht
            exact .inl ⟨e.on, hj, h2 e he hb, c2 i o ho e he hb⟩
          · exact .inr fun j hj => ⟨fun hl => hex ⟨j, lt_of_listed j hl, hj⟩, fun hl => hex ⟨j, by omega, hj⟩⟩
        have hreach : ∀ j ∈ reach ops ops.size i, listed.getD j false = true :=
          reach_listed (L := fun j => listed.getD j false = true) hcl ops.size i (fun p hp e he hb => by
            obtain rfl : o = p := by rw [ho] at hp; simpa using hp
            exact h2 e he hb)
        have hdist : ∀ j t, listed.getD j false = true → dstOf ops j = some t → dstOf ops i = some t → j = i := fun j t _ hj hi' => by
          obtain ⟨p, hp, hpt⟩ := Option.bind_eq_some_iff.1 hj
          obtain ⟨q, hq, hqt⟩ := Option.bind_eq_some_iff.1 hi'
          exact c3 j i p q t (lt_of_listed j ‹_›) hin hp hq hqt hpt
        have hsel : ∀ cs c, o.op ≠ .select cs c := fun cs c => Region.noSelect_spec c1 i o cs c ho
        have hfr := laid_frm hc a0 G x i (by omega)
        obtain ⟨he, hwa⟩ := Laid.same hla hfr hsel hself
        have hlaid' : Laid ops a0 G x (fun j => (listed.setIfInBounds i true).getD j false = true) (a.put o.dst (G i x)) := by
          have := hla.put i hdist
          rw [hd] at this
          have e : (fun j => listed.getD j false = true ∨ j = i) = fun j => (listed.setIfInBounds i true).getD j false = true := funext fun j => propext (hset j).symm
          rwa [e] at this
        obtain ⟨Ui, hUi, hs⟩ := hspec i o (Nat.zero_le _) (by rw [htn]; omega) ho
        have know : ∀ us : List Nat, (∀ j ∈ us, j ∈ reach ops ops.size i) → ∀ u ∈ Ui, u.1 ∈ us → u.2 x w (x u.1) := fun us hus u hu hm => hNw u.1 u.2 (hreach _ (hus _ hm)) (hUi u hu).1
        unfold wpOp
        simp only [ho]
        rcases hs with ⟨hw, hg, hn⟩ | ⟨us, hus, _, hn, hw, hop⟩ | ⟨us, V, D, hus, hn, hg, hst, hw, hop⟩
        · rw [hwa, hw x]
          simp only [Bool.false_eq_true, if_false]
          have hgu : G i x = undef := by rw [hg]
          rw [hgu] at hlaid'
          refine ih _ _ w x hsz' hfu' hcl' htl' hlaid' hSw fun j V' hj hN => ?_
          rw [hset] at hj
          rcases hj with hj | rfl
          · exact hNw j V' hj hN
          · rw [hn] at hN; cases hN
        · rw [hwa, hw x]
          simp only [if_true]
          refine .inl (Oper.wp_mono ?_ (upon_transfer (R := fun v w' => v = G i x ∧ S w' ∧ T w w') (b := frm ops a0 G x i) (by rw [hla.size, hfr.size]) he ?_))
          · rintro a' w' ⟨v, rfl, rfl, hS', hT⟩
            refine ih _ _ w' x hsz' hfu' hcl' htl' hlaid' hS' fun j V' hj hN => ?_
            rw [hset] at hj
            rcases hj with hj | rfl
            · have hlo := hNw j V' hj hN
              -- stable
              have hlt' : j < ops.size := by
                by_cases h : j < ops.size
                · exact h
                · rw [Array.getD_eq_getD_getElem?, Array.getElem?_eq_none (by omega)] at hj; cases hj
              obtain ⟨Uj, _, hsj⟩ := hspec j ops[j] (Nat.zero_le _) (by rw [htn]; have := lt_of_listed j hj; omega) (Array.getElem?_eq_getElem hlt')
              rcases hsj with ⟨_, _, h0⟩ | ⟨_, _, _, h0, _⟩ | ⟨_, V2, _, _, h0, _, hst, _⟩
              · rw [h0] at hN; cases hN
              · rw [h0] at hN; cases hN
              · rw [h0] at hN
                cases hN
                exact hst.1 _ _ _ _ hlo hT
            · rw [hn] at hN; cases hN
          · refine Oper.wp_mono ?_ (hop x w hSw (know us hus))
            rintro a' w' ⟨h1, h2, h3⟩
            exact ⟨_, h1, rfl, h2, h3⟩
        · rw [hwa, hw x]
          simp only [if_true]
          refine .inl (Oper.wp_mono ?_ (upon_transfer (R := fun v w' => V x w' v ∧ S w' ∧ T w w') (b := frm ops a0 G x i) (by rw [hla.size, hfr.size]) he ?_))
          · rintro a' w' ⟨v, rfl, hVv, hS', hT⟩
            let y : Nat → Value := fun j => if j = i then v else x j
            have yi : y i = v := if_pos rfl
            have yo : ∀ j, j ≠ i → y j = x j := fun j hj => if_neg hj
            have hirr : ∀ j ∈ reach ops ops.size i, j ≠ i := fun j hj e => by
              subst e
              rw [hreach j hj] at hun; cases hun
            have hGy : ∀ j, listed.getD j false = true → ∀ p, ops[j]? = some p → G j y = G j x := fun j hj p hp => by
              refine gdep j p (lt_of_listed j hj) hp y x fun m hm => yo m fun e => ?_
              subst e
              rcases hm with hm | rfl
              · have := reach_listed (L := fun j => listed.getD j false = true) hcl ops.size j (fun q hq e he hb => hcl j hj q hq e he hb) m hm
                rw [this] at hun; cases hun
              · rw [hj] at hun; cases hun
            have hla' : Laid ops a0 G y (fun j => listed.getD j false = true) a := by
              refine ⟨hla.defers, hla.size, fun j t hj ht hs => ?_, hla.off⟩
              obtain ⟨p, hp, _⟩ := Option.bind_eq_some_iff.1 ht
              rw [hGy j hj p hp]
              exact hla.on j t hj ht hs
            have hlaid2 : Laid ops a0 G y (fun j => (listed.setIfInBounds i true).getD j false = true) (a.put o.dst v) := by
              have := hla'.put i hdist
              rw [hd, show G i y = v by rw [hg.1]; show D (y i) = v; rw [yi]; exact hg.2 _ _ _ hVv] at this
              have e : (fun j => listed.getD j false = true ∨ j = i) = fun j => (listed.setIfInBounds i true).getD j false = true := funext fun j => propext (hset j).symm
              rwa [e] at this
            refine ih _ _ w' y hsz' hfu' hcl' htl' hlaid2 hS' fun j V' hj hN => ?_
            rw [hset] at hj
            by_cases e : j = i
            · subst e
              rw [hn] at hN
              cases hN
              rw [yi]
              exact hst.2 x y w' v (fun m hm => (yo m (hirr m (hus m hm))).symm) hVv
            · have hj' := hj.resolve_right e
              rw [yo j e]
              have hlo := hNw j V' hj' hN
              have hlt' : j < ops.size := by
                by_cases h : j < ops.size
                · exact h
                · rw [Array.getD_eq_getD_getElem?, Array.getElem?_eq_none (by omega)] at hj'; cases hj'
              obtain ⟨Uj, _, hsj⟩ := hspec j ops[j] (Nat.zero_le _) (by rw [htn]; have := lt_of_listed j hj'; omega) (Array.getElem?_eq_getElem hlt')
              rcases hsj with ⟨_, _, h0⟩ | ⟨_, _, _, h0, _⟩ | ⟨us2, V2, _, hus2, h0, _, hst2, _⟩
              · rw [h0] at hN; cases hN
              · rw [h0] at hN; cases hN
              · rw [h0] at hN
                cases hN
                exact hst2.2 x y w' _ (fun m hm => (yo m fun e => by
                  subst e
                  have := reach_listed (L := fun j => listed.getD j false = true) hcl ops.size j (fun q hq e he hb => hcl j hj' q hq e he hb) m (hus2 m hm)
                  rw [this] at hun; cases hun).symm) (hst2.1 _ _ _ _ hlo hT)
          · refine Oper.wp_mono ?_ (hop x w hSw (know us hus))
            rintro a' w' ⟨v, h1, h2, h3, h4⟩
            exact ⟨v, h1, h2, h3, h4⟩
      rw [show fuel + 1 + (ops.size - n) = (fuel + (ops.size - n)) + 1 by omega]
      refine ⟨fun hr => ?_, step⟩
      exfalso
      have hall : ∀ i, i < ops.size → listed.getD i false = true := by
        intro i
        induction i using Nat.strongRecOn with
        | _ i ihi =>
          intro hi
          by_cases hn : listed.getD i false = true
          · exact hn
          · have hli : i < listed.size := by omega
            have : i ∈ Region.ready .any ops listed := mem_ready.2 ⟨by
                simp only [Array.getD_eq_getD_getElem?, Array.getElem?_eq_getElem hli, Option.getD_some, Bool.not_eq_true] at hn ⊢
                exact hn, ops[i], Array.getElem?_eq_getElem hi, fun e he hb => ihi e.on (c2 i _ (Array.getElem?_eq_getElem hi) e he hb) (by have := c2 i _ (Array.getElem?_eq_getElem hi) e he hb; omega)⟩
            rw [hr] at this; simp at this
      have h1 := hall j0 (by omega)
      rw [getD_both hj0.2] at h1
      cases h1
  have hcount : (unlistedTo n (Array.replicate ops.size false)).length = n := by
    unfold unlistedTo
    rw [List.filter_eq_self.2, List.length_range]
    intro i hi
    have hi' : i < ops.size := by have := List.mem_range.1 hi; omega
    simp [hi']
  have := main n _ a0 w0 (fun _ => undef) (by simp) hcount (fun i hi => ?_) (fun t _ ht => getD_in (by simpa using ht) (getD_replicate_false _ _)) ⟨rfl, rfl, fun i t hi => ?_, fun _ _ => rfl⟩ hS (fun i V hi => ?_)
  · rwa [show n + (ops.size - n) = ops.size by omega] at this
  all_goals
    exfalso
    rw [getD_replicate_false] at hi
    cases hi

theorem wp_region_rs {id : Nat} {a : Act} {w : World} (S : World → Prop) (T : World → World → Prop) (hm : P.follows .mixedOrders = true) (hc : regOk ops = true) (hS : S w.drew) (h : RS P ops T S Q 0 ops.toList (fun _ => a) []) : (Code.region id ops true).wp P Q a w :=
  wp_region_any hm (RS.any hc h hS)
theorem wp_region_rs_tail {id : Nat} {a : Act} {w : World} (n : Nat) (S : World → Prop) (T : World → World → Prop) (hm : P.follows .mixedOrders = true) (hc : regOkTo n ops = true) (ht : tailOk ops n = true) (hS : S w.drew) (h : RS P ops T S (fun _ a w => wpList P ops Q (ops.toList.drop n) a w) 0 (ops.toList.take n) (fun _ => a) []) : (Code.region id ops true).wp P Q a w :=
  wp_region_any hm (RS.tail hc ht h hS)
end

/-! ### The same, where nothing old turns: S is 'as at the start W but for new blocks' -/
section
variable {P : Program} {ops : Array Oper} {W : World} {Q : Exit → Act → World → Prop} {k : Nat} {o : Oper} {rest : List Oper} {F : (Nat → Value) → Act} {U : List (Nat × ((Nat → Value) → World → Value → Prop))}
abbrev Kept : World → World → Prop := Mod (fun _ => False)
theorem wp_region_mod {l : List Oper} {id : Nat} {a : Act} (hm : P.follows .mixedOrders = true) (hc : regOk l.toArray = true) (h : RS P l.toArray Kept (Kept W) Q 0 l (fun _ => a) []) : (Code.region id l.toArray true).wp P Q a W :=
  wp_region_rs (Kept W) Kept hm hc (Mod.refl _ W).drew (by simpa using h)
theorem wp_region_mod_tail {l : List Oper} {id : Nat} {a : Act} (n : Nat) (hm : P.follows .mixedOrders = true) (hc : regOkTo n l.toArray = true) (ht : tailOk l.toArray n = true) (h : RS P l.toArray Kept (Kept W) (fun _ a w => wpList P l.toArray Q (l.drop n) a w) 0 (l.take n) (fun _ => a) []) : (Code.region id l.toArray true).wp P Q a W :=
  wp_region_rs_tail n (Kept W) Kept hm hc ht (Mod.refl _ W).drew (by simpa using h)
theorem RM.done (h : ∀ x w, Kept W w → (∀ u ∈ U, u.2 x w (x u.1)) → Q .normal (F x) w) : RS P ops Kept (Kept W) Q k [] F U := RS.done h
theorem RM.skip (hw : ∀ x, Region.wanted o (yielded ops (F x).tmps) = false) (h : RS P ops Kept (Kept W) Q (k + 1) rest (fun x => (F x).put o.dst undef) U) : RS P ops Kept (Kept W) Q k (o :: rest) F U := RS.skip hw h
theorem wp_of_run {a : Act} {w : World} {v : Value} {K : Act → World → Prop} (h : (execOp a.eval o).run P w = .ok (.value v) w) (hK : K (a.put o.dst v) w) : o.wp P a w K Q := by
  unfold Oper.wp
  rw [h]
  exact hK
theorem wp_of_enter {a : Act} {w : World} {f : FuncId} {args : Array Value} {K : Act → World → Prop} {R : Ending → World → Prop} (h : (execOp a.eval o).run P w = .ok (.enter f args) w) (hc : Calls P f args w R) (hK : ∀ e w', R e w' → ∃ v, e = .returned v ∧ K (a.put o.dst v) w') : o.wp P a w K Q := by
  unfold Oper.wp
  rw [h, Oper.upon_enter]
  refine hc.mono fun e w' hr => ?_
  obtain ⟨v, rfl, h2⟩ := hK e w' hr
  exact h2
/-- A copy, an address, arithmetic, a load of what stands. -/
theorem RM.const {v : Value} (hw : ∀ x, Region.wanted o (yielded ops (F x).tmps) = true) (ho : ∀ x w, Kept W w → (execOp (F x).eval o).run P w = .ok (.value v) w)
    (h : RS P ops Kept (Kept W) Q (k + 1) rest (fun x => (F x).put o.dst v) U) : RS P ops Kept (Kept W) Q k (o :: rest) F U :=
  RS.val [] (fun _ => v) rfl (fun _ _ _ => rfl) hw (fun x w hS _ => wp_of_run (ho x w hS) ⟨rfl, hS, Mod.refl _ _⟩) h
/-- A value that hangs on what earlier calls of the region handed back. -/
theorem RM.val (us : List Nat) (g : (Nat → Value) → Value) (hus : (us.all fun i => (reach ops ops.size k).contains i) = true) (hg : ∀ x y, (∀ i ∈ us, x i = y i) → g x = g y) (hw : ∀ x, Region.wanted o (yielded ops (F x).tmps) = true)
    (ho : ∀ x w, Kept W w → (∀ u ∈ U, u.1 ∈ us → u.2 x w (x u.1)) → (execOp (F x).eval o).run P w = .ok (.value (g x)) w)
    (h : RS P ops Kept (Kept W) Q (k + 1) rest (fun x => (F x).put o.dst (g x)) U) : RS P ops Kept (Kept W) Q k (o :: rest) F U :=
  RS.val us g hus hg hw (fun x w hS hK => wp_of_run (ho x w hS hK) ⟨rfl, hS, Mod.refl _ _⟩) h
/-- A call whose answer is known. -/
theorem RM.call {v : Value} {f : FuncId} {args : (Nat → Value) → Array Value} (us : List Nat) (hus : (us.all fun i => (reach ops ops.size k).contains i) = true) (hw : ∀ x, Region.wanted o (yielded ops (F x).tmps) = true)
    (hr : ∀ x w, Kept W w → (execOp (F x).eval o).run P w = .ok (.enter f (args x)) w)
    (hc : ∀ x w, Kept W w → (∀ u ∈ U, u.1 ∈ us → u.2 x w (x u.1)) → Calls P f (args x) w fun e w' => e = .returned v ∧ Kept w w')
    (h : RS P ops Kept (Kept W) Q (k + 1) rest (fun x => (F x).put o.dst v) U) : RS P ops Kept (Kept W) Q k (o :: rest) F U :=
  RS.val us (fun _ => v) hus (fun _ _ _ => rfl) hw (fun x w hS hK => wp_of_enter (hr x w hS) (hc x w hS hK) fun _ _ ⟨he, hm⟩ => ⟨v, he, rfl, hS.thenNone hm, hm⟩) h
/-- The same, of arguments that are known. -/
theorem RM.callc {v : Value} {f : FuncId} {args : Array Value} (hw : ∀ x, Region.wanted o (yielded ops (F x).tmps) = true)
    (hr : ∀ x w, Kept W w → (execOp (F x).eval o).run P w = .ok (.enter f args) w)
    (hc : ∀ w, Kept W w → Calls P f args w fun e w' => e = .returned v ∧ Kept w w')
    (h : RS P ops Kept (Kept W) Q (k + 1) rest (fun x => (F x).put o.dst v) U) : RS P ops Kept (Kept W) Q k (o :: rest) F U :=
  RM.call [] rfl hw hr (fun _ w hS _ => hc w hS) h
/-- A call that makes memory: what it hands back is told by V. -/
theorem RM.new {f : FuncId} {args : (Nat → Value) → Array Value} (us : List Nat) (V : World → Value → Prop) (hus : (us.all fun i => (reach ops ops.size k).contains i) = true) (hV : ∀ w w' v, V w v → Kept w w' → V w' v) (hw : ∀ x, Region.wanted o (yielded ops (F x).tmps) = true)
    (hr : ∀ x w, Kept W w → (execOp (F x).eval o).run P w = .ok (.enter f (args x)) w)
    (hc : ∀ x w, Kept W w → (∀ u ∈ U, u.1 ∈ us → u.2 x w (x u.1)) → Calls P f (args x) w fun e w' => ∃ v, e = .returned v ∧ V w' v ∧ Kept w w')
    (h : RS P ops Kept (Kept W) Q (k + 1) rest (fun x => (F x).put o.dst (x k)) ((k, fun _ => V) :: U)) : RS P ops Kept (Kept W) Q k (o :: rest) F U :=
  RS.new us V id (fun _ _ _ => rfl) hus hV hw (fun x w hS hK => wp_of_enter (hr x w hS) (hc x w hS hK) fun _ _ ⟨v, he, h1, hm⟩ => ⟨v, he, v, rfl, h1, hS.thenNone hm, hm⟩) h
theorem Calls.kept {f : FuncId} {args : Array Value} {w : World} {r : Ending} (h : Calls P f args w fun e w' => e = r ∧ w = w') : Calls P f args w fun e w' => e = r ∧ Kept w w' :=
  h.mono fun _ _ ⟨he, hw⟩ => ⟨he, hw ▸ Mod.refl _ _⟩
/-- What a cell holds at the start, as a rule for all worlds of the region. -/
theorem hold {a : Addr} {v : Value} (h : W.cell? a = some v) : ∀ w, Kept W w → w.cell? a = some v := fun _ hm => hm.keep a v h
/-- A new block with known cells, laid behind W: what a slice literal is. -/
def LitAt (W : World) (e : TypeId) (n : Nat) (vals : Array Value) (w : World) (v : Value) : Prop :=
  ∃ g, v = .slice (some ⟨g, 0, none⟩) n n ∧ W.heap.size ≤ g ∧ w.heap[g]? = some (.cells vals e (0, 0))
theorem RM.lit {e : TypeId} {n : Nat} {vals : Array Value} (hw : ∀ x, Region.wanted o (yielded ops (F x).tmps) = true)
    (hr : ∀ x w, Kept W w → (execOp (F x).eval o).run P w = .ok (.value (.slice (some ⟨w.heap.size, 0, none⟩) n n)) (w.alloc (.cells vals e)))
    (h : RS P ops Kept (Kept W) Q (k + 1) rest (fun x => (F x).put o.dst (x k)) ((k, fun _ => LitAt W e n vals) :: U)) : RS P ops Kept (Kept W) Q k (o :: rest) F U :=
  RS.new [] (LitAt W e n vals) id (fun _ _ _ => rfl) rfl (fun w w' v ⟨g, h1, h2, h3⟩ hm => ⟨g, h1, h2, hm.blk h3 (fun f => f)⟩) hw
    (fun x w hS _ => by
      unfold Oper.wp
      rw [hr x w hS]
      exact ⟨_, rfl, ⟨_, rfl, hS.size, heap_alloc_new w _⟩, hS.alloc _, (Mod.refl _ w).alloc _⟩) h
theorem LitAt.cells {e : TypeId} {n : Nat} {vals : Array Value} {w : World} {v : Value} (h : LitAt W e n vals w v) : ∃ g, v = .slice (some ⟨g, 0, none⟩) n n ∧ W.heap.size ≤ g ∧ g < w.heap.size ∧ ∀ j u, vals.toList[j]? = some u → w.cell? ((⟨g, 0, none⟩ : Addr).add j) = some u := by
  obtain ⟨g, h1, h2, h3⟩ := h
  refine ⟨g, h1, h2, (Array.getElem?_eq_some_iff.1 h3).1, fun j u hu => ?_⟩
  have ea : (⟨g, 0, none⟩ : Addr).add j = ⟨g, j, none⟩ := by unfold Addr.add; split <;> simp_all
  rw [ea]
  exact blk_cell (l := vals.toList) h3 hu
end

end Go.Proofs.YthffgbhphjkdeaaDoor
