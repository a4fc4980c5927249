/-
  PROVED: contracts of functions and words on memory, several texts put together: what each says stands at its theorems. Conditions: as told there.
-/
import Derived.Test.YtdohglcjjlmhhaaMWb
import Derived.Test.YtdohglcjjlmhhaaChecked
import Derived.Deep.RegionHeld3
import Derived.Deep.QuietTactic
import Derived.BigQuiet
import Derived.Outline
import Derived.StillTailTactics
import Derived.WalkLawsBesides
set_option linter.unusedVariables false
set_option linter.unusedSimpArgs false
namespace Go.Proofs.Ytdohglcjjlmhhaa
open Go.RowKit

def freeIxO : Nat → Held → List Nat
  | _, [] => []
  | o, (_, none) :: t => o :: freeIxO (o + 1) t
  | o, (_, some _) :: t => freeIxO (o + 1) t
def freeIx (h : Held) : List Nat := freeIxO 0 h
def freeItems : Held → List Item
  | [] => []
  | (x, none) :: t => x :: freeItems t
  | (_, some _) :: t => freeItems t
theorem freeIxO_append : ∀ (a b : Held) (o : Nat), freeIxO o (a ++ b) = freeIxO o a ++ freeIxO (o + a.length) b
  | [], b, o => by simp [freeIxO]
  | (x, none) :: t, b, o => by
    rw [List.cons_append, freeIxO, freeIxO, freeIxO_append t b (o + 1), List.length_cons, List.cons_append]
    congr 3
    omega
  | (x, some s) :: t, b, o => by
    rw [List.cons_append, freeIxO, freeIxO, freeIxO_append t b (o + 1), List.length_cons]
    congr 2
    omega
theorem freeItems_append : ∀ (a b : Held), freeItems (a ++ b) = freeItems a ++ freeItems b
  | [], b => rfl
  | (x, none) :: t, b => by rw [List.cons_append, freeItems, freeItems, freeItems_append t b, List.cons_append]
  | (x, some s) :: t, b => by rw [List.cons_append, freeItems, freeItems, freeItems_append t b]
theorem freeIxO_len : ∀ (h : Held) (o : Nat), (freeIxO o h).length = (freeItems h).length
  | [], _ => rfl
  | (x, none) :: t, o => by rw [freeIxO, freeItems, List.length_cons, List.length_cons, freeIxO_len t]
  | (x, some s) :: t, o => by rw [freeIxO, freeItems, freeIxO_len t]
theorem freeN_items : ∀ h : Held, freeN h = (freeItems h).length
  | [] => rfl
  | (x, none) :: t => by have := freeN_items t; unfold freeN at *; simp [freeItems, this]
  | (x, some s) :: t => by have := freeN_items t; unfold freeN at *; simp [freeItems, this]
theorem freeW_items (g : Bool) : ∀ h : Held, freeW g h = (freeItems h).map (weightOf g)
  | [] => rfl
  | (x, none) :: t => by have := freeW_items g t; unfold freeW at *; simp [freeItems, this]
  | (x, some s) :: t => by have := freeW_items g t; unfold freeW at *; simp [freeItems, this]
theorem overs_items (g : Bool) (all rest : Int) : ∀ h : Held, overs g all rest h = (freeItems h).map fun x => overOf all rest (weightOf g x) x
  | [] => rfl
  | (x, none) :: t => by have := overs_items g all rest t; unfold overs at *; simp [freeItems, this]
  | (x, some s) :: t => by have := overs_items g all rest t; unfold overs at *; simp [freeItems, this]
theorem free_next {h : Held} {i : Nat} {x : Item} (hx : h[i]? = some (x, none)) : freeIx (h.take (i + 1)) = freeIx (h.take i) ++ [i] ∧ freeItems (h.take (i + 1)) = freeItems (h.take i) ++ [x] := by
  have hl : (h.take i).length = i := by rw [List.length_take]; have := (List.getElem?_eq_some_iff.1 hx).1; omega
  unfold freeIx
  rw [List.take_add_one, hx, freeIxO_append, freeItems_append, hl, Nat.zero_add]
  exact ⟨rfl, rfl⟩
theorem held_next {h : Held} {i : Nat} {x : Item} {s : Int} (hx : h[i]? = some (x, some s)) : freeIx (h.take (i + 1)) = freeIx (h.take i) ∧ freeItems (h.take (i + 1)) = freeItems (h.take i) := by
  unfold freeIx
  rw [List.take_add_one, hx, freeIxO_append, freeItems_append]
  exact ⟨by simp [freeIxO], by simp [freeItems]⟩
theorem freeIxO_get : ∀ (h : Held) (o k i : Nat), (freeIxO o h)[k]? = some i → ∃ x, o ≤ i ∧ h[i - o]? = some (x, none) ∧ (freeItems h)[k]? = some x
  | [], o, k, i, hk => by simp [freeIxO] at hk
  | (x, none) :: t, o, 0, i, hk => by
    rw [freeIxO, List.getElem?_cons_zero] at hk
    obtain rfl := Option.some.inj hk
    exact ⟨x, Nat.le_refl _, by simp, by simp [freeItems]⟩
  | (x, none) :: t, o, k + 1, i, hk => by
    rw [freeIxO, List.getElem?_cons_succ] at hk
    obtain ⟨y, h1, h2, h3⟩ := freeIxO_get t (o + 1) k i hk
    refine ⟨y, by omega, ?_, by rw [freeItems, List.getElem?_cons_succ]; exact h3⟩
    rw [show i - o = (i - (o + 1)) + 1 by omega, List.getElem?_cons_succ]
    exact h2
  | (x, some s) :: t, o, k, i, hk => by
    rw [freeIxO] at hk
    obtain ⟨y, h1, h2, h3⟩ := freeIxO_get t (o + 1) k i hk
    refine ⟨y, by omega, ?_, by rw [freeItems]; exact h3⟩
    rw [show i - o = (i - (o + 1)) + 1 by omega, List.getElem?_cons_succ]
    exact h2
theorem freeIx_get {h : Held} {k i : Nat} (hk : (freeIx h)[k]? = some i) : ∃ x, h[i]? = some (x, none) ∧ (freeItems h)[k]? = some x := by
  obtain ⟨x, _, h1, h2⟩ := freeIxO_get h 0 k i hk
  exact ⟨x, h1, h2⟩
/-- New sizes for the items that are free, in order, as far as they go. -/
def applyV : List (Option Int) → Held → Held
  | _, [] => []
  | vs, (x, some s) :: t => (x, some s) :: applyV vs t
  | [], (x, none) :: t => (x, none) :: applyV [] t
  | v :: vs, (x, none) :: t => (x, v) :: applyV vs t
theorem applyV_nil : ∀ h : Held, applyV [] h = h
  | [] => rfl
  | (x, none) :: t => by rw [applyV, applyV_nil t]
  | (x, some s) :: t => by rw [applyV, applyV_nil t]
theorem applyV_fst : ∀ (vs : List (Option Int)) (h : Held), (applyV vs h).map (·.1) = h.map (·.1)
  | _, [] => by simp [applyV]
  | vs, (x, some s) :: t => by simp [applyV, applyV_fst vs t]
  | [], (x, none) :: t => by simp [applyV, applyV_fst [] t]
  | v :: vs, (x, none) :: t => by simp [applyV, applyV_fst vs t]
theorem applyV_next : ∀ (h : Held) (vs : List (Option Int)) (o k i : Nat) (x : Item) (v : Option Int), (freeIxO o h)[k]? = some i → vs[k]? = some v → (freeItems h)[k]? = some x →
    applyV (vs.take (k + 1)) h = (applyV (vs.take k) h).set (i - o) (x, v) ∧ (applyV (vs.take k) h)[i - o]? = some (x, none)
  | [], _, o, k, i, x, v, hk, _, _ => by simp [freeIxO] at hk
  | (y, none) :: t, [], o, k, i, x, v, _, hv, _ => by simp at hv
  | (y, none) :: t, u :: us, o, 0, i, x, v, hk, hv, hx => by
    rw [freeIxO, List.getElem?_cons_zero] at hk
    rw [List.getElem?_cons_zero] at hv
    rw [freeItems, List.getElem?_cons_zero] at hx
    obtain rfl := Option.some.inj hk
    obtain rfl := Option.some.inj hv
    obtain rfl := Option.some.inj hx
    simp [applyV, applyV_nil]
  | (y, none) :: t, u :: us, o, k + 1, i, x, v, hk, hv, hx => by
    rw [freeIxO, List.getElem?_cons_succ] at hk
    rw [List.getElem?_cons_succ] at hv
    rw [freeItems, List.getElem?_cons_succ] at hx
    obtain ⟨z, h0, _, _⟩ := freeIxO_get t (o + 1) k i hk
    obtain ⟨h1, h2⟩ := applyV_next t us (o + 1) k i x v hk hv hx
    rw [show i - o = (i - (o + 1)) + 1 by omega, List.take_succ_cons, List.take_succ_cons, applyV, applyV, h1]
    exact ⟨rfl, by rw [List.getElem?_cons_succ]; exact h2⟩
  | (y, some s) :: t, vs, o, k, i, x, v, hk, hv, hx => by
    rw [freeIxO] at hk
    rw [freeItems] at hx
    obtain ⟨z, h0, _, _⟩ := freeIxO_get t (o + 1) k i hk
    obtain ⟨h1, h2⟩ := applyV_next t vs (o + 1) k i x v hk hv hx
    rw [show i - o = (i - (o + 1)) + 1 by omega, applyV, applyV, h1]
    exact ⟨rfl, by rw [List.getElem?_cons_succ]; exact h2⟩
def clampI (n : Int) : Int := max 0 (min n 1048576)
theorem clampI_eq (n : Int) : clampedL n = clampI n := by
  unfold clampedL clampI brought
  split
  · omega
  · split <;> omega
def shareVals (grows : Bool) (all rest : Int) : Int → List Item → List (Option Int)
  | _, [] => []
  | pre, x :: t => some (clampI (x.base + (fdiv (rest * (pre + weightOf grows x)) all - fdiv (rest * pre) all))) :: shareVals grows all rest (pre + weightOf grows x) t
theorem share_apply {grows : Bool} {all rest : Int} : ∀ (h : Held) (pre : Int), shareOut grows all rest pre h = applyV (shareVals grows all rest pre (freeItems h)) h
  | [], _ => by simp [shareOut, applyV]
  | (x, some s) :: t, pre => by rw [shareOut, freeItems, applyV, share_apply t]
  | (x, none) :: t, pre => by rw [shareOut, freeItems, shareVals, applyV, share_apply t]; rfl
/-- What becomes of a free item, where some break their limits. -/
def holdVal (grows : Bool) (all rest sum : Int) (x : Item) : Option Int :=
  if 0 < overOf all rest (weightOf grows x) x ∧ 0 ≤ sum then some x.least
  else if overOf all rest (weightOf grows x) x < 0 ∧ sum ≤ 0 then some (upperOf x) else none
theorem hold_apply {grows : Bool} {all rest sum : Int} : ∀ (h : Held), h.map (holdOne grows all rest sum) = applyV ((freeItems h).map (holdVal grows all rest sum)) h
  | [] => by simp [applyV]
  | (x, some s) :: t => by rw [List.map_cons, hold_apply t, freeItems, applyV]; rfl
  | (x, none) :: t => by
    rw [List.map_cons, hold_apply t, freeItems, List.map_cons, applyV]
    congr 1
    unfold holdOne holdVal
    simp only
    split
    · rfl
    · split <;> rfl
def noneOver (grows : Bool) (all rest : Int) (h : Held) : Bool := (overs grows all rest h).all fun o => decide (o = 0)
def newVals (grows : Bool) (all rest : Int) (h : Held) : List (Option Int) :=
  if noneOver grows all rest h = true then shareVals grows all rest 0 (freeItems h) else (freeItems h).map (holdVal grows all rest (overs grows all rest h).sum)
theorem pass_apply {grows : Bool} {all rest : Int} (h : Held) : flexPass grows all rest h = applyV (newVals grows all rest h) h := by
  unfold flexPass newVals noneOver
  split
  · rw [share_apply]
  · rw [hold_apply]
theorem shareVals_len {grows : Bool} {all rest : Int} : ∀ (l : List Item) (pre : Int), (shareVals grows all rest pre l).length = l.length
  | [], _ => rfl
  | x :: t, pre => by rw [shareVals, List.length_cons, List.length_cons, shareVals_len t]
theorem newVals_len {grows : Bool} {all rest : Int} (h : Held) : (newVals grows all rest h).length = (freeItems h).length := by
  unfold newVals
  split
  · exact shareVals_len _ _
  · exact List.length_map _
theorem shareVals_get {grows : Bool} {all rest : Int} : ∀ (l : List Item) (pre : Int) (k : Nat) (x : Item), l[k]? = some x → (shareVals grows all rest pre l)[k]? = some (some (clampI (x.base + (fdiv (rest * (pre + ((l.map (weightOf grows)).take (k + 1)).sum)) all - fdiv (rest * (pre + ((l.map (weightOf grows)).take k).sum)) all))))
  | [], _, k, x, h => by simp at h
  | y :: t, pre, 0, x, h => by
    rw [List.getElem?_cons_zero] at h
    obtain rfl := Option.some.inj h
    simp [shareVals]
  | y :: t, pre, k + 1, x, h => by
    rw [List.getElem?_cons_succ] at h
    rw [shareVals, List.getElem?_cons_succ, shareVals_get t _ k x h]
    simp only [List.map_cons, List.take_succ_cons, List.sum_cons, Int.add_assoc]
theorem shareVals_at {grows : Bool} {all rest : Int} {h : Held} {k : Nat} {x : Item} (hall : all = allOf grows h) (hx : (freeItems h)[k]? = some x) : (shareVals grows all rest 0 (freeItems h))[k]? = some (some (clampedL (x.base + shareOf rest (freeW grows h) k))) := by
  rw [shareVals_get _ 0 k x hx, clampI_eq]
  unfold shareOf sumTo
  rw [← freeW_items, List.take_length, Int.zero_add, Int.zero_add]
  subst hall
  rfl
end Go.Proofs.Ytdohglcjjlmhhaa
namespace Go.Proofs.Ytdohglcjjlmhhaa
open Go.RowKit
set_option linter.unusedVariables false
set_option linter.unusedSimpArgs false

theorem Near.mono {b c : Int} {l : List Int} (h : Near b l) (hb : b ≤ c) : Near c l := fun y hy => by have := h y hy; omega
theorem line_grown (l : List Int) (y : Int) (a : Option Addr) (c : Nat) : (⟨.slice a (l.length + 1) c, 3, 1, l.length + 1, (l.map icell).flatten ++ [.int .i64 y]⟩ : Own) = lineO (l ++ [y], (a, c)) := by
  unfold lineO lineV
  simp [icell]
theorem lineO_slice {base : Nat} {w : World} {os : List Own} (h : Owns base w os) {p : PLine} (hp : lineO p ∈ os) : IntSlice (fun k => base ≤ k) w p.2.1 p.1 :=
  own_slice (h.row _ hp) (fun _ => rfl) (by decide)
theorem intRes_in {l : List Int} {q : SlP} {W : World} {R : Rg W} {L : List Blk} {O : List Own} {E : List Res} {w : World} (h : Loc W R L O E w) (hm : ownRes icell 3 1 l q ∈ E) : IntSlice (fun k => q.lo ≤ k) w q.a l := own_in h hm (fun _ => rfl) (by decide)
end Go.Proofs.Ytdohglcjjlmhhaa
namespace Go.Proofs.Ytdohglcjjlmhhaa
open Go.RowKit
set_option linter.unusedVariables false
set_option linter.unusedSimpArgs false

end Go.Proofs.Ytdohglcjjlmhhaa
namespace Go.Proofs.Ytdohglcjjlmhhaa
open Go.RowKit
set_option linter.unusedVariables false
set_option linter.unusedSimpArgs false

end Go.Proofs.Ytdohglcjjlmhhaa
namespace Go.Proofs.Ytdohglcjjlmhhaa
open Go.RowKit
set_option linter.unusedVariables false
set_option linter.unusedSimpArgs false

end Go.Proofs.Ytdohglcjjlmhhaa
namespace Go.Proofs.Ytdohglcjjlmhhaa
open Go.RowKit
set_option linter.unusedVariables false
set_option linter.unusedSimpArgs false

/-- Blocks of old memory that may turn; they are held as blocks of the call's own. -/
def Rg.rows (W : World) (gs : List Nat) (h : ∀ g ∈ gs, g < W.heap.size) : Rg W := ⟨fun k => k ∈ gs, fun k => k ∈ gs, fun _ => True, h, fun _ h => h, fun _ _ _ _ _ _ => trivial⟩
section
variable {P : Program} {n : Nat} {W : World} {R : Rg W} {L : List Blk} {O : List Own} {E : List Res} {f : List (Nat × Value)} {Q : Exit → Act → World → Prop} {ops : Array Oper} {rest : List Oper} {d : Option Tmp} {ty T T' : TypeId} {pos : String} {af : Array Edge} {gd : Option (Nat × Bool)} {dn : Nat} {x y : Operand}
theorem calls_sxB {fid : FuncId} {fn : Func} {c : Code} {args : List Value} {w : World} (Bs : List Blk) (hb : ∀ b ∈ Bs, w.heap[b.g]? = some (.cells b.cells.toArray b.T (0, 0))) (hd : Bs.Pairwise (fun a b => a.g ≠ b.g)) (hlt : ∀ g ∈ Bs.map (·.g), g < w.heap.size) {R' : Ending → World → Prop} {f : List (Nat × Value)} (hf : P.funcs[fid]? = some fn) (hbd : fn.body = some c) (hn : fn.ntmps = n)
    (hfr : ∀ a : Act, a.defers = [] → n ≤ a.tmps.size → (∀ (t : Nat) (v : Value), args[t]? = some v → a.tmps[t]? = some v) → Fr n f a)
    (h : SX P n w (Rg.rows w (Bs.map (·.g)) hlt) Bs [] [] f c (bodyPost P fn R')) : Calls P fid args.toArray w R' := by
  refine calls_of_wp hf hbd (h.run _ w (hfr _ rfl ?_ ?_) ⟨Mod.refl _ _, trivial, fun b hm => ⟨.inl (List.mem_map.2 ⟨b, hm, rfl⟩), hb b hm⟩, hd, by simp, by simp, by simp, by simp, by simp⟩)
  · simp; omega
  · intro t v ht
    have hlt := (List.getElem?_eq_some_iff.1 ht).1
    obtain ⟨_, e⟩ := List.getElem?_eq_some_iff.1 ht
    simp [Array.getElem?_append, hlt, e]
theorem Loc.newFree {w : World} (h : Loc W R L O E w) : ¬ R.q w.heap.size := fun hq => by
  have := R.low _ (R.sub _ hq)
  have := h.mod.size
  omega
/-- An empty slice literal; where old memory is held. -/
theorem SXl.lit0N {e sz by_ : Nat} {z : Value} [t : TSl P T e sz] [te : TEl P e sz by_ z] (hw : wantO ops f ⟨some dn, .buildSlice T 0 #[], ty, pos, af, gd⟩ = some true) (hd : Nat.blt dn n = true)
    (h : ∀ g, SXl P n W R ops L (⟨.slice (some ⟨g, 0, none⟩) 0 0, e, sz, 0, []⟩ :: O) E ((dn, .slice (some ⟨g, 0, none⟩) 0 0) :: f) rest Q) : SXl P n W R ops L O E f (⟨some dn, .buildSlice T 0 #[], ty, pos, af, gd⟩ :: rest) Q :=
  SXl.stepn (V := fun g => .slice (some ⟨g, 0, none⟩) 0 0) (L' := fun _ => L) (O' := fun g => ⟨.slice (some ⟨g, 0, none⟩) 0 0, e, sz, 0, []⟩ :: O) hw rfl hd (fun a w hf hl => by
    obtain ⟨i0, q1, q2, q3, q4, q5, q6⟩ := te.h
    refine ⟨w.heap.size, w.alloc (.cells #[] e), ?_, ((hl.alloc [] e).toOwn (m := 0) hl.newFree (by simp) (by unfold maxLen; omega))⟩
    simp only [execOp, Instr.buildSlice, Sem.run_bind, run_underlying t.h.1, Result.andThen_ok, sizeOf, typeInfo, run_program, q1, Sem.run_pure, q3]
    have e4 : Array.map (fun _ : Nat => (default : Value)) (Array.range 0) = #[] := by simp
    simp [newRow, q1, q2, q3, e4, Instr.fill]
    done) h
theorem own_cellsB {w : World} {base e c m : Nat} {a : Option Addr} {xs : List Value} (h : w.ownsRow base e 1 (.slice a m c) m xs) (h0 : 0 < m) :
    ∃ (g : Nat) (spare : List Value), a = some ⟨g, 0, none⟩ ∧ base ≤ g ∧ w.heap[g]? = some (.cells (xs ++ spare).toArray e (0, 0)) ∧ xs.length + spare.length = c ∧ c ≤ maxLen := by
  rcases h.2 with ⟨_, hn⟩ | ⟨g, cap, cur, hv, hb, hh, hnc, hcm, hcs, ht⟩
  · omega
  · injection hv with ha _ hc
    subst ha hc
    have e1 : xs ++ cur.toList.drop (m * 1) = cur.toList := by rw [← ht, List.take_append_drop]
    refine ⟨g, cur.toList.drop (m * 1), rfl, hb, ?_, ?_, hcm⟩
    · rw [e1]
      exact hh
    · have := congrArg List.length e1
      rw [List.length_append] at this
      rw [this, Array.length_toList, hcs, Nat.mul_one]
/-- A slice of the call's own is told as a block. -/
theorem Loc.ownB {w : World} {e m g c : Nat} {xs : List Value} (h : Loc W R L (⟨.slice (some ⟨g, 0, none⟩) m c, e, 1, m, xs⟩ :: O) E w) (h0 : 0 < m) : ∃ spare, (xs.length + spare.length = c ∧ c ≤ maxLen) ∧ Loc W R (⟨g, xs ++ spare, e⟩ :: L) O E w := by
  have ho := (h.own _ (.head _)).1
  simp only at ho
  obtain ⟨g', spare, e1, hg, hb, hcap⟩ := own_cellsB ho h0
  simp only [Option.some.injEq, Addr.mk.injEq, and_true] at e1
  subst e1
  exact ⟨spare, hcap, {
    mod := h.mod
    inv := h.inv
    blk := fun b hm => by
      rcases List.mem_cons.1 hm with rfl | hm
      · exact ⟨.inr hg, hb⟩
      · exact h.blk b hm
    apart := List.pairwise_cons.2 ⟨fun b hm e2 => (h.own _ (.head _)).2 b hm (by simp only [Value.ownBlock]; exact congrArg some e2), h.apart⟩
    own := fun o hm => ⟨(h.own o (.tail _ hm)).1, fun b hb2 e2 => by
      rcases List.mem_cons.1 hb2 with rfl | hb2
      · exact (List.pairwise_cons.1 h.ownApart).1 o hm _ rfl e2
      · exact (h.own o (.tail _ hm)).2 b hb2 e2⟩
    ownApart := (List.pairwise_cons.1 h.ownApart).2
    res := fun F hF => ⟨(h.res F hF).1, (h.res F hF).2.1, fun b hm f2 => by
      rcases List.mem_cons.1 hm with rfl | hm
      · exact (h.res F hF).2.2.2 _ (.head _) _ rfl f2
      · exact (h.res F hF).2.2.1 b hm f2, fun o hm k hk f2 => (h.res F hF).2.2.2 o (.tail _ hm) k hk f2⟩
    resNew := h.resNew
    resApart := h.resApart }⟩
theorem SX.ownB {co : Code} {e m g c : Nat} {xs : List Value} (h0 : 0 < m) (h : ∀ spare, xs.length + spare.length = c → c ≤ maxLen → SX P n W R (⟨g, xs ++ spare, e⟩ :: L) O E f co Q) : SX P n W R L (⟨.slice (some ⟨g, 0, none⟩) m c, e, 1, m, xs⟩ :: O) E f co Q := ⟨fun a w hf hl => by
  obtain ⟨s, ⟨h1, h2⟩, hl2⟩ := hl.ownB h0
  exact (h s h1 h2).run a w hf hl2⟩
/-- The block is a slice of the call's own again. -/
theorem Loc.ownBack {w : World} {e m g c : Nat} {xs spare : List Value} (h : Loc W R (⟨g, xs ++ spare, e⟩ :: L) O E w) (hR : ∀ k, ¬ R.q k) (hm : xs.length = m) (hc : xs.length + spare.length = c) (hmax : c ≤ maxLen) : Loc W R L (⟨.slice (some ⟨g, 0, none⟩) m c, e, 1, m, xs⟩ :: O) E w := by
  have h1 := h.toOwn (m := c) (sz := 1) (hR _) (by rw [List.length_append, Nat.mul_one]; exact hc) hmax
  exact {
    mod := h1.mod, inv := h1.inv, blk := h1.blk, apart := h1.apart
    own := fun o ho => by
      rcases List.mem_cons.1 ho with rfl | ho
      · obtain ⟨h2, h3⟩ := h1.own _ (.head _)
        refine ⟨⟨by rw [Nat.mul_one]; exact hm, ?_⟩, h3⟩
        rcases h2.2 with ⟨hv, _⟩ | ⟨g', cap, cur, hv, hb, hh, hnc, hcm, hcs, ht⟩
        · simp at hv
        · simp only [Value.slice.injEq] at hv
          refine .inr ⟨g', cap, cur, ?_, hb, hh, ?_, hcm, hcs, ?_⟩
          · simp only [hv.1, hv.2.2]
          · show m ≤ cap
            rw [← hm]
            omega
          · show cur.toList.take (m * 1) = xs
            simp only at ht
            have e2 := congrArg (List.take m) ht
            rw [List.take_take, Nat.min_eq_left (by omega)] at e2
            rw [Nat.mul_one, e2, List.take_append_of_le_length (by omega), List.take_of_length_le (by omega)]
      · exact h1.own o (.tail _ ho)
    ownApart := List.pairwise_cons.2 ⟨fun o ho k hk => (List.pairwise_cons.1 h1.ownApart).1 o ho k hk, (List.pairwise_cons.1 h1.ownApart).2⟩
    res := fun F hF => ⟨(h1.res F hF).1, (h1.res F hF).2.1, (h1.res F hF).2.2.1, fun o ho k hk => by
      rcases List.mem_cons.1 ho with rfl | ho
      · exact (h1.res F hF).2.2.2 _ (.head _) k hk
      · exact (h1.res F hF).2.2.2 o (.tail _ ho) k hk⟩
    resNew := h1.resNew, resApart := h1.resApart }
/-- A call that turns blocks of the call's own. -/
theorem SXl.callBs {v : Value} {L' : List Blk} {fn : FuncId} {ars : List Operand} {args : List Value} {aT : Array TypeId} [TFun P fn] (hw : wantO ops f ⟨some dn, .call ⟨.value (.func fn), ars.toArray, aT⟩, ty, pos, af, gd⟩ = some true) (hd : Nat.blt dn n = true) (ha : evL f ars = some args)
    (hg : L'.map (·.g) = L.map (·.g))
    (hc : ∀ w, Loc W R L O E w → Calls P fn args.toArray w fun e w' => e = .returned v ∧ Mod (fun k => k ∈ L.map (·.g)) w w' ∧ ∀ b ∈ L', w'.heap[b.g]? = some (.cells b.cells.toArray b.T (0, 0)))
    (h : SXl P n W R ops L' O E ((dn, v) :: f) rest Q) : SXl P n W R ops L O E f (⟨some dn, .call ⟨.value (.func fn), ars.toArray, aT⟩, ty, pos, af, gd⟩ :: rest) Q := ⟨fun a w hf hl => by
  unfold wpList
  rw [if_pos (wanted_of hf hw)]
  refine .inl ?_
  unfold Oper.wp
  rw [run_callop hf ha w _ _, Oper.upon_enter]
  refine (hc w hl).mono ?_
  rintro e w' ⟨rfl, hm, hb⟩
  have hmem : ∀ k, k ∈ L.map (·.g) → ∃ b ∈ L, b.g = k := fun k hk => List.mem_map.1 hk
  have hback : ∀ b ∈ L', ∃ b0 ∈ L, b0.g = b.g := fun b hb' => hmem b.g (hg ▸ List.mem_map.2 ⟨b, hb', rfl⟩)
  exact h.run _ _ (hf.put hd _) {
    mod := hl.mod.then hm fun k hk hs => by
      obtain ⟨b, hb', rfl⟩ := hmem k hs
      rcases (hl.blk b hb').1 with h1 | h1
      · exact R.sub _ h1
      · omega
    inv := R.keep _ _ _ hl.inv hm fun k hk hs => by
      obtain ⟨b, hb', rfl⟩ := hmem k hs
      rcases (hl.blk b hb').1 with h1 | h1
      · exact h1
      · omega
    blk := fun b hb' => by
      obtain ⟨b0, h1, h2⟩ := hback b hb'
      exact ⟨h2 ▸ (hl.blk b0 h1).1, hb b hb'⟩
    apart := by
      have h1 : (L.map (·.g)).Pairwise (· ≠ ·) := List.pairwise_map.2 hl.apart
      rw [← hg] at h1
      exact List.pairwise_map.1 h1
    own := fun o ho => ⟨ownsRow_keep (hl.own o ho).1 hm fun k hk hs => by
      obtain ⟨b, hb', rfl⟩ := hmem k hs
      exact (hl.own o ho).2 b hb' hk, fun b hb' e => by
      obtain ⟨b0, h1, h2⟩ := hback b hb'
      exact (hl.own o ho).2 b0 h1 (h2 ▸ e)⟩
    ownApart := hl.ownApart
    res := fun F hF => ⟨F.stable _ _ _ (hl.res F hF).1 hm (fun k hk hs => by
      obtain ⟨b, hb', rfl⟩ := hmem k hs
      exact (hl.res F hF).2.2.1 b hb' hk), fun k hk => Nat.lt_of_lt_of_le ((hl.res F hF).2.1 k hk) hm.size, fun b hb' f2 => by
      obtain ⟨b0, h1, h2⟩ := hback b hb'
      exact (hl.res F hF).2.2.1 b0 h1 (h2 ▸ f2), (hl.res F hF).2.2.2⟩
    resNew := hl.resNew
    resApart := hl.resApart }⟩
end
theorem blk_ints {w : World} {g : Nat} {xs : List Int} {spare : List Value} {T : TypeId} {R : Nat → Prop} (h : w.heap[g]? = some (.cells (xs.map (Value.int .i64) ++ spare).toArray T (0, 0))) (hR : R g) : IntSlice R w (some ⟨g, 0, none⟩) xs := by
  refine ⟨xs.map icell, .inr ⟨g, 0, rfl, hR, (Array.getElem?_eq_some_iff.1 h).1, fun i r hi => ?_⟩, by simp, fun i r y h1 h2 => ?_⟩
  · rw [List.getElem?_map] at hi
    obtain ⟨y, hy, rfl⟩ := Option.map_eq_some_iff.1 hi
    refine ⟨rfl, fun j v hv => ?_⟩
    obtain ⟨rfl, rfl⟩ : j = 0 ∧ v = .int .i64 y := by
      cases j with
      | zero => exact ⟨rfl, by simpa [icell] using hv.symm⟩
      | succ j => simp [icell] at hv
    have hlt := (List.getElem?_eq_some_iff.1 hy).1
    refine blk_cell h ?_
    rw [Nat.zero_add, Nat.mul_one, Nat.add_zero, List.getElem?_append_left (by simpa using hlt), List.getElem?_map, hy]
    rfl
  · rw [List.getElem?_map, h2] at h1
    simpa [Flat] using h1.symm
theorem mul_near {a b A B : Int} (h1 : 0 ≤ a ∧ a ≤ A) (h2 : 0 ≤ b ∧ b ≤ B) : 0 ≤ a * b ∧ a * b ≤ A * B :=
  ⟨Int.mul_nonneg h1.1 h2.1, Int.le_trans (Int.mul_le_mul_of_nonneg_right h1.2 h2.1) (Int.mul_le_mul_of_nonneg_left h2.2 (Int.le_trans h1.1 h1.2))⟩
theorem mul_both {a b A B : Int} (h1 : -A ≤ a ∧ a ≤ A) (h2 : 0 ≤ b ∧ b ≤ B) : -(A * B) ≤ a * b ∧ a * b ≤ A * B := by
  have hA : 0 ≤ A := by omega
  have h3 : a * b ≤ A * b := Int.mul_le_mul_of_nonneg_right h1.2 h2.1
  have h4 : -A * b ≤ a * b := Int.mul_le_mul_of_nonneg_right h1.1 h2.1
  have h5 : A * b ≤ A * B := Int.mul_le_mul_of_nonneg_left h2.2 hA
  rw [Int.neg_mul] at h4
  omega
/-- A right item. -/
structure Right (x : Item) : Prop where
  base : 0 ≤ x.base ∧ x.base ≤ 1048576
  least : 0 ≤ x.least ∧ x.least ≤ 1048576
  most : -1 ≤ x.most ∧ x.most ≤ 1048576
  grow : 0 ≤ x.grow ∧ x.grow ≤ 1000
  shrink : 0 ≤ x.shrink ∧ x.shrink ≤ 1000
  before : -1048576 ≤ x.before ∧ x.before ≤ 1048576
  behind : -1048576 ≤ x.behind ∧ x.behind ≤ 1048576
theorem right_of {x : Item} (h : itemOk x = true) : Right x := by
  unfold itemOk inB at h
  simp only [Bool.and_eq_true, decide_eq_true_eq] at h
  obtain ⟨⟨⟨⟨⟨⟨h1, h2⟩, h3⟩, h4⟩, h5⟩, h6⟩, h7⟩ := h
  exact ⟨h1, h2, h3, h4, h5, h6, h7⟩
theorem Right.fits {x : Item} (h : Right x) : x.Fits := by
  obtain ⟨h1, h2, h3, h4, h5, h6, h7⟩ := h
  exact ⟨by omega, by omega, by omega, by omega, by omega, by omega, by omega⟩
theorem Right.weight {x : Item} (h : Right x) (g : Bool) : 0 ≤ weightOf g x ∧ weightOf g x ≤ 1048576000 := by
  have := mul_near h.shrink h.base
  have := h.grow
  unfold weightOf
  split <;> omega
theorem Right.hyp {x : Item} (h : Right x) : 0 ≤ hyp x ∧ hyp x ≤ 1048576 := by
  obtain ⟨h1, h2, h3, -⟩ := h
  unfold Go.Proofs.Ytdohglcjjlmhhaa.hyp within
  split <;> omega
theorem Right.upper {x : Item} (h : Right x) : 0 ≤ upperOf x ∧ upperOf x ≤ 1048576 := by
  obtain ⟨h1, h2, h3, -⟩ := h
  unfold upperOf
  omega
set_option maxRecDepth 100000 in
set_option maxHeartbeats 4000000 in
theorem l13Most_any (x : Item) (w : World) (hx : 0 ≤ x.most) : Calls Try.prog 135 #[.agg x.cells.toArray] w fun e w' => e = .returned (.int .i64 (upperOf x)) ∧ Mod (fun _ => False) w w' := by
  refine calls_sx Try.func135 rfl rfl (fun a h1 h2 h3 => ((Fr.nil h1 h2).arg (h3 0 _ rfl))) ?_
  by_cases h : x.most < x.least
  · repeat (first | refine SX.seq ?_ | refine SXl.nil ?_ | refine SX.region ?_ | refine SQ.thenNormal ?_ | refine SX.condT rfl ?_ | (refine l_load ?_; (refine SXl.v (OpW.load 0 rfl rfl rfl) rfl ?_ ?_ ?_); rfl; rfl) | (refine l_fieldAddr ?_; (refine SXl.v (OpW.fieldAddr rfl) rfl ?_ ?_ ?_); rfl; rfl) | (refine l_move ?_; (refine SXl.v (OpW.move rfl) rfl ?_ ?_ ?_); rfl; rfl) | (refine l_assign ?_; (refine SXl.v (OpW.assign rfl) rfl ?_ ?_ ?_); rfl; rfl) | (refine l_geq ?_; (refine SXl.v (OpW.geqT rfl rfl (by omega)) rfl ?_ ?_ ?_); rfl; rfl) | (refine l_lss ?_; (refine SXl.v (OpW.lssT rfl rfl (by omega)) rfl ?_ ?_ ?_); rfl; rfl) | (refine l_pick ?_; (refine SXl.v (OpW.pick rfl rfl rfl) rfl ?_ ?_ ?_); rfl; rfl) | (refine l_box ?_; refine SXl.box ?_ ?_ rfl rfl (fun g => ?_); rfl; rfl) | refine SX.ret ?_ | refine SQ.thenRet ?_)
    refine SQ.body1 rfl rfl (fun w' hl => ⟨by unfold upperOf; congr 2; omega, hl.mod⟩)
  · repeat (first | refine SX.seq ?_ | refine SXl.nil ?_ | refine SX.region ?_ | refine SQ.thenNormal ?_ | refine SX.skip ?_ | refine SX.condF rfl ?_ | (refine l_load ?_; (refine SXl.v (OpW.load 0 rfl rfl rfl) rfl ?_ ?_ ?_); rfl; rfl) | (refine l_fieldAddr ?_; (refine SXl.v (OpW.fieldAddr rfl) rfl ?_ ?_ ?_); rfl; rfl) | (refine l_move ?_; (refine SXl.v (OpW.move rfl) rfl ?_ ?_ ?_); rfl; rfl) | (refine l_assign ?_; (refine SXl.v (OpW.assign rfl) rfl ?_ ?_ ?_); rfl; rfl) | (refine l_geq ?_; (refine SXl.v (OpW.geqT rfl rfl (by omega)) rfl ?_ ?_ ?_); rfl; rfl) | (refine l_lss ?_; (refine SXl.v (OpW.lssF rfl rfl (by omega)) rfl ?_ ?_ ?_); rfl; rfl) | (refine l_pick ?_; (refine SXl.v (OpW.pick rfl rfl rfl) rfl ?_ ?_ ?_); rfl; rfl) | (refine l_box ?_; refine SXl.box ?_ ?_ rfl rfl (fun g => ?_); rfl; rfl) | refine SX.ret ?_)
    refine SQ.body1 rfl rfl (fun w' hl => ⟨by unfold upperOf; congr 2; omega, hl.mod⟩)
set_option maxRecDepth 100000 in
set_option maxHeartbeats 4000000 in
theorem sgrows_any (l : List Item) (gap inner : Int) (a : Option Addr) (c : Nat) (R : Nat → Prop) (w : World) (hlen : l.length ≤ 1048576) (hf : ∀ x ∈ l, x.Fits) (hg : -2147483648 ≤ gap ∧ gap ≤ 2147483648) (h : ItemSlice R w a l) :
    Calls Try.prog 30 #[.slice a l.length c, .int .i64 gap, .int .i64 inner] w fun e w' => e = .returned (.bool (growsOf l gap inner)) ∧ Mod (fun _ => False) w w' := by
  refine calls_sx Try.func30 rfl rfl (fun a h1 h2 h3 => (((Fr.nil h1 h2).arg (h3 2 _ rfl)).arg (h3 1 _ rfl)).arg (h3 0 _ rfl)) ?_
  have hHl : (l.map hyp).length ≤ 1048576 := by rw [List.length_map]; exact hlen
  repeat (first | refine SX.seq ?_ | refine SXl.nil ?_ | refine SX.region ?_ | refine SQ.thenNormal ?_ | (refine l_move ?_; (refine SXl.v (OpW.move rfl) rfl ?_ ?_ ?_); rfl; rfl) | (refine l_assign ?_; (refine SXl.v (OpW.assign rfl) rfl ?_ ?_ ?_); rfl; rfl))
  refine l_call ?_
  refine SXl.calln1 (v := fun q => .slice q.a (l.map hyp).length q.c) (F1 := ownRes icell 3 1 (l.map hyp)) rfl rfl rfl (fun w' hl => (shyps_any l a c R w' hlen (h.flatKeep hl.mod)).mono fun _ _ h => new_own h) (fun q2 => ?_)
  repeat (first | refine SXl.nil ?_ | refine SQ.thenNormal ?_ | (refine l_call ?_; (refine SXl.v (OpW.call rfl (fun w hl => souterOf_any l (l.map hyp) gap a q2.a c q2.c R _ _ hlen hHl hf ((hyp_near hf).mono (by decide)) hg (h.flatKeep hl.mod) (intRes_in hl (.head _)))) rfl ?_ ?_ ?_); rfl; rfl) | (refine l_move ?_; (refine SXl.v (OpW.move rfl) rfl ?_ ?_ ?_); rfl; rfl) | (refine l_assign ?_; (refine SXl.v (OpW.assign rfl) rfl ?_ ?_ ?_); rfl; rfl) | (refine l_lss ?_; (refine SXl.v (OpW.lss rfl rfl) rfl ?_ ?_ ?_); rfl; rfl) | refine SX.ret ?_)
  refine SQ.body1 rfl rfl (fun w' hl => ⟨rfl, hl.mod⟩)
end Go.Proofs.Ytdohglcjjlmhhaa
namespace Go.Proofs.Ytdohglcjjlmhhaa
open Go.RowKit
set_option linter.unusedVariables false
set_option linter.unusedSimpArgs false

set_option maxRecDepth 100000 in
set_option maxHeartbeats 4000000 in
theorem l13Weight_any (l : List Item) (grows : Bool) (i : Nat) (x : Item) (gr lc : Nat) (la : Option Addr) (R : Nat → Prop) (w : World) (hx : l[i]? = some x) (hr : Right x) (hS : ItemSlice R w la l) (h0 : w.cell? ⟨gr, 0 + 0, none⟩ = some (.slice la l.length lc)) (h3 : w.cell? ⟨gr, 0 + 3, none⟩ = some (.bool grows)) :
    Calls Try.prog 93 #[.pointer (some ⟨gr, 0, none⟩), .int .i64 i] w fun e w' => e = .returned (.int .i64 (weightOf grows x)) ∧ Mod (fun _ => False) w w' := by
  refine calls_sx Try.func93 rfl rfl (fun a h1 h2 h3 => ((Fr.nil h1 h2).arg (h3 1 _ rfl)).arg (h3 0 _ rfl)) ?_
  have hlt := (List.getElem?_eq_some_iff.1 hx).1
  obtain ⟨b1, o1, x1, e1, hR1, hb1, hxk, hc1⟩ := hS.get hlt
  obtain rfl : x = x1 := Option.some.inj (hx.symm.trans hxk)
  subst e1
  have c0 := hc1 0 _ rfl
  have c3 := hc1 3 _ rfl
  have c4 := hc1 4 _ rfl
  have := mul_near hr.shrink hr.base
  cases grows
  · repeat (first | refine SX.seq ?_ | refine SXl.nil ?_ | refine SX.region ?_ | refine SQ.thenNormal ?_ | refine SX.skip ?_ | refine SX.condF rfl ?_ | (refine l_load ?_; (refine SXl.v (OpW.loadOld rfl (by assumption) (fun h => h)) rfl ?_ ?_ ?_); rfl; rfl) | (refine l_fieldAddr ?_; (refine SXl.v (OpW.fieldAddr rfl) rfl ?_ ?_ ?_); rfl; rfl) | (refine l_move ?_; (refine SXl.v (OpW.move rfl) rfl ?_ ?_ ?_); rfl; rfl) | (refine l_assign ?_; (refine SXl.v (OpW.assign rfl) rfl ?_ ?_ ?_); rfl; rfl) | (refine l_nilCheck ?_; (refine SXl.v (OpW.nilCheck rfl) rfl ?_ ?_ ?_); rfl; rfl) | refine SX.drawn (by kernel_rfl) (by kernel_rfl) ?_ | refine SXr.nil ?_ | (refine r_load ?_; (refine SXr.v (OpW.loadOld rfl (by assumption) (fun h => h)) rfl ?_ ?_ ?_); rfl; rfl) | (refine r_fieldAddr ?_; (refine SXr.v (OpW.fieldAddr rfl) rfl ?_ ?_ ?_); rfl; rfl) | (refine r_move ?_; (refine SXr.v (OpW.move rfl) rfl ?_ ?_ ?_); rfl; rfl) | (refine r_assign ?_; (refine SXr.v (OpW.assign rfl) rfl ?_ ?_ ?_); rfl; rfl) | (refine r_nilCheck ?_; (refine SXr.v (OpW.nilCheck rfl) rfl ?_ ?_ ?_); rfl; rfl) | (refine r_mul ?_; (refine SXr.v (OpW.muli rfl rfl (by omega) (by omega)) rfl ?_ ?_ ?_); rfl; rfl) | (refine r_indexAddr ?_; (refine SXr.v (OpW.indexAddr (by omega) rfl rfl) rfl ?_ ?_ ?_); rfl; rfl) | refine SX.ret ?_)
    refine SQ.body1 rfl rfl (fun w' hl => ⟨rfl, hl.mod⟩)
  · repeat (first | refine SX.seq ?_ | refine SXl.nil ?_ | refine SX.region ?_ | refine SQ.thenNormal ?_ | refine SX.condT rfl ?_ | (refine l_load ?_; (refine SXl.v (OpW.loadOld rfl (by assumption) (fun h => h)) rfl ?_ ?_ ?_); rfl; rfl) | (refine l_fieldAddr ?_; (refine SXl.v (OpW.fieldAddr rfl) rfl ?_ ?_ ?_); rfl; rfl) | (refine l_move ?_; (refine SXl.v (OpW.move rfl) rfl ?_ ?_ ?_); rfl; rfl) | (refine l_assign ?_; (refine SXl.v (OpW.assign rfl) rfl ?_ ?_ ?_); rfl; rfl) | (refine l_nilCheck ?_; (refine SXl.v (OpW.nilCheck rfl) rfl ?_ ?_ ?_); rfl; rfl) | (refine l_indexAddr ?_; (refine SXl.v (OpW.indexAddr (by omega) rfl rfl) rfl ?_ ?_ ?_); rfl; rfl) | refine SX.ret ?_ | refine SQ.thenRet ?_)
    refine SQ.body1 rfl rfl (fun w' hl => ⟨rfl, hl.mod⟩)
theorem rest_bd {h : Held} {gap inner : Int} (hr : ∀ p ∈ h, Right p.1) (hs : Near 2147483648 (heldSizes h)) (hlen : h.length ≤ 1048576) (hg : 0 ≤ gap ∧ gap ≤ 1048576) (hi : 0 ≤ inner ∧ inner ≤ 1048576) : -9007199255789568 ≤ inner - outerOf (h.map (·.1)) (heldSizes h) gap ∧ inner - outerOf (h.map (·.1)) (heldSizes h) gap ≤ 9007199255789568 := by
  have h1 := outer_bd (l := h.map (·.1)) (s := heldSizes h) (gap := gap) (fun x hx => by
    obtain ⟨p, hp, rfl⟩ := List.mem_map.1 hx
    exact (hr p hp).fits) hs (by rw [List.length_map]; exact hlen) (by unfold heldSizes; rw [List.length_map]; exact hlen) (by omega)
  omega
set_option maxRecDepth 100000 in
set_option maxHeartbeats 4000000 in
theorem l13Free_any (h : Held) (grows : Bool) (gap inner : Int) (gr lc m ca : Nat) (la sa : Option Addr) (R S : Nat → Prop) (w : World) (hm : m = h.length) (hr : ∀ p ∈ h, Right p.1) (hs : Near 2147483648 (heldSizes h)) (hlen : h.length ≤ 1048576) (hg : 0 ≤ gap ∧ gap ≤ 1048576) (hi : 0 ≤ inner ∧ inner ≤ 1048576) (hS : ItemSlice R w la (h.map (·.1))) (hZ : IntSlice S w sa (heldSizes h))
    (h0 : w.cell? ⟨gr, 0 + 0, none⟩ = some (.slice la m lc)) (h1 : w.cell? ⟨gr, 0 + 1, none⟩ = some (.int .i64 gap)) (h2 : w.cell? ⟨gr, 0 + 2, none⟩ = some (.int .i64 inner)) (h3 : w.cell? ⟨gr, 0 + 3, none⟩ = some (.bool grows)) (h5 : w.cell? ⟨gr, 0 + 5, none⟩ = some (.slice sa m ca)) :
    Calls Try.prog 134 #[.pointer (some ⟨gr, 0, none⟩)] w fun e w' => e = .returned (.int .i64 (restOf grows gap inner h)) ∧ Mod (fun _ => False) w w' := by
  refine calls_sx Try.func134 rfl rfl (fun a h1 h2 h3 => ((Fr.nil h1 h2).arg (h3 0 _ rfl))) ?_
  have hbd := rest_bd hr hs hlen hg hi
  have hl1 : (h.map (·.1)).length = m := by rw [List.length_map, hm]
  have hl2 : (heldSizes h).length = m := by unfold heldSizes; rw [List.length_map, hm]
  have hO := fun (w' : World) (hmo : Mod (fun _ => False) w w') => souterOf_any (h.map (·.1)) (heldSizes h) gap la sa lc ca R S w' (by omega) (by omega) (fun x hx => by
    obtain ⟨p, hp, rfl⟩ := List.mem_map.1 hx
    exact (hr p hp).fits) hs (by omega) (hS.flatKeep hmo) (SliceAt.flatKeep hZ hmo)
  rw [hl1, hl2] at hO
  unfold restOf
  generalize outerOf (h.map (·.1)) (heldSizes h) gap = V at *
  have e0 : signedL 0 = 0 := by decide
  cases grows
  · by_cases hv : 0 < inner - V
    · have e : (if (false && decide (inner - V < 0) || !false && decide (0 < inner - V)) = true then (0 : Int) else inner - V) = 0 := by rw [decide_eq_true hv]; rfl
      rw [e, e0]
      repeat (first | refine SX.seq ?_ | refine SXl.nil ?_ | refine SX.region ?_ | refine SQ.thenNormal ?_ | refine SX.condT rfl ?_ | (refine SXl.no rfl rfl rfl ?_) | (refine l_load ?_; (refine SXl.v (OpW.loadOld rfl (by assumption) (fun h => h)) rfl ?_ ?_ ?_); rfl; rfl) | (refine l_fieldAddr ?_; (refine SXl.v (OpW.fieldAddr rfl) rfl ?_ ?_ ?_); rfl; rfl) | (refine l_move ?_; (refine SXl.v (OpW.move rfl) rfl ?_ ?_ ?_); rfl; rfl) | (refine l_assign ?_; (refine SXl.v (OpW.assign rfl) rfl ?_ ?_ ?_); rfl; rfl) | (refine l_nilCheck ?_; (refine SXl.v (OpW.nilCheck rfl) rfl ?_ ?_ ?_); rfl; rfl) | (refine l_gtr ?_; (refine SXl.v (OpW.gtrT rfl rfl (by omega)) rfl ?_ ?_ ?_); rfl; rfl) | (refine l_not ?_; (refine SXl.v (OpW.not rfl) rfl ?_ ?_ ?_); rfl; rfl) | (refine l_pick ?_; (refine SXl.v (OpW.pick rfl rfl rfl) rfl ?_ ?_ ?_); rfl; rfl) | refine SX.drawn (by kernel_rfl) (by kernel_rfl) ?_ | refine SXr.nil ?_ | (refine r_call ?_; (refine SXr.v (OpW.call rfl (fun w hl => hO _ hl.mod)) rfl ?_ ?_ ?_); rfl; rfl) | (refine r_load ?_; (refine SXr.v (OpW.loadOld rfl (by assumption) (fun h => h)) rfl ?_ ?_ ?_); rfl; rfl) | (refine r_fieldAddr ?_; (refine SXr.v (OpW.fieldAddr rfl) rfl ?_ ?_ ?_); rfl; rfl) | (refine r_move ?_; (refine SXr.v (OpW.move rfl) rfl ?_ ?_ ?_); rfl; rfl) | (refine r_assign ?_; (refine SXr.v (OpW.assign rfl) rfl ?_ ?_ ?_); rfl; rfl) | (refine r_nilCheck ?_; (refine SXr.v (OpW.nilCheck rfl) rfl ?_ ?_ ?_); rfl; rfl) | (refine r_sub ?_; (refine SXr.v (OpW.subi rfl rfl (by omega) (by omega)) rfl ?_ ?_ ?_); rfl; rfl) | refine SX.ret ?_ | refine SQ.thenRet ?_)
      refine SQ.body1 rfl rfl (fun w' hl => ⟨rfl, hl.mod⟩)
    · have e : (if (false && decide (inner - V < 0) || !false && decide (0 < inner - V)) = true then (0 : Int) else inner - V) = inner - V := by rw [decide_eq_false hv]; rfl
      rw [e]
      repeat (first | refine SX.seq ?_ | refine SXl.nil ?_ | refine SX.region ?_ | refine SQ.thenNormal ?_ | refine SX.skip ?_ | refine SX.condF rfl ?_ | (refine SXl.no rfl rfl rfl ?_) | (refine l_call ?_; (refine SXl.v (OpW.calls rfl (fun w _ => l02Len_any _ _)) rfl ?_ ?_ ?_); rfl; rfl) | (refine l_load ?_; (refine SXl.v (OpW.loadOld rfl (by assumption) (fun h => h)) rfl ?_ ?_ ?_); rfl; rfl) | (refine l_fieldAddr ?_; (refine SXl.v (OpW.fieldAddr rfl) rfl ?_ ?_ ?_); rfl; rfl) | (refine l_move ?_; (refine SXl.v (OpW.move rfl) rfl ?_ ?_ ?_); rfl; rfl) | (refine l_assign ?_; (refine SXl.v (OpW.assign rfl) rfl ?_ ?_ ?_); rfl; rfl) | (refine l_nilCheck ?_; (refine SXl.v (OpW.nilCheck rfl) rfl ?_ ?_ ?_); rfl; rfl) | (refine l_gtr ?_; (refine SXl.v (OpW.gtrF rfl rfl (by omega)) rfl ?_ ?_ ?_); rfl; rfl) | (refine l_not ?_; (refine SXl.v (OpW.not rfl) rfl ?_ ?_ ?_); rfl; rfl) | (refine l_pick ?_; (refine SXl.v (OpW.pick rfl rfl rfl) rfl ?_ ?_ ?_); rfl; rfl) | refine SX.drawn (by kernel_rfl) (by kernel_rfl) ?_ | refine SXr.nil ?_ | (refine r_call ?_; (refine SXr.v (OpW.call rfl (fun w hl => hO _ hl.mod)) rfl ?_ ?_ ?_); rfl; rfl) | (refine r_load ?_; (refine SXr.v (OpW.loadOld rfl (by assumption) (fun h => h)) rfl ?_ ?_ ?_); rfl; rfl) | (refine r_fieldAddr ?_; (refine SXr.v (OpW.fieldAddr rfl) rfl ?_ ?_ ?_); rfl; rfl) | (refine r_move ?_; (refine SXr.v (OpW.move rfl) rfl ?_ ?_ ?_); rfl; rfl) | (refine r_assign ?_; (refine SXr.v (OpW.assign rfl) rfl ?_ ?_ ?_); rfl; rfl) | (refine r_nilCheck ?_; (refine SXr.v (OpW.nilCheck rfl) rfl ?_ ?_ ?_); rfl; rfl) | (refine r_sub ?_; (refine SXr.v (OpW.subi rfl rfl (by omega) (by omega)) rfl ?_ ?_ ?_); rfl; rfl) | refine SX.ret ?_)
      refine SQ.body1 rfl rfl (fun w' hl => ⟨rfl, hl.mod⟩)
  · by_cases hv : inner - V < 0
    · have e : (if (true && decide (inner - V < 0) || !true && decide (0 < inner - V)) = true then (0 : Int) else inner - V) = 0 := by rw [decide_eq_true hv]; rfl
      rw [e, e0]
      repeat (first | refine SX.seq ?_ | refine SXl.nil ?_ | refine SX.region ?_ | refine SQ.thenNormal ?_ | refine SX.condT rfl ?_ | (refine SXl.no rfl rfl rfl ?_) | (refine l_load ?_; (refine SXl.v (OpW.loadOld rfl (by assumption) (fun h => h)) rfl ?_ ?_ ?_); rfl; rfl) | (refine l_fieldAddr ?_; (refine SXl.v (OpW.fieldAddr rfl) rfl ?_ ?_ ?_); rfl; rfl) | (refine l_move ?_; (refine SXl.v (OpW.move rfl) rfl ?_ ?_ ?_); rfl; rfl) | (refine l_assign ?_; (refine SXl.v (OpW.assign rfl) rfl ?_ ?_ ?_); rfl; rfl) | (refine l_nilCheck ?_; (refine SXl.v (OpW.nilCheck rfl) rfl ?_ ?_ ?_); rfl; rfl) | (refine l_lss ?_; (refine SXl.v (OpW.lssT rfl rfl (by omega)) rfl ?_ ?_ ?_); rfl; rfl) | (refine l_pick ?_; (refine SXl.v (OpW.pick rfl rfl rfl) rfl ?_ ?_ ?_); rfl; rfl) | refine SX.drawn (by kernel_rfl) (by kernel_rfl) ?_ | refine SXr.nil ?_ | (refine r_call ?_; (refine SXr.v (OpW.call rfl (fun w hl => hO _ hl.mod)) rfl ?_ ?_ ?_); rfl; rfl) | (refine r_load ?_; (refine SXr.v (OpW.loadOld rfl (by assumption) (fun h => h)) rfl ?_ ?_ ?_); rfl; rfl) | (refine r_fieldAddr ?_; (refine SXr.v (OpW.fieldAddr rfl) rfl ?_ ?_ ?_); rfl; rfl) | (refine r_move ?_; (refine SXr.v (OpW.move rfl) rfl ?_ ?_ ?_); rfl; rfl) | (refine r_assign ?_; (refine SXr.v (OpW.assign rfl) rfl ?_ ?_ ?_); rfl; rfl) | (refine r_nilCheck ?_; (refine SXr.v (OpW.nilCheck rfl) rfl ?_ ?_ ?_); rfl; rfl) | (refine r_sub ?_; (refine SXr.v (OpW.subi rfl rfl (by omega) (by omega)) rfl ?_ ?_ ?_); rfl; rfl) | refine SX.ret ?_ | refine SQ.thenRet ?_)
      refine SQ.body1 rfl rfl (fun w' hl => ⟨rfl, hl.mod⟩)
    · have e : (if (true && decide (inner - V < 0) || !true && decide (0 < inner - V)) = true then (0 : Int) else inner - V) = inner - V := by rw [decide_eq_false hv]; rfl
      rw [e]
      repeat (first | refine SX.seq ?_ | refine SXl.nil ?_ | refine SX.region ?_ | refine SQ.thenNormal ?_ | refine SX.skip ?_ | refine SX.condF rfl ?_ | (refine SXl.no rfl rfl rfl ?_) | (refine l_call ?_; (refine SXl.v (OpW.calls rfl (fun w _ => l02Len_any _ _)) rfl ?_ ?_ ?_); rfl; rfl) | (refine l_load ?_; (refine SXl.v (OpW.loadOld rfl (by assumption) (fun h => h)) rfl ?_ ?_ ?_); rfl; rfl) | (refine l_fieldAddr ?_; (refine SXl.v (OpW.fieldAddr rfl) rfl ?_ ?_ ?_); rfl; rfl) | (refine l_move ?_; (refine SXl.v (OpW.move rfl) rfl ?_ ?_ ?_); rfl; rfl) | (refine l_assign ?_; (refine SXl.v (OpW.assign rfl) rfl ?_ ?_ ?_); rfl; rfl) | (refine l_nilCheck ?_; (refine SXl.v (OpW.nilCheck rfl) rfl ?_ ?_ ?_); rfl; rfl) | (refine l_lss ?_; (refine SXl.v (OpW.lssF rfl rfl (by omega)) rfl ?_ ?_ ?_); rfl; rfl) | (refine l_not ?_; (refine SXl.v (OpW.not rfl) rfl ?_ ?_ ?_); rfl; rfl) | (refine l_pick ?_; (refine SXl.v (OpW.pick rfl rfl rfl) rfl ?_ ?_ ?_); rfl; rfl) | refine SX.drawn (by kernel_rfl) (by kernel_rfl) ?_ | refine SXr.nil ?_ | (refine r_call ?_; (refine SXr.v (OpW.call rfl (fun w hl => hO _ hl.mod)) rfl ?_ ?_ ?_); rfl; rfl) | (refine r_load ?_; (refine SXr.v (OpW.loadOld rfl (by assumption) (fun h => h)) rfl ?_ ?_ ?_); rfl; rfl) | (refine r_fieldAddr ?_; (refine SXr.v (OpW.fieldAddr rfl) rfl ?_ ?_ ?_); rfl; rfl) | (refine r_move ?_; (refine SXr.v (OpW.move rfl) rfl ?_ ?_ ?_); rfl; rfl) | (refine r_assign ?_; (refine SXr.v (OpW.assign rfl) rfl ?_ ?_ ?_); rfl; rfl) | (refine r_nilCheck ?_; (refine SXr.v (OpW.nilCheck rfl) rfl ?_ ?_ ?_); rfl; rfl) | (refine r_sub ?_; (refine SXr.v (OpW.subi rfl rfl (by omega) (by omega)) rfl ?_ ?_ ?_); rfl; rfl) | refine SX.ret ?_)
      refine SQ.body1 rfl rfl (fun w' hl => ⟨rfl, hl.mod⟩)
end Go.Proofs.Ytdohglcjjlmhhaa
namespace Go.Proofs.Ytdohglcjjlmhhaa
open Go.RowKit

def heldL (h : Held) : List Bool := h.map fun p => p.2.isSome
theorem heldL_len (h : Held) : (heldL h).length = h.length := List.length_map _
theorem sizes_len (h : Held) : (heldSizes h).length = h.length := List.length_map _
/-- A line whose items are right, whose sizes are lengths. -/
structure Line (h : Held) : Prop where
  right : ∀ p ∈ h, Right p.1
  size : ∀ p ∈ h, ∀ s, p.2 = some s → 0 ≤ s ∧ s ≤ 1048576
  few : h.length ≤ 12
theorem Line.near {h : Held} (hl : Line h) : Near 2147483648 (heldSizes h) := fun y hy => by
  obtain ⟨p, hp, rfl⟩ := List.mem_map.1 hy
  have h1 := (hl.right p hp).base
  cases e : p.2 with
  | none => simp only [Option.getD_none]; omega
  | some s => have := hl.size p hp s e; simp only [Option.getD_some]; omega
theorem free_mem : ∀ {h : Held} {x : Item}, x ∈ freeItems h → (x, none) ∈ h
  | (y, none) :: t, x, hx => by
    rw [freeItems] at hx
    rcases List.mem_cons.1 hx with rfl | hx
    · exact List.mem_cons_self
    · exact List.mem_cons_of_mem _ (free_mem hx)
  | (y, some s) :: t, x, hx => by
    rw [freeItems] at hx
    exact List.mem_cons_of_mem _ (free_mem hx)
  | [], x, hx => by simp [freeItems] at hx
theorem Line.free {h : Held} (hl : Line h) {x : Item} (hx : x ∈ freeItems h) : Right x := hl.right _ (free_mem hx)
theorem items_len (h : Held) : (freeItems h).length ≤ h.length := by
  rw [← freeN_items]
  exact List.length_filter_le _ _
theorem Line.take {h : Held} (hl : Line h) (k : Nat) : Line (h.take k) := ⟨fun p hp => hl.right p (List.mem_of_mem_take hp), fun p hp => hl.size p (List.mem_of_mem_take hp), by rw [List.length_take]; have := hl.few; omega⟩
theorem Line.weights {h : Held} (hl : Line h) (g : Bool) : wOk ((freeItems h).map (weightOf g)) = true ∧ 0 ≤ ((freeItems h).map (weightOf g)).sum ∧ ((freeItems h).map (weightOf g)).sum ≤ 12884901888 := by
  have hw : ∀ y ∈ (freeItems h).map (weightOf g), 0 ≤ y ∧ y ≤ 1073741824 := fun y hy => by
    obtain ⟨x, hx, rfl⟩ := List.mem_map.1 hy
    have := (hl.free hx).weight g
    omega
  have h1 := sum_bd hw
  have h2 := items_len h
  have h3 := hl.few
  rw [List.length_map] at h1
  refine ⟨?_, h1.1, by omega⟩
  unfold wOk
  rw [Bool.and_eq_true, List.all_eq_true, decide_eq_true_iff, List.length_map]
  exact ⟨fun y hy => inB_true (hw y hy).1 (hw y hy).2, by omega⟩
theorem share_size {grows : Bool} {all rest : Int} : ∀ (h : Held) (pre : Int), Line h → ∀ p ∈ shareOut grows all rest pre h, ∀ s, p.2 = some s → 0 ≤ s ∧ s ≤ 1048576
  | [], _, _, p, hp, _, _ => by simp [shareOut] at hp
  | (x, some u) :: t, pre, hl, p, hp, s, hs => by
    rw [shareOut] at hp
    have ht : Line t := ⟨fun q hq => hl.right q (List.mem_cons_of_mem _ hq), fun q hq => hl.size q (List.mem_cons_of_mem _ hq), by have := hl.few; rw [List.length_cons] at this; omega⟩
    rcases List.mem_cons.1 hp with rfl | hp
    · exact hl.size _ List.mem_cons_self s hs
    · exact share_size t pre ht p hp s hs
  | (x, none) :: t, pre, hl, p, hp, s, hs => by
    rw [shareOut] at hp
    have ht : Line t := ⟨fun q hq => hl.right q (List.mem_cons_of_mem _ hq), fun q hq => hl.size q (List.mem_cons_of_mem _ hq), by have := hl.few; rw [List.length_cons] at this; omega⟩
    rcases List.mem_cons.1 hp with rfl | hp
    · rw [← Option.some.inj hs]; omega
    · exact share_size t _ ht p hp s hs
/-- The numbers of one item in a pass. -/
structure Nums (all rest : Int) (g : Bool) (x : Item) : Prop where
  base : 0 ≤ x.base * all ∧ x.base * all ≤ 13510798882111488
  least : 0 ≤ x.least * all ∧ x.least * all ≤ 13510798882111488
  upper : 0 ≤ upperOf x * all ∧ upperOf x * all ≤ 13510798882111488
  part : -1099511627776000 ≤ rest * weightOf g x ∧ rest * weightOf g x ≤ 1099511627776000
theorem nums_of {all rest : Int} {g : Bool} {x : Item} (hx : Right x) (ha : 0 ≤ all ∧ all ≤ 12884901888) (hr : -1048576 ≤ rest ∧ rest ≤ 1048576) : Nums all rest g x := by
  have h1 := mul_near hx.base ha
  have h2 := mul_near hx.least ha
  have h3 := mul_near hx.upper ha
  have h4 := mul_both hr (hx.weight g)
  exact ⟨by omega, by omega, by omega, by omega⟩
theorem Nums.over {all rest : Int} {g : Bool} {x : Item} (h : Nums all rest g x) : -27021597764222976 ≤ overOf all rest (weightOf g x) x ∧ overOf all rest (weightOf g x) x ≤ 27021597764222976 := by
  obtain ⟨h1, h2, h3, h4⟩ := h
  unfold overOf
  split
  · omega
  · split <;> omega
theorem restOf_bd (g : Bool) (gap inner : Int) (h : Held) : -1048576 ≤ restOf g gap inner h ∧ restOf g gap inner h ≤ 1048576 := signedL_bd _
theorem signed_idem {n : Int} (h : -1048576 ≤ n ∧ n ≤ 1048576) : signedL n = n := by
  unfold signedL brought
  rw [if_neg (by omega), if_neg (by omega)]
theorem rest_signed (g : Bool) (gap inner : Int) (h : Held) : signedL (restOf g gap inner h) = restOf g gap inner h := signed_idem (restOf_bd g gap inner h)
def oversT (all rest : Int) (g : Bool) (l : List Item) : List Int := l.map fun x => overOf all rest (weightOf g x) x
theorem overs_sum {all rest : Int} {g : Bool} {l : List Item} (h : ∀ x ∈ l, Nums all rest g x) (hl : l.length ≤ 12) (k : Nat) : -324259173170675712 ≤ ((oversT all rest g l).take k).sum ∧ ((oversT all rest g l).take k).sum ≤ 324259173170675712 := by
  have h1 := sumN_bd 27021597764222976 ((oversT all rest g l).take k) fun y hy => by
    obtain ⟨x, hx, rfl⟩ := List.mem_map.1 (List.mem_of_mem_take hy)
    exact (h x hx).over
  have h2 : ((oversT all rest g l).take k).length ≤ 12 := by
    rw [List.length_take]; unfold oversT; rw [List.length_map]; omega
  omega
theorem set_self {α : Type} {l : List α} {i : Nat} {v : α} (h : l[i]? = some v) : l.set i v = l := by
  obtain ⟨hi, rfl⟩ := List.getElem?_eq_some_iff.1 h
  exact List.set_getElem_self hi
/-- Cells that are filled one by one. -/
def part (xs : List Int) (k : Nat) : List Value := (xs.take k).map (Value.int .i64) ++ List.replicate (xs.length - k) (.int .i64 0)
theorem part_len (xs : List Int) (k : Nat) (h : k ≤ xs.length) : (part xs k).length = xs.length := by
  unfold part; simp; omega
theorem part_at {xs : List Int} {k : Nat} (h : k < xs.length) : (part xs k)[0 + k]? = some (.int .i64 0) := by
  have e : ((xs.take k).map (Value.int .i64)).length = k := by simp; omega
  unfold part
  rw [Nat.zero_add, List.getElem?_append_right (by omega), e, Nat.sub_self, List.getElem?_replicate, if_pos (by omega)]
theorem part_set {xs : List Int} {k : Nat} {y : Int} (h : xs[k]? = some y) : (part xs k).set (0 + k) (.int .i64 y) = part xs (k + 1) := by
  have hlt := (List.getElem?_eq_some_iff.1 h).1
  have e : ((xs.take k).map (Value.int .i64)).length = k := by simp; omega
  unfold part
  rw [Nat.zero_add, List.set_append_right _ _ (by omega), e, Nat.sub_self, show xs.length - k = (xs.length - (k + 1)) + 1 by omega, List.replicate_succ, List.set_cons_zero, List.take_add_one, h, List.map_append]
  simp
theorem part_zero {xs : List Int} {k : Nat} (h : xs[k]? = some 0) : part xs k = part xs (k + 1) := by
  rw [← part_set h]
  have := part_at (List.getElem?_eq_some_iff.1 h).1
  exact (set_self this).symm
theorem part_new {xs : List Int} {k : Nat} {y : Int} (h : xs[k]? = some y) : (part xs (k + 1))[0 + k]? = some (.int .i64 y) := by
  have hlt := (List.getElem?_eq_some_iff.1 h).1
  unfold part
  rw [Nat.zero_add, List.getElem?_append_left (by simp; omega), List.getElem?_map, List.getElem?_take_of_lt (by omega), h]
  rfl
theorem part_all (xs : List Int) : part xs xs.length = xs.map (Value.int .i64) := by simp [part]
theorem held_at {h : Held} {i : Nat} {x : Item} {o : Option Int} (hx : h[i]? = some (x, o)) (sh : List Value) : ((heldL h).map Value.bool ++ sh)[0 + i]? = some (.bool o.isSome) := by
  have hlt := (List.getElem?_eq_some_iff.1 hx).1
  unfold heldL
  rw [Nat.zero_add, List.getElem?_append_left (by simpa using hlt), List.getElem?_map, List.getElem?_map, hx]
  rfl
theorem held_set {h : Held} {i : Nat} (hi : i < h.length) (x : Item) (s : Int) (sh : List Value) : ((heldL h).map Value.bool ++ sh).set (0 + i) (.bool true) = (heldL (h.set i (x, some s))).map Value.bool ++ sh := by
  unfold heldL
  rw [Nat.zero_add, List.set_append_left _ _ (by simpa using hi), List.map_set, List.map_set]
  rfl
theorem size_set {h : Held} {i : Nat} (hi : i < h.length) (x : Item) (s : Int) (ss : List Value) : ((heldSizes h).map (Value.int .i64) ++ ss).set (0 + i) (.int .i64 s) = (heldSizes (h.set i (x, some s))).map (Value.int .i64) ++ ss := by
  unfold heldSizes
  rw [Nat.zero_add, List.set_append_left _ _ (by simpa using hi), List.map_set, List.map_set]
  rfl
theorem set_same {h : Held} {i : Nat} {p : Item × Option Int} (hx : h[i]? = some p) : h.set i p = h := set_self hx
theorem ints_flat (zs : List Int) : (zs.map icell).flatten = zs.map (Value.int .i64) := by
  induction zs with
  | nil => rfl
  | cons z zs ih => rw [List.map_cons, List.flatten_cons, ih]; rfl
/-- The places, as numbers. -/
def placesI (h : Held) : List Int := (freeIx h).map fun k : Nat => (k : Int)
theorem places_get {h : Held} {k i : Nat} (hk : (freeIx h)[k]? = some i) : (placesI h)[k]? = some (i : Int) := by
  unfold placesI; rw [List.getElem?_map, hk]; rfl
theorem places_len (h : Held) : (placesI h).length = (freeItems h).length := by
  unfold placesI freeIx; rw [List.length_map, freeIxO_len]
end Go.Proofs.Ytdohglcjjlmhhaa
namespace Go.Proofs.Ytdohglcjjlmhhaa
open Go.RowKit

end Go.Proofs.Ytdohglcjjlmhhaa
namespace Go.Proofs.Ytdohglcjjlmhhaa
open Go.RowKit
set_option linter.unusedVariables false
set_option linter.unusedSimpArgs false

section
variable {P : Program} {n : Nat} {W : World} {R : Rg W} {L : List Blk} {O : List Own} {E : List Res} {f : List (Nat × Value)} {Q : Exit → Go.Act → World → Prop} {ops : Array Oper} {rest : List Oper}
variable {d : Option Nat} {dn : Nat} {x y : Operand} {ty T T' : TypeId} {pos : String} {af : Array Edge} {gd : Option (Nat × Bool)}
theorem madeCells_oneI (z : Value) (m : Nat) : madeCells #[z] m = (List.replicate m z).toArray := by
  apply Array.ext_getElem?
  intro i
  by_cases h : i < m <;> simp [madeCells, Nat.mod_one, Array.getElem?_map, Array.getElem?_range, List.getElem?_replicate, Array.getElem?_replicate, h]
/-- A slice of n zero elements of one cell. -/
theorem SXl.makeI {e by_ m : Nat} {z : Value} [t : TSl P T e 1] [te : TEl P e 1 by_ z] (hw : wantO ops f ⟨some dn, .makeSlice T x y, ty, pos, af, gd⟩ = some true) (hd : Nat.blt dn n = true) (hx : evO f x = some (.int .i64 (m : Int))) (hy : evO f y = some (.int .i64 (m : Int))) (hz : z.cells = #[z]) (hm : m ≤ 16777216) (hby : by_ * m ≤ 281474976710656)
    (h : ∀ g, SXl P n W R ops (⟨g, List.replicate m z, e⟩ :: L) O E ((dn, .slice (some ⟨g, 0, none⟩) m m) :: f) rest Q) : SXl P n W R ops L O E f (⟨some dn, .makeSlice T x y, ty, pos, af, gd⟩ :: rest) Q :=
  SXl.stepn (V := fun g => .slice (some ⟨g, 0, none⟩) m m) (O' := fun _ => O) hw rfl hd (fun a w hf hl => by
    obtain ⟨i0, q1, q2, q3, q4, q5, q6⟩ := te.h
    refine ⟨w.heap.size, w.alloc (.cells (List.replicate m z).toArray e), ?_, hl.alloc _ e⟩
    have hb : (i0.bytes : Int) * (m : Int) ≤ 281474976710656 := by rw [q4]; omega
    have := run_makeSlice (P := P) w T e i0 z t.h.1 q1 q2 .i64 .i64 m m (by omega) (by omega) (by rw [q3]; simp; omega) hb (by omega)
    rw [q3, hz, Nat.mul_one, Int.toNat_natCast, madeCells_oneI] at this
    simp [execOp, hf.eval hx, hf.eval hy, this]) h
theorem l_makeSliceI (h : SXl P n W R ops L O E f (⟨d, .makeSlice T x y, ty, pos, af, gd⟩ :: rest) Q) : SXl P n W R ops L O E f (⟨d, .makeSlice T x y, ty, pos, af, gd⟩ :: rest) Q := h
end
end Go.Proofs.Ytdohglcjjlmhhaa
namespace Go.Proofs.Ytdohglcjjlmhhaa
open Go.RowKit
set_option linter.unusedVariables false
set_option linter.unusedSimpArgs false

theorem own_addr {w : World} {base e sz n c : Nat} {a : Option Addr} {xs : List Value} (h : w.ownsRow base e sz (.slice a n c) n xs) (h0 : 0 < n) : ∃ g, a = some ⟨g, 0, none⟩ := by
  rcases own_parts h with h1 | ⟨b, h1, _⟩
  · omega
  · exact ⟨b, h1⟩
theorem shareOf_bd {m : Int} {l : List Int} (k : Nat) (hm : -1048576 ≤ m ∧ m ≤ 1048576) (hw : wOk l = true) : -144115188075855872 ≤ shareOf m l k ∧ shareOf m l k ≤ 144115188075855872 := by
  have a1 := sumTo_bd hw (k + 1)
  have a2 := sumTo_bd hw k
  have b1 := mul_bd hm.1 hm.2 a1.1 a1.2
  have b2 := mul_bd hm.1 hm.2 a2.1 a2.2
  have d1 := fdiv_bd0 (b := sumTo l l.length) (by decide : (0 : Int) ≤ 72057594037927936) b1.1 b1.2
  have d2 := fdiv_bd0 (b := sumTo l l.length) (by decide : (0 : Int) ≤ 72057594037927936) b2.1 b2.2
  unfold shareOf
  omega
theorem line_cell1 {l : List Int} {g c lo i : Nat} {w : World} {y : Int} (h : (ownRes icell 3 1 l ⟨some ⟨g, 0, none⟩, c, lo⟩).says w) (hi : l[i]? = some y) : w.cell? ⟨g, 0 + i, none⟩ = some (.int .i64 y) := by
  obtain ⟨b, o, x, e, _, _, hx, hc⟩ := IntSlice.get (own_slice h (fun _ => rfl) (by decide)) (k := i) (List.getElem?_eq_some_iff.1 hi).1
  simp only [Option.some.injEq, Addr.mk.injEq, and_true] at e
  obtain ⟨rfl, rfl⟩ := e
  rw [hx.out] at hi
  rw [← Option.some.inj hi]
  exact hc
theorem placesI_next {h : Held} {i : Nat} {x : Item} (hx : h[i]? = some (x, none)) : placesI (h.take (i + 1)) = placesI (h.take i) ++ [(i : Int)] := by
  unfold placesI; rw [(free_next hx).1, List.map_append]; rfl
theorem placesI_held {h : Held} {i : Nat} {x : Item} {s : Int} (hx : h[i]? = some (x, some s)) : placesI (h.take (i + 1)) = placesI (h.take i) := by
  unfold placesI; rw [(held_next hx).1]
/-- The weights of those that are free. -/
def weightsI (g : Bool) (h : Held) : List Int := (freeItems h).map (weightOf g)
theorem weightsI_next {g : Bool} {h : Held} {i : Nat} {x : Item} (hx : h[i]? = some (x, none)) : weightsI g (h.take (i + 1)) = weightsI g (h.take i) ++ [weightOf g x] := by
  unfold weightsI; rw [(free_next hx).2, List.map_append]; rfl
theorem weightsI_held {g : Bool} {h : Held} {i : Nat} {x : Item} {s : Int} (hx : h[i]? = some (x, some s)) : weightsI g (h.take (i + 1)) = weightsI g (h.take i) := by
  unfold weightsI; rw [(held_next hx).2]
theorem lens (g : Bool) (h : Held) (hl : Line h) (i : Nat) : (placesI (h.take i)).length ≤ 12 ∧ (weightsI g (h.take i)).length ≤ 12 := by
  have h1 := items_len (h.take i)
  have h2 := (hl.take i).few
  unfold weightsI
  rw [places_len, List.length_map]
  omega
theorem part_nil (xs : List Int) : part xs 0 = List.replicate xs.length (.int .i64 0) := by simp [part]
def anyOver (xs : List Int) (k : Nat) : Bool := (xs.take k).any fun o => decide (o ≠ 0)
theorem anyOver_next {xs : List Int} {k : Nat} {o : Int} (h : xs[k]? = some o) : anyOver xs (k + 1) = (anyOver xs k || decide (o ≠ 0)) := by
  unfold anyOver
  rw [List.take_add_one, h, List.any_append]
  simp
theorem anyOver_all (xs : List Int) : anyOver xs xs.length = !(xs.all fun o => decide (o = 0)) := by
  unfold anyOver
  rw [List.take_length, Bool.eq_iff_iff]
  simp
/-- The reference's record of a line, and its lists. -/
def runBs (gr gh gs : Nat) (la : Option Addr) (lc : Nat) (gap inner : Int) (grows : Bool) (ch cs : Nat) (sh ss : List Value) (m : Nat) (h : Held) (passes : Nat) : List Blk :=
  [⟨gr, [.slice la m lc, .int .i64 gap, .int .i64 inner, .bool grows, .slice (some ⟨gh, 0, none⟩) m ch, .slice (some ⟨gs, 0, none⟩) m cs, .int .i64 passes], 124⟩, ⟨gh, (heldL h).map Value.bool ++ sh, 4⟩, ⟨gs, (heldSizes h).map (Value.int .i64) ++ ss, 3⟩]
set_option maxRecDepth 100000 in
set_option maxHeartbeats 16000000 in
theorem l13Pass_any (l : List Item) (h : Held) (m gr gh gs lc ch cs passes : Nat) (la : Option Addr) (gap inner : Int) (grows : Bool) (sh ss : List Value) (R : Nat → Prop) (w : World)
    (hl : Line h) (hi : h.map (·.1) = l) (hm : h.length = m) (hg : 0 ≤ gap ∧ gap ≤ 1048576) (hin : 0 ≤ inner ∧ inner ≤ 1048576) (hp : passes ≤ 100)
    (hS : ItemSlice R w la l) (hR : ∀ k, R k → k ∉ [gr, gh, gs]) (hd : [gr, gh, gs].Pairwise (· ≠ ·))
    (hB : ∀ b ∈ runBs gr gh gs la lc gap inner grows ch cs sh ss m h passes, w.heap[b.g]? = some (.cells b.cells.toArray b.T (0, 0))) :
    Calls Try.prog 94 #[.pointer (some ⟨gr, 0, none⟩)] w fun e w' => e = .returned (.bool (decide (freeN h ≠ 0))) ∧ Mod (fun k => k ∈ [gr, gh, gs]) w w' ∧
      ∀ b ∈ runBs gr gh gs la lc gap inner grows ch cs sh ss m (if freeN h = 0 then h else passOf grows gap inner h) (if freeN h = 0 then passes else passes + 1), w'.heap[b.g]? = some (.cells b.cells.toArray b.T (0, 0)) := by
  have hll : l.length = m := by rw [← hi, List.length_map, hm]
  have hfew := hl.few
  have hlt : ∀ g ∈ (runBs gr gh gs la lc gap inner grows ch cs sh ss m h passes).map (·.g), g < w.heap.size := fun g hg => by
    obtain ⟨b, hb, rfl⟩ := List.mem_map.1 hg
    exact (Array.getElem?_eq_some_iff.1 (hB b hb)).1
  refine calls_sxB (args := [.pointer (some ⟨gr, 0, none⟩)]) (runBs gr gh gs la lc gap inner grows ch cs sh ss m h passes) hB (List.pairwise_map.1 hd) hlt Try.func94 rfl rfl (fun a h1 h2 h3 => ((Fr.nil h1 h2).arg (h3 0 _ rfl))) ?_
  clear hB
  unfold runBs at *
  have hS2 : ∀ (L : List Blk) (O : List Own) (E : List Res) (w' : World), Loc w (Rg.rows w _ hlt) L O E w' → ItemSlice R w' la l := fun L O E w' hl' => hS.flatMod hl'.mod (fun k hk hp => hR k hk hp)
  have hit : ∀ {i : Nat} {x : Item} {o : Option Int}, h[i]? = some (x, o) → l[i]? = some x := fun hx => by rw [← hi, List.getElem?_map, hx]; rfl
  have hW : ∀ (L : List Blk) (O : List Own) (E : List Res) (w' : World) (i : Nat) (x : Item) (o : Option Int), h[i]? = some (x, o) → Loc w (Rg.rows w _ hlt) L O E w' → (⟨gr, [.slice la m lc, .int .i64 gap, .int .i64 inner, .bool grows, .slice (some ⟨gh, 0, none⟩) m ch, .slice (some ⟨gs, 0, none⟩) m cs, .int .i64 passes], 124⟩ : Blk) ∈ L →
      Calls Try.prog 93 #[.pointer (some ⟨gr, 0, none⟩), .int .i64 i] w' fun e w2 => e = .returned (.int .i64 (weightOf grows x)) ∧ Mod (fun _ => False) w' w2 := fun L O E w' i x o hx hl' hm' => by
    have hb := (hl'.blk _ hm').2
    exact l13Weight_any l grows i x gr lc la R w' (hit hx) (hl.right _ (List.mem_of_getElem? hx)) (hS2 _ _ _ _ hl') (by rw [hll]; exact blk_cell hb rfl) (blk_cell hb rfl)
  repeat (first | refine SX.seq ?_ | refine SXl.nil ?_ | refine SX.region ?_ | refine SQ.thenNormal ?_ | refine SX.block ?_ | (refine l_assign ?_; (refine SXl.v (OpW.assign rfl) rfl ?_ ?_ ?_); rfl; rfl) | (refine l_buildSlice ?_; refine SXl.lit0N rfl rfl (fun g => ?_)))
  refine SX.loop3 (fun (i : Nat) (_ _ : Option Addr × Nat) => i ≤ m) (fun i _ _ => m - i) (fun _ _ _ => [⟨gr, [.slice la m lc, .int .i64 gap, .int .i64 inner, .bool grows, .slice (some ⟨gh, 0, none⟩) m ch, .slice (some ⟨gs, 0, none⟩) m cs, .int .i64 passes], 124⟩, ⟨gh, (heldL h).map Value.bool ++ sh, 4⟩, ⟨gs, (heldSizes h).map (Value.int .i64) ++ ss, 3⟩]) (fun i q4 q3 => [lineO (placesI (h.take i), q4), lineO (weightsI grows (h.take i), q3)]) (fun _ _ _ => []) (fun i q4 q3 => [(0, .pointer (some ⟨gr, 0, none⟩)), (3, lineV (weightsI grows (h.take i), q3)), (4, lineV (placesI (h.take i), q4)), (5, .int .i64 (weightsI grows (h.take i)).sum), (6, .int .i64 i)]) 0 (_, _) (_, _) (Nat.zero_le _) ?_ (fun _ hl => hl) ?_
  · (repeat (first | exact subF_nil _ | (refine subF_cons rfl ?_) | (refine subF_consv rfl (by rfl) ?_)))
  rintro i ⟨a4, c4⟩ ⟨a3, c3⟩ hik
  simp only [lineO, lineV]
  obtain ⟨hn1, hn2⟩ := lens grows h hl i
  obtain ⟨-, hw1, hw2⟩ := (hl.take i).weights grows
  change 0 ≤ (weightsI grows (h.take i)).sum at hw1
  change (weightsI grows (h.take i)).sum ≤ _ at hw2
  by_cases hlt2 : i < m
  · obtain ⟨⟨x, o⟩, hx⟩ : ∃ p, h[i]? = some p := ⟨_, List.getElem?_eq_getElem (by omega)⟩
    have hheld := held_at hx sh
    have hWx := fun (L : List Blk) (O : List Own) (E : List Res) (w' : World) => hW L O E w' i x o hx
    have hwx := (hl.right _ (List.mem_of_getElem? hx)).weight grows
    simp only at hwx
    cases o with
    | some s =>
      have e1 := placesI_held hx
      have e2 := weightsI_held (g := grows) hx
      repeat (first | refine SX.seq ?_ | refine SXl.nil ?_ | refine SX.region ?_ | refine SQ.thenNormal ?_ | refine SX.block ?_ | refine SX.skip ?_ | refine SX.condT rfl ?_ | refine SX.condF rfl ?_ | (refine l_load ?_; (first | refine SXl.v (OpW.load 1 rfl rfl hheld) rfl ?_ ?_ ?_ | refine SXl.v (OpW.load 0 rfl rfl rfl) rfl ?_ ?_ ?_); rfl; rfl) | (refine l_fieldAddr ?_; (refine SXl.v (OpW.fieldAddr rfl) rfl ?_ ?_ ?_); rfl; rfl) | (refine l_move ?_; (refine SXl.v (OpW.move rfl) rfl ?_ ?_ ?_); rfl; rfl) | (refine l_assign ?_; (refine SXl.v (OpW.assign rfl) rfl ?_ ?_ ?_); rfl; rfl) | (refine l_len ?_; (refine SXl.v (OpW.len rfl) rfl ?_ ?_ ?_); rfl; rfl) | (refine l_nilCheck ?_; (refine SXl.v (OpW.nilCheck rfl) rfl ?_ ?_ ?_); rfl; rfl) | (refine l_add ?_; (refine SXl.v (OpW.succ rfl rfl (by omega)) rfl ?_ ?_ ?_); rfl; rfl) | (refine l_lss ?_; (refine SXl.v (OpW.lssT rfl rfl (by omega)) rfl ?_ ?_ ?_); rfl; rfl) | (refine l_not ?_; (refine SXl.v (OpW.not rfl) rfl ?_ ?_ ?_); rfl; rfl) | (refine l_indexAddr ?_; (refine SXl.v (OpW.indexAddr1 (by omega) rfl rfl) rfl ?_ ?_ ?_); rfl; rfl) | refine SQ.blockNormal ?_)
      refine SQ.round3 (i + 1) (a4, c4) (a3, c3) (by omega) (by omega) ?_ (fun w hl => by rw [e1, e2]; exact hl)
      (repeat (first | exact subF_nil _ | (refine subF_cons rfl ?_) | (refine subF_consv rfl (by simp [lineV, e1, e2]) ?_)))
    | none =>
      have e1 := placesI_next hx
      have e2 := weightsI_next (g := grows) hx
      have e3 : (weightsI grows (h.take (i + 1))).sum = (weightsI grows (h.take i)).sum + weightOf grows x := by rw [e2, List.sum_append]; simp
      repeat (first | refine SX.seq ?_ | refine SXl.nil ?_ | refine SX.region ?_ | refine SQ.thenNormal ?_ | refine SX.block ?_ | refine SX.skip ?_ | refine SX.condT rfl ?_ | (refine l_load ?_; (first | refine SXl.v (OpW.load 1 rfl rfl hheld) rfl ?_ ?_ ?_ | refine SXl.v (OpW.load 0 rfl rfl rfl) rfl ?_ ?_ ?_); rfl; rfl) | (refine l_call ?_; (first | refine SXl.v (OpW.call rfl (fun w hl => hWx _ _ _ _ hl (.tail _ (.head _)))) rfl ?_ ?_ ?_ | refine SXl.v (OpW.call rfl (fun w hl => hWx _ _ _ _ hl (.tail _ (.tail _ (.head _))))) rfl ?_ ?_ ?_); rfl; rfl) | (refine l_fieldAddr ?_; (refine SXl.v (OpW.fieldAddr rfl) rfl ?_ ?_ ?_); rfl; rfl) | (refine l_move ?_; (refine SXl.v (OpW.move rfl) rfl ?_ ?_ ?_); rfl; rfl) | (refine l_assign ?_; (refine SXl.v (OpW.assign rfl) rfl ?_ ?_ ?_); rfl; rfl) | (refine l_len ?_; (refine SXl.v (OpW.len rfl) rfl ?_ ?_ ?_); rfl; rfl) | (refine l_nilCheck ?_; (refine SXl.v (OpW.nilCheck rfl) rfl ?_ ?_ ?_); rfl; rfl) | (refine l_add ?_; (first | refine SXl.v (OpW.succ rfl rfl (by omega)) rfl ?_ ?_ ?_ | refine SXl.v (OpW.addi rfl rfl (by omega) (by omega)) rfl ?_ ?_ ?_); rfl; rfl) | (refine l_lss ?_; (refine SXl.v (OpW.lssT rfl rfl (by omega)) rfl ?_ ?_ ?_); rfl; rfl) | (refine l_not ?_; (refine SXl.v (OpW.not rfl) rfl ?_ ?_ ?_); rfl; rfl) | (refine l_indexAddr ?_; (refine SXl.v (OpW.indexAddr1 (by omega) rfl rfl) rfl ?_ ?_ ?_); rfl; rfl) | (refine l_buildSlice ?_; first | (refine SXl.lit1 ?_ ?_ rfl rfl rfl (fun g => ?_); rfl; rfl) | (refine SXl.lit0 ?_ ?_ (fun _ h => h) rfl (fun g => ?_); rfl; rfl)) | (refine l_append ?_; first | (refine SXl.append 0 0 rfl rfl rfl rfl rfl rfl rfl rfl (by omega) (by omega) (fun a c => ?_); simp only [List.set_cons_zero, List.set_cons_succ]) | (refine SXl.append 1 0 rfl rfl rfl rfl rfl rfl rfl rfl (by omega) (by omega) (fun a c => ?_); simp only [List.set_cons_zero, List.set_cons_succ])) | refine SQ.blockNormal ?_)
      rw [line_grown, line_grown]
      refine SQ.round3 (i + 1) (_, _) (_, _) (by omega) (by omega) ?_ (fun w hl => by rw [e1, e2]; exact hl.drop1.drop1)
      (repeat (first | exact subF_nil _ | (refine subF_cons rfl ?_) | (refine subF_consv rfl (by first | (rw [e3]; done) | simp [lineV, e1, e2]) ?_)))
  obtain rfl : i = m := by omega
  have ht : h.take i = h := List.take_of_length_le (by omega)
  rw [ht] at hn1 hn2 hw1 hw2 ⊢
  have hall : allOf grows h = (weightsI grows h).sum := by unfold allOf; rw [freeW_items]; rfl
  have hnl : freeN h = (placesI h).length := by rw [places_len, freeN_items]
  have hwl : (weightsI grows h).length = (placesI h).length := by unfold weightsI; rw [places_len, List.length_map]
  by_cases h0 : freeN h = 0
  · rw [if_pos h0, if_pos h0, decide_eq_false (fun hc => hc h0)]
    repeat (first | refine SX.seq ?_ | refine SXl.nil ?_ | refine SX.region ?_ | refine SQ.thenNormal ?_ | refine SX.condT rfl ?_ | refine SX.condF rfl ?_ | (refine l_load ?_; (refine SXl.v (OpW.load 0 rfl rfl rfl) rfl ?_ ?_ ?_); rfl; rfl) | (refine l_fieldAddr ?_; (refine SXl.v (OpW.fieldAddr rfl) rfl ?_ ?_ ?_); rfl; rfl) | (refine l_move ?_; (refine SXl.v (OpW.move rfl) rfl ?_ ?_ ?_); rfl; rfl) | (refine l_assign ?_; (refine SXl.v (OpW.assign rfl) rfl ?_ ?_ ?_); rfl; rfl) | (refine l_len ?_; (refine SXl.v (OpW.len rfl) rfl ?_ ?_ ?_); rfl; rfl) | (refine l_nilCheck ?_; (refine SXl.v (OpW.nilCheck rfl) rfl ?_ ?_ ?_); rfl; rfl) | (refine l_eql ?_; (refine SXl.v (OpW.eqlT rfl rfl (by omega)) rfl ?_ ?_ ?_); rfl; rfl) | (refine l_lss ?_; (refine SXl.v (OpW.lssF rfl rfl (by omega)) rfl ?_ ?_ ?_); rfl; rfl) | refine SX.ret ?_ | refine SX.exit ?_ | refine SQ.thenRet ?_ | refine SQ.thenExit ?_ | refine SQ.blockExit ?_)
    refine SQ.body1 rfl rfl (fun w' hl => ⟨rfl, hl.mod, fun b hb => (hl.blk b hb).2⟩)
  rw [if_neg h0, if_neg h0, decide_eq_true h0]
  have hF : ∀ (L : List Blk) (O : List Own) (E : List Res) (w' : World) (cl : Value), Loc w (Rg.rows w _ hlt) L O E w' → (⟨gr, [.slice la i lc, .int .i64 gap, .int .i64 inner, .bool grows, .slice (some ⟨gh, 0, none⟩) i ch, .slice (some ⟨gs, 0, none⟩) i cs, cl], 124⟩ : Blk) ∈ L → (⟨gs, (heldSizes h).map (Value.int .i64) ++ ss, 3⟩ : Blk) ∈ L →
      Calls Try.prog 134 #[.pointer (some ⟨gr, 0, none⟩)] w' fun e w2 => e = .returned (.int .i64 (restOf grows gap inner h)) ∧ Mod (fun _ => False) w' w2 := fun L O E w' cl hl' hm' hm2 => by
    have hb := (hl'.blk _ hm').2
    exact l13Free_any h grows gap inner gr lc i cs la (some ⟨gs, 0, none⟩) R (fun _ => True) w' hm.symm hl.right hl.near (by omega) hg hin (hi ▸ hS2 _ _ _ _ hl') (blk_ints (hl'.blk _ hm2).2 trivial) (blk_cell hb rfl) (blk_cell hb rfl) (blk_cell hb rfl) (blk_cell hb rfl) (blk_cell hb rfl)
  have hpos : 0 < (placesI h).length := by omega
  refine SX.knowI (fun w' hl' => own_addr (hl'.own _ (.head _)).1 hpos) (fun ⟨g4, e4⟩ => ?_)
  refine SX.knowI (fun w' hl' => own_addr (hl'.own _ (.tail _ (.head _))).1 (by rw [hwl]; exact hpos)) (fun ⟨g3, e3⟩ => ?_)
  subst e4 e3
  have hrb := restOf_bd grows gap inner h
  have hrs := rest_signed grows gap inner h
  repeat (first | refine SX.seq ?_ | refine SXl.nil ?_ | refine SX.region ?_ | refine SQ.thenNormal ?_ | refine SX.skip ?_ | refine SX.condF rfl ?_ | (refine l_call ?_; (refine SXl.v (OpW.call rfl (fun w hl => hF _ _ _ _ _ hl (.head _) (.tail _ (.tail _ (.head _))))) rfl ?_ ?_ ?_); rfl; rfl) | (refine l_load ?_; (refine SXl.v (OpW.load 0 rfl rfl rfl) rfl ?_ ?_ ?_); rfl; rfl) | (refine l_fieldAddr ?_; (refine SXl.v (OpW.fieldAddr rfl) rfl ?_ ?_ ?_); rfl; rfl) | (refine l_move ?_; (refine SXl.v (OpW.move rfl) rfl ?_ ?_ ?_); rfl; rfl) | (refine l_assign ?_; (refine SXl.v (OpW.assign rfl) rfl ?_ ?_ ?_); rfl; rfl) | (refine l_len ?_; (refine SXl.v (OpW.len rfl) rfl ?_ ?_ ?_); rfl; rfl) | (refine l_nilCheck ?_; (refine SXl.v (OpW.nilCheck rfl) rfl ?_ ?_ ?_); rfl; rfl) | (refine l_add ?_; (refine SXl.v (OpW.succ rfl rfl (by omega)) rfl ?_ ?_ ?_); rfl; rfl) | (refine l_eql ?_; (refine SXl.v (OpW.eqlF rfl rfl (by omega)) rfl ?_ ?_ ?_); rfl; rfl) | (refine l_lss ?_; (refine SXl.v (OpW.lssF rfl rfl (by omega)) rfl ?_ ?_ ?_); rfl; rfl) | (refine l_store ?_; first | (refine SXl.store 0 ?_ rfl rfl rfl rfl rfl rfl ?_; rfl; simp only [List.set_cons_zero, List.set_cons_succ]) | (refine SXl.store 1 ?_ rfl rfl rfl rfl rfl rfl ?_; rfl; simp only [List.set_cons_zero, List.set_cons_succ]) | (refine SXl.store 2 ?_ rfl rfl rfl rfl rfl rfl ?_; rfl; simp only [List.set_cons_zero, List.set_cons_succ]) | (refine SXl.storeAll 0 ?_ rfl rfl rfl rfl rfl rfl rfl ?_; rfl; simp only [List.set_cons_zero, List.set_cons_succ]) | (refine SXl.storeAll 1 ?_ rfl rfl rfl rfl rfl rfl rfl ?_; rfl; simp only [List.set_cons_zero, List.set_cons_succ]) | (refine SXl.storeAll 2 ?_ rfl rfl rfl rfl rfl rfl rfl ?_; rfl; simp only [List.set_cons_zero, List.set_cons_succ]) | (refine SXl.storeRow 0 ?_ rfl rfl rfl rfl rfl rfl rfl ?_; rfl; simp only [over, List.set_cons_zero, List.set_cons_succ]) | (refine SXl.storeRow 1 ?_ rfl rfl rfl rfl rfl rfl rfl ?_; rfl; simp only [over, List.set_cons_zero, List.set_cons_succ]) | (refine SXl.storeRow 2 ?_ rfl rfl rfl rfl rfl rfl rfl ?_; rfl; simp only [over, List.set_cons_zero, List.set_cons_succ])) | refine SX.exit ?_ | refine SQ.thenExit ?_ | refine SQ.blockExit ?_)
  have hpass : passOf grows gap inner h = applyV (newVals grows (weightsI grows h).sum (restOf grows gap inner h) h) h := by unfold passOf; rw [hall, pass_apply]
  generalize restOf grows gap inner h = rest at *
  refine l_makeSliceI ?_
  refine SXl.makeI (m := (placesI h).length) (z := .int .i64 0) rfl rfl rfl rfl rfl (by omega) (by omega) (fun go => ?_)
  have hov0 : ∀ x ∈ freeItems h, Nums (weightsI grows h).sum rest grows x := fun x hx => nums_of (hl.free hx) ⟨hw1, hw2⟩ hrb
  have hovl : (oversT (weightsI grows h).sum rest grows (freeItems h)).length = (placesI h).length := by unfold oversT; rw [List.length_map, places_len]
  have hovb := overs_sum hov0 (by rw [← freeN_items]; omega)
  have hovg : ∀ (k : Nat) (x : Item), (freeItems h)[k]? = some x → (oversT (weightsI grows h).sum rest grows (freeItems h))[k]? = some (overOf (weightsI grows h).sum rest (weightOf grows x) x) := fun k x hx => by unfold oversT; rw [List.getElem?_map, hx]; rfl
  have hwg : ∀ (k : Nat) (x : Item), (freeItems h)[k]? = some x → (weightsI grows h)[k]? = some (weightOf grows x) := fun k x hx => by unfold weightsI; rw [List.getElem?_map, hx]; rfl
  have hvals : newVals grows (weightsI grows h).sum rest h = if (oversT (weightsI grows h).sum rest grows (freeItems h)).all (fun o => decide (o = 0)) = true then shareVals grows (weightsI grows h).sum rest 0 (freeItems h) else (freeItems h).map (holdVal grows (weightsI grows h).sum rest (oversT (weightsI grows h).sum rest grows (freeItems h)).sum) := by
    unfold newVals noneOver
    rw [overs_items]
    rfl
  generalize hov : oversT (weightsI grows h).sum rest grows (freeItems h) = ov at *
  repeat (first | refine SX.seq ?_ | refine SXl.nil ?_ | refine SX.region ?_ | refine SQ.thenNormal ?_ | refine SX.block ?_ | (refine l_assign ?_; (refine SXl.v (OpW.assign rfl) rfl ?_ ?_ ?_); rfl; rfl))
  refine SX.loop3 (fun (k : Nat) (_ _ : Unit) => k ≤ (placesI h).length) (fun k _ _ => (placesI h).length - k) (fun k _ _ => ⟨go, part ov k, 3⟩ :: [⟨gr, [.slice la i lc, .int .i64 gap, .int .i64 inner, .bool grows, .slice (some ⟨gh, 0, none⟩) i ch, .slice (some ⟨gs, 0, none⟩) i cs, .int .i64 (passes + 1 : Nat)], 124⟩, ⟨gh, (heldL h).map Value.bool ++ sh, 4⟩, ⟨gs, (heldSizes h).map (Value.int .i64) ++ ss, 3⟩]) (fun _ _ _ => [⟨.slice (some ⟨g4, 0, none⟩) (placesI h).length c4, 3, 1, (placesI h).length, ((placesI h).map icell).flatten⟩, ⟨.slice (some ⟨g3, 0, none⟩) (weightsI grows h).length c3, 3, 1, (weightsI grows h).length, ((weightsI grows h).map icell).flatten⟩]) (fun _ _ _ => []) (fun k _ _ => [(0, .pointer (some ⟨gr, 0, none⟩)), (3, .slice (some ⟨g3, 0, none⟩) (weightsI grows h).length c3), (4, .slice (some ⟨g4, 0, none⟩) (placesI h).length c4), (5, .int .i64 (weightsI grows h).sum), (7, .int .i64 rest), (8, .slice (some ⟨go, 0, none⟩) (placesI h).length (placesI h).length), (9, .int .i64 (ov.take k).sum), (10, .bool (anyOver ov k)), (11, .int .i64 k)]) 0 () () (Nat.zero_le _) ?_ (fun _ hl => by rw [part_nil, hovl]; exact hl) ?_
  · (repeat (first | exact subF_nil _ | (refine subF_cons rfl ?_) | (refine subF_consv rfl (by rfl) ?_)))
  rintro k _ _ hk
  by_cases hkn : k < (placesI h).length
  · obtain ⟨j, hj⟩ : ∃ j, (freeIx h)[k]? = some j := ⟨_, List.getElem?_eq_getElem (by unfold placesI at hkn; rw [List.length_map] at hkn; exact hkn)⟩
    obtain ⟨x, hx, hxi⟩ := freeIx_get hj
    have hpl := places_get hj
    have hws := hwg k x hxi
    have hovk := hovg k x hxi
    have hplv : ((placesI h).map icell).flatten[0 + k]? = some (.int .i64 (j : Int)) := by rw [ints_flat, Nat.zero_add, List.getElem?_map, hpl]; rfl
    have hwsv : ((weightsI grows h).map icell).flatten[0 + k]? = some (.int .i64 (weightOf grows x)) := by rw [ints_flat, Nat.zero_add, List.getElem?_map, hws]; rfl
    have hjm := (List.getElem?_eq_some_iff.1 hx).1
    obtain ⟨b1, o1, x1, e1, hR1, hb1, hxk, hc1⟩ := hS.get (k := j) (by omega)
    obtain rfl : x = x1 := Option.some.inj ((hit hx).symm.trans hxk)
    subst e1
    have hsb := hovb k
    have hsb1 := hovb (k + 1)
    have hsum := sumN_next hovk
    have hany := anyOver_next hovk
    have hmost := hl.free (List.mem_of_getElem? hxi)
    obtain ⟨n1, n2, n3, n4⟩ := hov0 x (List.mem_of_getElem? hxi)
    repeat (first | refine SX.seq ?_ | refine SXl.nil ?_ | refine SX.region ?_ | refine SQ.thenNormal ?_ | refine SX.block ?_ | refine SX.skip ?_ | refine SX.condT rfl ?_ | (refine l_move ?_; (refine SXl.v (OpW.move rfl) rfl ?_ ?_ ?_); rfl; rfl) | (refine l_len ?_; (refine SXl.v (OpW.len rfl) rfl ?_ ?_ ?_); rfl; rfl) | (refine l_lss ?_; (refine SXl.v (OpW.lssT rfl rfl (by omega)) rfl ?_ ?_ ?_); rfl; rfl))
    refine SX.drawnQ 36 [.int .i64 0, .int .i64 0, .int .i64 0, .int .i64 0, .int .i64 0, .int .i64 0, .int .i64 0, .bool false, .bool false] x.cells (by kernel_rfl) (by kernel_rfl) (fun B hf => ?_)
    repeat (first | (refine SXq.alloc hf (fun _ => rfl) rfl ?_) | (refine SXq.v (fun _ => (OpW.loadOwn (xs := ((placesI h).map icell).flatten) 0 rfl rfl hplv)) rfl (fun _ => rfl) rfl ?_) | (refine SXq.v (fun _ => (OpW.loadRowOld rfl hc1 (Item.cells_len x) (Nat.succ_pos _) (hR _ hR1))) rfl (fun _ => rfl) rfl ?_) | (refine SXq.v (fun _ => (OpW.load 1 rfl rfl rfl)) rfl (fun _ => rfl) rfl ?_) | (refine SXq.v (fun _ => ((OpW.indexAddr (i := j) (by omega) rfl rfl))) rfl (fun _ => rfl) rfl ?_) | (refine SXq.v (fun _ => (OpW.indexAddr1 (by omega) rfl rfl)) rfl (fun _ => rfl) rfl ?_) | (refine SXq.v (fun _ => (OpW.fieldAddr rfl)) rfl (fun _ => rfl) rfl ?_) | (refine SXq.v (fun _ => (OpW.move rfl)) rfl (fun _ => rfl) rfl ?_) | (refine SXq.v (fun _ => (OpW.nilCheck rfl)) rfl (fun _ => rfl) rfl ?_))
    refine SXq.store 10 hf (by kernel_rfl) List.mem_cons_self (fun _ => rfl) (fun _ => rfl) (fun _ => rfl) rfl rfl rfl ?_
    refine SXq.nil 10 11 hf (.tail _ (.head _)) (.head _) (fun xq => ?_)
    generalize gOf (xq 10) = g12
    generalize weightOf grows x = wt at *
    generalize (weightsI grows h).sum = A at *
    by_cases d1 : x.base * A + rest * wt < x.least * A
    · have ho : overOf A rest wt x = x.least * A - (x.base * A + rest * wt) := if_pos d1
      rw [ho] at hovk hsum hany
      repeat (first | refine SX.seq ?_ | refine SXl.nil ?_ | refine SX.region ?_ | refine SQ.thenNormal ?_ | refine SX.block ?_ | refine SX.condT rfl ?_ | (refine l_load ?_; (refine SXl.v (OpW.load 0 rfl rfl rfl) rfl ?_ ?_ ?_); rfl; rfl) | (refine l_fieldAddr ?_; (refine SXl.v (OpW.fieldAddr rfl) rfl ?_ ?_ ?_); rfl; rfl) | (refine l_move ?_; (refine SXl.v (OpW.move rfl) rfl ?_ ?_ ?_); rfl; rfl) | (refine l_assign ?_; (refine SXl.v (OpW.assign rfl) rfl ?_ ?_ ?_); rfl; rfl) | (refine l_lss ?_; (refine SXl.v (OpW.lssT rfl rfl (by omega)) rfl ?_ ?_ ?_); rfl; rfl) | (refine l_mul ?_; (refine SXl.v (OpW.muli rfl rfl (by omega) (by omega)) rfl ?_ ?_ ?_); rfl; rfl) | (refine l_sub ?_; (refine SXl.v (OpW.subi rfl rfl (by omega) (by omega)) rfl ?_ ?_ ?_); rfl; rfl) | (refine l_indexAddr ?_; (refine SXl.v (OpW.indexAddr1 (by omega) rfl rfl) rfl ?_ ?_ ?_); rfl; rfl) | refine SX.drawn (by kernel_rfl) (by kernel_rfl) ?_ | refine SXr.nil ?_ | (refine r_load ?_; (first | refine SXr.v (OpW.loadOwn (xs := ((weightsI grows h).map icell).flatten) 1 rfl rfl hwsv) rfl ?_ ?_ ?_ | refine SXr.v (OpW.load 0 rfl rfl rfl) rfl ?_ ?_ ?_); rfl; rfl) | (refine r_fieldAddr ?_; (refine SXr.v (OpW.fieldAddr rfl) rfl ?_ ?_ ?_); rfl; rfl) | (refine r_move ?_; (refine SXr.v (OpW.move rfl) rfl ?_ ?_ ?_); rfl; rfl) | (refine r_assign ?_; (refine SXr.v (OpW.assign rfl) rfl ?_ ?_ ?_); rfl; rfl) | (refine r_add ?_; (refine SXr.v (OpW.addi rfl rfl (by omega) (by omega)) rfl ?_ ?_ ?_); rfl; rfl) | (refine r_mul ?_; (refine SXr.v (OpW.muli rfl rfl (by omega) (by omega)) rfl ?_ ?_ ?_); rfl; rfl) | (refine r_indexAddr ?_; (refine SXr.v (OpW.indexAddr1 (by omega) rfl rfl) rfl ?_ ?_ ?_); rfl; rfl))
      refine l_store ?_
      refine SXl.store 1 rfl rfl rfl rfl (by rw [part_len _ _ (by omega)]; simp; omega) rfl rfl ?_
      simp only [List.set_cons_zero, List.set_cons_succ]
      rw [part_set hovk]
      have hz : x.least * A - (x.base * A + rest * wt) ≠ 0 := by omega
      rw [decide_eq_true hz, Bool.or_true] at hany
      cases hb : anyOver ov k
      · skip
        repeat (first | refine SX.seq ?_ | refine SXl.nil ?_ | refine SX.region ?_ | refine SQ.thenNormal ?_ | (refine l_load ?_; (refine SXl.v (OpW.load 1 rfl rfl (part_new hovk)) rfl ?_ ?_ ?_); rfl; rfl) | (refine l_move ?_; (refine SXl.v (OpW.move rfl) rfl ?_ ?_ ?_); rfl; rfl) | (refine l_assign ?_; (refine SXl.v (OpW.assign rfl) rfl ?_ ?_ ?_); rfl; rfl) | (refine l_add ?_; (first | refine SXl.v (OpW.succ rfl rfl (by omega)) rfl ?_ ?_ ?_ | refine SXl.v (OpW.addi rfl rfl (by omega) (by omega)) rfl ?_ ?_ ?_); rfl; rfl) | (refine l_neq ?_; (refine SXl.v (OpW.neqT rfl rfl (by omega)) rfl ?_ ?_ ?_); rfl; rfl) | (refine l_pick ?_; (refine SXl.v (OpW.pick rfl rfl rfl) rfl ?_ ?_ ?_); rfl; rfl) | (refine l_indexAddr ?_; (refine SXl.v (OpW.indexAddr1 (by omega) rfl rfl) rfl ?_ ?_ ?_); rfl; rfl) | refine SQ.blockNormal ?_)
        refine SQ.round3 (k + 1) () () (by omega) (by omega) ?_ (fun w hl => hl.drop1)
        (repeat (first | exact subF_nil _ | (refine subF_cons rfl ?_) | (refine subF_consv rfl (by first | (rw [hsum]; done) | (rw [hany]; done) | (rw [hany]; rfl)) ?_)))
      · skip
        repeat (first | refine SX.seq ?_ | refine SXl.nil ?_ | refine SX.region ?_ | refine SQ.thenNormal ?_ | (refine SXl.no rfl rfl rfl ?_) | (refine l_load ?_; (refine SXl.v (OpW.load 1 rfl rfl (part_new hovk)) rfl ?_ ?_ ?_); rfl; rfl) | (refine l_move ?_; (refine SXl.v (OpW.move rfl) rfl ?_ ?_ ?_); rfl; rfl) | (refine l_assign ?_; (refine SXl.v (OpW.assign rfl) rfl ?_ ?_ ?_); rfl; rfl) | (refine l_add ?_; (first | refine SXl.v (OpW.succ rfl rfl (by omega)) rfl ?_ ?_ ?_ | refine SXl.v (OpW.addi rfl rfl (by omega) (by omega)) rfl ?_ ?_ ?_); rfl; rfl) | (refine l_pick ?_; (refine SXl.v (OpW.pick rfl rfl rfl) rfl ?_ ?_ ?_); rfl; rfl) | (refine l_indexAddr ?_; (refine SXl.v (OpW.indexAddr1 (by omega) rfl rfl) rfl ?_ ?_ ?_); rfl; rfl) | refine SQ.blockNormal ?_)
        refine SQ.round3 (k + 1) () () (by omega) (by omega) ?_ (fun w hl => hl.drop1)
        (repeat (first | exact subF_nil _ | (refine subF_cons rfl ?_) | (refine subF_consv rfl (by first | (rw [hsum]; done) | (rw [hany]; done) | (rw [hany]; rfl)) ?_)))
    by_cases hm0 : 0 ≤ x.most
    · by_cases d2 : upperOf x * A < x.base * A + rest * wt
      · have ho : overOf A rest wt x = upperOf x * A - (x.base * A + rest * wt) := by unfold overOf; rw [if_neg d1, if_pos ⟨hm0, d2⟩]
        rw [ho] at hovk hsum hany
        repeat (first | refine SX.seq ?_ | refine SXl.nil ?_ | refine SX.region ?_ | refine SQ.thenNormal ?_ | refine SX.block ?_ | refine SX.condT rfl ?_ | refine SX.condF rfl ?_ | (refine l_load ?_; (first | refine SXl.v (OpW.load 0 rfl rfl rfl) rfl ?_ ?_ ?_ | refine SXl.v (OpW.loadAll 0 rfl rfl rfl) rfl ?_ ?_ ?_); rfl; rfl) | (refine l_call ?_; (refine SXl.v (OpW.call rfl (fun w hl => l13Most_any x _ hm0)) rfl ?_ ?_ ?_); rfl; rfl) | (refine l_fieldAddr ?_; (refine SXl.v (OpW.fieldAddr rfl) rfl ?_ ?_ ?_); rfl; rfl) | (refine l_move ?_; (refine SXl.v (OpW.move rfl) rfl ?_ ?_ ?_); rfl; rfl) | (refine l_assign ?_; (refine SXl.v (OpW.assign rfl) rfl ?_ ?_ ?_); rfl; rfl) | (refine l_geq ?_; (refine SXl.v (OpW.geqT rfl rfl (by omega)) rfl ?_ ?_ ?_); rfl; rfl) | (refine l_gtr ?_; (refine SXl.v (OpW.gtrT rfl rfl (by omega)) rfl ?_ ?_ ?_); rfl; rfl) | (refine l_lss ?_; (refine SXl.v (OpW.lssF rfl rfl (by omega)) rfl ?_ ?_ ?_); rfl; rfl) | (refine l_mul ?_; (refine SXl.v (OpW.muli rfl rfl (by omega) (by omega)) rfl ?_ ?_ ?_); rfl; rfl) | (refine l_sub ?_; (refine SXl.v (OpW.subi rfl rfl (by omega) (by omega)) rfl ?_ ?_ ?_); rfl; rfl) | (refine l_pick ?_; (refine SXl.v (OpW.pick rfl rfl rfl) rfl ?_ ?_ ?_); rfl; rfl) | (refine l_indexAddr ?_; (refine SXl.v (OpW.indexAddr1 (by omega) rfl rfl) rfl ?_ ?_ ?_); rfl; rfl) | refine SX.drawn (by kernel_rfl) (by kernel_rfl) ?_ | refine SXr.nil ?_ | (refine r_load ?_; (first | refine SXr.v (OpW.loadOwn (xs := ((weightsI grows h).map icell).flatten) 1 rfl rfl hwsv) rfl ?_ ?_ ?_ | refine SXr.v (OpW.load 0 rfl rfl rfl) rfl ?_ ?_ ?_); rfl; rfl) | (refine r_fieldAddr ?_; (refine SXr.v (OpW.fieldAddr rfl) rfl ?_ ?_ ?_); rfl; rfl) | (refine r_move ?_; (refine SXr.v (OpW.move rfl) rfl ?_ ?_ ?_); rfl; rfl) | (refine r_assign ?_; (refine SXr.v (OpW.assign rfl) rfl ?_ ?_ ?_); rfl; rfl) | (refine r_add ?_; (refine SXr.v (OpW.addi rfl rfl (by omega) (by omega)) rfl ?_ ?_ ?_); rfl; rfl) | (refine r_mul ?_; (refine SXr.v (OpW.muli rfl rfl (by omega) (by omega)) rfl ?_ ?_ ?_); rfl; rfl) | (refine r_indexAddr ?_; (refine SXr.v (OpW.indexAddr1 (by omega) rfl rfl) rfl ?_ ?_ ?_); rfl; rfl))
        refine l_store ?_
        refine SXl.store 1 rfl rfl rfl rfl (by rw [part_len _ _ (by omega)]; simp; omega) rfl rfl ?_
        simp only [List.set_cons_zero, List.set_cons_succ]
        rw [part_set hovk]
        have hz : upperOf x * A - (x.base * A + rest * wt) ≠ 0 := by omega
        rw [decide_eq_true hz, Bool.or_true] at hany
        cases hb : anyOver ov k
        · skip
          repeat (first | refine SX.seq ?_ | refine SXl.nil ?_ | refine SX.region ?_ | refine SQ.thenNormal ?_ | (refine l_load ?_; (refine SXl.v (OpW.load 1 rfl rfl (part_new hovk)) rfl ?_ ?_ ?_); rfl; rfl) | (refine l_move ?_; (refine SXl.v (OpW.move rfl) rfl ?_ ?_ ?_); rfl; rfl) | (refine l_assign ?_; (refine SXl.v (OpW.assign rfl) rfl ?_ ?_ ?_); rfl; rfl) | (refine l_add ?_; (first | refine SXl.v (OpW.succ rfl rfl (by omega)) rfl ?_ ?_ ?_ | refine SXl.v (OpW.addi rfl rfl (by omega) (by omega)) rfl ?_ ?_ ?_); rfl; rfl) | (refine l_neq ?_; (refine SXl.v (OpW.neqT rfl rfl (by omega)) rfl ?_ ?_ ?_); rfl; rfl) | (refine l_pick ?_; (refine SXl.v (OpW.pick rfl rfl rfl) rfl ?_ ?_ ?_); rfl; rfl) | (refine l_indexAddr ?_; (refine SXl.v (OpW.indexAddr1 (by omega) rfl rfl) rfl ?_ ?_ ?_); rfl; rfl) | refine SQ.blockNormal ?_)
          refine SQ.round3 (k + 1) () () (by omega) (by omega) ?_ (fun w hl => hl.drop1)
          (repeat (first | exact subF_nil _ | (refine subF_cons rfl ?_) | (refine subF_consv rfl (by first | (rw [hsum]; done) | (rw [hany]; done) | (rw [hany]; rfl)) ?_)))
        · skip
          repeat (first | refine SX.seq ?_ | refine SXl.nil ?_ | refine SX.region ?_ | refine SQ.thenNormal ?_ | (refine SXl.no rfl rfl rfl ?_) | (refine l_load ?_; (refine SXl.v (OpW.load 1 rfl rfl (part_new hovk)) rfl ?_ ?_ ?_); rfl; rfl) | (refine l_move ?_; (refine SXl.v (OpW.move rfl) rfl ?_ ?_ ?_); rfl; rfl) | (refine l_assign ?_; (refine SXl.v (OpW.assign rfl) rfl ?_ ?_ ?_); rfl; rfl) | (refine l_add ?_; (first | refine SXl.v (OpW.succ rfl rfl (by omega)) rfl ?_ ?_ ?_ | refine SXl.v (OpW.addi rfl rfl (by omega) (by omega)) rfl ?_ ?_ ?_); rfl; rfl) | (refine l_pick ?_; (refine SXl.v (OpW.pick rfl rfl rfl) rfl ?_ ?_ ?_); rfl; rfl) | (refine l_indexAddr ?_; (refine SXl.v (OpW.indexAddr1 (by omega) rfl rfl) rfl ?_ ?_ ?_); rfl; rfl) | refine SQ.blockNormal ?_)
          refine SQ.round3 (k + 1) () () (by omega) (by omega) ?_ (fun w hl => hl.drop1)
          (repeat (first | exact subF_nil _ | (refine subF_cons rfl ?_) | (refine subF_consv rfl (by first | (rw [hsum]; done) | (rw [hany]; done) | (rw [hany]; rfl)) ?_)))
      · have ho : overOf A rest wt x = 0 := by unfold overOf; rw [if_neg d1, if_neg (fun hc => d2 hc.2)]
        rw [ho] at hovk hsum hany
        have hz0 := part_at (xs := ov) (k := k) (by omega)
        rw [decide_eq_false (fun hc => hc rfl), Bool.or_false] at hany
        cases hb : anyOver ov k
        · rw [hb] at hany
          repeat (first | refine SX.seq ?_ | refine SXl.nil ?_ | refine SX.region ?_ | refine SQ.thenNormal ?_ | refine SX.block ?_ | refine SX.skip ?_ | refine SX.condF rfl ?_ | (refine l_load ?_; (first | refine SXl.v (OpW.load 1 rfl rfl hz0) rfl ?_ ?_ ?_ | refine SXl.v (OpW.load 0 rfl rfl rfl) rfl ?_ ?_ ?_ | refine SXl.v (OpW.loadAll 0 rfl rfl rfl) rfl ?_ ?_ ?_); rfl; rfl) | (refine l_call ?_; (refine SXl.v (OpW.call rfl (fun w hl => l13Most_any x _ hm0)) rfl ?_ ?_ ?_); rfl; rfl) | (refine l_fieldAddr ?_; (refine SXl.v (OpW.fieldAddr rfl) rfl ?_ ?_ ?_); rfl; rfl) | (refine l_move ?_; (refine SXl.v (OpW.move rfl) rfl ?_ ?_ ?_); rfl; rfl) | (refine l_assign ?_; (refine SXl.v (OpW.assign rfl) rfl ?_ ?_ ?_); rfl; rfl) | (refine l_add ?_; (first | refine SXl.v (OpW.succ rfl rfl (by omega)) rfl ?_ ?_ ?_ | refine SXl.v (OpW.addi rfl rfl (by omega) (by omega)) rfl ?_ ?_ ?_); rfl; rfl) | (refine l_geq ?_; (refine SXl.v (OpW.geqT rfl rfl (by omega)) rfl ?_ ?_ ?_); rfl; rfl) | (refine l_gtr ?_; (refine SXl.v (OpW.gtrF rfl rfl (by omega)) rfl ?_ ?_ ?_); rfl; rfl) | (refine l_lss ?_; (refine SXl.v (OpW.lssF rfl rfl (by omega)) rfl ?_ ?_ ?_); rfl; rfl) | (refine l_mul ?_; (refine SXl.v (OpW.muli rfl rfl (by omega) (by omega)) rfl ?_ ?_ ?_); rfl; rfl) | (refine l_neq ?_; (refine SXl.v (OpW.neqF rfl rfl (by omega)) rfl ?_ ?_ ?_); rfl; rfl) | (refine l_pick ?_; (refine SXl.v (OpW.pick rfl rfl rfl) rfl ?_ ?_ ?_); rfl; rfl) | (refine l_indexAddr ?_; (refine SXl.v (OpW.indexAddr1 (by omega) rfl rfl) rfl ?_ ?_ ?_); rfl; rfl) | refine SX.drawn (by kernel_rfl) (by kernel_rfl) ?_ | refine SXr.nil ?_ | (refine r_load ?_; (first | refine SXr.v (OpW.loadOwn (xs := ((weightsI grows h).map icell).flatten) 1 rfl rfl hwsv) rfl ?_ ?_ ?_ | refine SXr.v (OpW.load 0 rfl rfl rfl) rfl ?_ ?_ ?_); rfl; rfl) | (refine r_fieldAddr ?_; (refine SXr.v (OpW.fieldAddr rfl) rfl ?_ ?_ ?_); rfl; rfl) | (refine r_move ?_; (refine SXr.v (OpW.move rfl) rfl ?_ ?_ ?_); rfl; rfl) | (refine r_assign ?_; (refine SXr.v (OpW.assign rfl) rfl ?_ ?_ ?_); rfl; rfl) | (refine r_add ?_; (refine SXr.v (OpW.addi rfl rfl (by omega) (by omega)) rfl ?_ ?_ ?_); rfl; rfl) | (refine r_mul ?_; (refine SXr.v (OpW.muli rfl rfl (by omega) (by omega)) rfl ?_ ?_ ?_); rfl; rfl) | (refine r_indexAddr ?_; (refine SXr.v (OpW.indexAddr1 (by omega) rfl rfl) rfl ?_ ?_ ?_); rfl; rfl) | refine SQ.blockNormal ?_)
          refine SQ.round3 (k + 1) () () (by omega) (by omega) ?_ (fun w hl => by rw [← part_zero hovk]; exact hl.drop1)
          (repeat (first | exact subF_nil _ | (refine subF_cons rfl ?_) | (refine subF_consv rfl (by first | (rw [hsum]; done) | (rw [hany]; done) | (rw [hany]; rfl)) ?_)))
        · rw [hb] at hany
          repeat (first | refine SX.seq ?_ | refine SXl.nil ?_ | refine SX.region ?_ | refine SQ.thenNormal ?_ | refine SX.block ?_ | refine SX.skip ?_ | refine SX.condF rfl ?_ | (refine SXl.no rfl rfl rfl ?_) | (refine l_load ?_; (first | refine SXl.v (OpW.load 1 rfl rfl hz0) rfl ?_ ?_ ?_ | refine SXl.v (OpW.load 0 rfl rfl rfl) rfl ?_ ?_ ?_ | refine SXl.v (OpW.loadAll 0 rfl rfl rfl) rfl ?_ ?_ ?_); rfl; rfl) | (refine l_call ?_; (refine SXl.v (OpW.call rfl (fun w hl => l13Most_any x _ hm0)) rfl ?_ ?_ ?_); rfl; rfl) | (refine l_fieldAddr ?_; (refine SXl.v (OpW.fieldAddr rfl) rfl ?_ ?_ ?_); rfl; rfl) | (refine l_move ?_; (refine SXl.v (OpW.move rfl) rfl ?_ ?_ ?_); rfl; rfl) | (refine l_assign ?_; (refine SXl.v (OpW.assign rfl) rfl ?_ ?_ ?_); rfl; rfl) | (refine l_add ?_; (first | refine SXl.v (OpW.succ rfl rfl (by omega)) rfl ?_ ?_ ?_ | refine SXl.v (OpW.addi rfl rfl (by omega) (by omega)) rfl ?_ ?_ ?_); rfl; rfl) | (refine l_geq ?_; (refine SXl.v (OpW.geqT rfl rfl (by omega)) rfl ?_ ?_ ?_); rfl; rfl) | (refine l_gtr ?_; (refine SXl.v (OpW.gtrF rfl rfl (by omega)) rfl ?_ ?_ ?_); rfl; rfl) | (refine l_lss ?_; (refine SXl.v (OpW.lssF rfl rfl (by omega)) rfl ?_ ?_ ?_); rfl; rfl) | (refine l_mul ?_; (refine SXl.v (OpW.muli rfl rfl (by omega) (by omega)) rfl ?_ ?_ ?_); rfl; rfl) | (refine l_pick ?_; (refine SXl.v (OpW.pick rfl rfl rfl) rfl ?_ ?_ ?_); rfl; rfl) | (refine l_indexAddr ?_; (refine SXl.v (OpW.indexAddr1 (by omega) rfl rfl) rfl ?_ ?_ ?_); rfl; rfl) | refine SX.drawn (by kernel_rfl) (by kernel_rfl) ?_ | refine SXr.nil ?_ | (refine r_load ?_; (first | refine SXr.v (OpW.loadOwn (xs := ((weightsI grows h).map icell).flatten) 1 rfl rfl hwsv) rfl ?_ ?_ ?_ | refine SXr.v (OpW.load 0 rfl rfl rfl) rfl ?_ ?_ ?_); rfl; rfl) | (refine r_fieldAddr ?_; (refine SXr.v (OpW.fieldAddr rfl) rfl ?_ ?_ ?_); rfl; rfl) | (refine r_move ?_; (refine SXr.v (OpW.move rfl) rfl ?_ ?_ ?_); rfl; rfl) | (refine r_assign ?_; (refine SXr.v (OpW.assign rfl) rfl ?_ ?_ ?_); rfl; rfl) | (refine r_add ?_; (refine SXr.v (OpW.addi rfl rfl (by omega) (by omega)) rfl ?_ ?_ ?_); rfl; rfl) | (refine r_mul ?_; (refine SXr.v (OpW.muli rfl rfl (by omega) (by omega)) rfl ?_ ?_ ?_); rfl; rfl) | (refine r_indexAddr ?_; (refine SXr.v (OpW.indexAddr1 (by omega) rfl rfl) rfl ?_ ?_ ?_); rfl; rfl) | refine SQ.blockNormal ?_)
          refine SQ.round3 (k + 1) () () (by omega) (by omega) ?_ (fun w hl => by rw [← part_zero hovk]; exact hl.drop1)
          (repeat (first | exact subF_nil _ | (refine subF_cons rfl ?_) | (refine subF_consv rfl (by first | (rw [hsum]; done) | (rw [hany]; done) | (rw [hany]; rfl)) ?_)))
    · have ho : overOf A rest wt x = 0 := by unfold overOf; rw [if_neg d1, if_neg (fun hc => hm0 hc.1)]
      rw [ho] at hovk hsum hany
      have hz0 := part_at (xs := ov) (k := k) (by omega)
      rw [decide_eq_false (fun hc => hc rfl), Bool.or_false] at hany
      cases hb : anyOver ov k
      · rw [hb] at hany
        repeat (first | refine SX.seq ?_ | refine SXl.nil ?_ | refine SX.region ?_ | refine SQ.thenNormal ?_ | refine SX.block ?_ | refine SX.skip ?_ | refine SX.condF rfl ?_ | (refine SXl.no rfl rfl rfl ?_) | (refine l_load ?_; (first | refine SXl.v (OpW.load 1 rfl rfl hz0) rfl ?_ ?_ ?_ | refine SXl.v (OpW.load 0 rfl rfl rfl) rfl ?_ ?_ ?_); rfl; rfl) | (refine l_fieldAddr ?_; (refine SXl.v (OpW.fieldAddr rfl) rfl ?_ ?_ ?_); rfl; rfl) | (refine l_move ?_; (refine SXl.v (OpW.move rfl) rfl ?_ ?_ ?_); rfl; rfl) | (refine l_assign ?_; (refine SXl.v (OpW.assign rfl) rfl ?_ ?_ ?_); rfl; rfl) | (refine l_add ?_; (first | refine SXl.v (OpW.succ rfl rfl (by omega)) rfl ?_ ?_ ?_ | refine SXl.v (OpW.addi rfl rfl (by omega) (by omega)) rfl ?_ ?_ ?_); rfl; rfl) | (refine l_geq ?_; (refine SXl.v (OpW.geqF rfl rfl (by omega)) rfl ?_ ?_ ?_); rfl; rfl) | (refine l_lss ?_; (refine SXl.v (OpW.lssF rfl rfl (by omega)) rfl ?_ ?_ ?_); rfl; rfl) | (refine l_mul ?_; (refine SXl.v (OpW.muli rfl rfl (by omega) (by omega)) rfl ?_ ?_ ?_); rfl; rfl) | (refine l_neq ?_; (refine SXl.v (OpW.neqF rfl rfl (by omega)) rfl ?_ ?_ ?_); rfl; rfl) | (refine l_pick ?_; (refine SXl.v (OpW.pick rfl rfl rfl) rfl ?_ ?_ ?_); rfl; rfl) | (refine l_indexAddr ?_; (refine SXl.v (OpW.indexAddr1 (by omega) rfl rfl) rfl ?_ ?_ ?_); rfl; rfl) | refine SX.drawn (by kernel_rfl) (by kernel_rfl) ?_ | refine SXr.nil ?_ | (refine r_load ?_; (first | refine SXr.v (OpW.loadOwn (xs := ((weightsI grows h).map icell).flatten) 1 rfl rfl hwsv) rfl ?_ ?_ ?_ | refine SXr.v (OpW.load 0 rfl rfl rfl) rfl ?_ ?_ ?_); rfl; rfl) | (refine r_fieldAddr ?_; (refine SXr.v (OpW.fieldAddr rfl) rfl ?_ ?_ ?_); rfl; rfl) | (refine r_move ?_; (refine SXr.v (OpW.move rfl) rfl ?_ ?_ ?_); rfl; rfl) | (refine r_assign ?_; (refine SXr.v (OpW.assign rfl) rfl ?_ ?_ ?_); rfl; rfl) | (refine r_add ?_; (refine SXr.v (OpW.addi rfl rfl (by omega) (by omega)) rfl ?_ ?_ ?_); rfl; rfl) | (refine r_mul ?_; (refine SXr.v (OpW.muli rfl rfl (by omega) (by omega)) rfl ?_ ?_ ?_); rfl; rfl) | (refine r_indexAddr ?_; (refine SXr.v (OpW.indexAddr1 (by omega) rfl rfl) rfl ?_ ?_ ?_); rfl; rfl) | refine SQ.blockNormal ?_)
        refine SQ.round3 (k + 1) () () (by omega) (by omega) ?_ (fun w hl => by rw [← part_zero hovk]; exact hl.drop1)
        (repeat (first | exact subF_nil _ | (refine subF_cons rfl ?_) | (refine subF_consv rfl (by first | (rw [hsum]; done) | (rw [hany]; done) | (rw [hany]; rfl)) ?_)))
      · rw [hb] at hany
        repeat (first | refine SX.seq ?_ | refine SXl.nil ?_ | refine SX.region ?_ | refine SQ.thenNormal ?_ | refine SX.block ?_ | refine SX.skip ?_ | refine SX.condF rfl ?_ | (refine SXl.no rfl rfl rfl ?_) | (refine l_load ?_; (first | refine SXl.v (OpW.load 1 rfl rfl hz0) rfl ?_ ?_ ?_ | refine SXl.v (OpW.load 0 rfl rfl rfl) rfl ?_ ?_ ?_); rfl; rfl) | (refine l_fieldAddr ?_; (refine SXl.v (OpW.fieldAddr rfl) rfl ?_ ?_ ?_); rfl; rfl) | (refine l_move ?_; (refine SXl.v (OpW.move rfl) rfl ?_ ?_ ?_); rfl; rfl) | (refine l_assign ?_; (refine SXl.v (OpW.assign rfl) rfl ?_ ?_ ?_); rfl; rfl) | (refine l_add ?_; (first | refine SXl.v (OpW.succ rfl rfl (by omega)) rfl ?_ ?_ ?_ | refine SXl.v (OpW.addi rfl rfl (by omega) (by omega)) rfl ?_ ?_ ?_); rfl; rfl) | (refine l_geq ?_; (refine SXl.v (OpW.geqF rfl rfl (by omega)) rfl ?_ ?_ ?_); rfl; rfl) | (refine l_lss ?_; (refine SXl.v (OpW.lssF rfl rfl (by omega)) rfl ?_ ?_ ?_); rfl; rfl) | (refine l_mul ?_; (refine SXl.v (OpW.muli rfl rfl (by omega) (by omega)) rfl ?_ ?_ ?_); rfl; rfl) | (refine l_pick ?_; (refine SXl.v (OpW.pick rfl rfl rfl) rfl ?_ ?_ ?_); rfl; rfl) | (refine l_indexAddr ?_; (refine SXl.v (OpW.indexAddr1 (by omega) rfl rfl) rfl ?_ ?_ ?_); rfl; rfl) | refine SX.drawn (by kernel_rfl) (by kernel_rfl) ?_ | refine SXr.nil ?_ | (refine r_load ?_; (first | refine SXr.v (OpW.loadOwn (xs := ((weightsI grows h).map icell).flatten) 1 rfl rfl hwsv) rfl ?_ ?_ ?_ | refine SXr.v (OpW.load 0 rfl rfl rfl) rfl ?_ ?_ ?_); rfl; rfl) | (refine r_fieldAddr ?_; (refine SXr.v (OpW.fieldAddr rfl) rfl ?_ ?_ ?_); rfl; rfl) | (refine r_move ?_; (refine SXr.v (OpW.move rfl) rfl ?_ ?_ ?_); rfl; rfl) | (refine r_assign ?_; (refine SXr.v (OpW.assign rfl) rfl ?_ ?_ ?_); rfl; rfl) | (refine r_add ?_; (refine SXr.v (OpW.addi rfl rfl (by omega) (by omega)) rfl ?_ ?_ ?_); rfl; rfl) | (refine r_mul ?_; (refine SXr.v (OpW.muli rfl rfl (by omega) (by omega)) rfl ?_ ?_ ?_); rfl; rfl) | (refine r_indexAddr ?_; (refine SXr.v (OpW.indexAddr1 (by omega) rfl rfl) rfl ?_ ?_ ?_); rfl; rfl) | refine SQ.blockNormal ?_)
        refine SQ.round3 (k + 1) () () (by omega) (by omega) ?_ (fun w hl => by rw [← part_zero hovk]; exact hl.drop1)
        (repeat (first | exact subF_nil _ | (refine subF_cons rfl ?_) | (refine subF_consv rfl (by first | (rw [hsum]; done) | (rw [hany]; done) | (rw [hany]; rfl)) ?_)))
  obtain rfl : k = (placesI h).length := by omega
  have t1 : ov.take (placesI h).length = ov := List.take_of_length_le (by omega)
  have t2 : anyOver ov (placesI h).length = !(ov.all fun o => decide (o = 0)) := by rw [← hovl]; exact anyOver_all ov
  have t3 : part ov (placesI h).length = ov.map (Value.int .i64) := by rw [← hovl]; exact part_all ov
  rw [t1, t2, t3]
  clear t1 t2 t3
  have hwok := ((hl).weights grows).1
  have hshl : (shares rest (weightsI grows h)).length = (placesI h).length := by
    unfold shares
    rw [show wOk (weightsI grows h) = true from hwok, if_pos rfl, sharesTo_length, hwl]
  have hshg : ∀ k, k < (placesI h).length → (shares rest (weightsI grows h))[k]? = some (shareOf rest (weightsI grows h) k) := fun k hk => by
    unfold shares
    rw [show wOk (weightsI grows h) = true from hwok, if_pos rfl, hrs]
    unfold sharesTo
    rw [List.getElem?_map, List.getElem?_range (by omega)]
    rfl
  have hvl : (newVals grows (weightsI grows h).sum rest h).length = (placesI h).length := by rw [newVals_len, places_len]
  have hsw := hall.symm
  have hwg2 : freeW grows h = weightsI grows h := freeW_items grows h
  have hSH := fun (w' : World) (h' : IntSlice (fun k => w.heap.size ≤ k) w' (some ⟨g3, 0, none⟩) (weightsI grows h)) => sshares_any rest (weightsI grows h) (some ⟨g3, 0, none⟩) c3 _ w' (by omega) h'
  generalize hSL : shares rest (weightsI grows h) = SL at *
  repeat (first | refine SX.seq ?_ | refine SXl.nil ?_ | refine SX.region ?_ | refine SQ.thenNormal ?_ | refine SX.condF rfl ?_ | (refine l_move ?_; (refine SXl.v (OpW.move rfl) rfl ?_ ?_ ?_); rfl; rfl) | (refine l_len ?_; (refine SXl.v (OpW.len rfl) rfl ?_ ?_ ?_); rfl; rfl) | (refine l_lss ?_; (refine SXl.v (OpW.lssF rfl rfl (by omega)) rfl ?_ ?_ ?_); rfl; rfl) | refine SX.exit ?_ | refine SQ.thenExit ?_ | refine SQ.blockExit ?_)
  refine l_call ?_
  refine SXl.calln1 (v := fun q => .slice q.a SL.length q.c) (F1 := ownRes icell 3 1 SL) rfl rfl rfl (fun w' hl' => (hSH w' (lineO_slice (p := (weightsI grows h, (some ⟨g3, 0, none⟩, c3))) hl'.owns (.tail _ (.head _)))).mono fun _ _ h => new_own h) (fun qs => ?_)
  refine SXl.knowI (fun w' hl' => own_addr (hl'.res _ (.head _)).1 (by omega)) (fun ⟨gq, hgq⟩ => ?_)
  obtain ⟨qa, qc, qlo⟩ := qs
  simp only at hgq
  subst hgq
  generalize hvs : newVals grows (weightsI grows h).sum rest h = vals at *
  repeat (first | refine SX.seq ?_ | refine SXl.nil ?_ | refine SX.region ?_ | refine SQ.thenNormal ?_ | refine SX.block ?_ | (refine l_assign ?_; (refine SXl.v (OpW.assign rfl) rfl ?_ ?_ ?_); rfl; rfl))
  refine SX.loop3 (fun (k : Nat) (_ _ : Unit) => k ≤ (placesI h).length) (fun k _ _ => (placesI h).length - k) (fun k _ _ => ⟨go, ov.map (Value.int .i64), 3⟩ :: [⟨gr, [.slice la i lc, .int .i64 gap, .int .i64 inner, .bool grows, .slice (some ⟨gh, 0, none⟩) i ch, .slice (some ⟨gs, 0, none⟩) i cs, .int .i64 (passes + 1 : Nat)], 124⟩, ⟨gh, (heldL (applyV (vals.take k) h)).map Value.bool ++ sh, 4⟩, ⟨gs, (heldSizes (applyV (vals.take k) h)).map (Value.int .i64) ++ ss, 3⟩]) (fun _ _ _ => [⟨.slice (some ⟨g4, 0, none⟩) (placesI h).length c4, 3, 1, (placesI h).length, ((placesI h).map icell).flatten⟩, ⟨.slice (some ⟨g3, 0, none⟩) (weightsI grows h).length c3, 3, 1, (weightsI grows h).length, ((weightsI grows h).map icell).flatten⟩]) (fun _ _ _ => [ownRes icell 3 1 SL ⟨some ⟨gq, 0, none⟩, qc, qlo⟩]) (fun k _ _ => [(0, .pointer (some ⟨gr, 0, none⟩)), (4, .slice (some ⟨g4, 0, none⟩) (placesI h).length c4), (8, .slice (some ⟨go, 0, none⟩) (placesI h).length (placesI h).length), (9, .int .i64 ov.sum), (10, .bool (!(ov.all fun o => decide (o = 0)))), (14, .slice (some ⟨gq, 0, none⟩) SL.length qc), (15, .int .i64 k)]) 0 () () (Nat.zero_le _) ?_ (fun _ hl => by rw [List.take_zero, applyV_nil]; exact hl) ?_
  · (repeat (first | exact subF_nil _ | (refine subF_cons rfl ?_) | (refine subF_consv rfl (by rfl) ?_)))
  rintro k _ _ hk
  by_cases hkn : k < (placesI h).length
  rotate_left
  · obtain rfl : k = (placesI h).length := by omega
    have e1 : vals.take (placesI h).length = vals := List.take_of_length_le (by omega)
    rw [e1, ← hpass]
    repeat (first | refine SX.seq ?_ | refine SXl.nil ?_ | refine SX.region ?_ | refine SQ.thenNormal ?_ | refine SX.condF rfl ?_ | (refine l_move ?_; (refine SXl.v (OpW.move rfl) rfl ?_ ?_ ?_); rfl; rfl) | (refine l_assign ?_; (refine SXl.v (OpW.assign rfl) rfl ?_ ?_ ?_); rfl; rfl) | (refine l_len ?_; (refine SXl.v (OpW.len rfl) rfl ?_ ?_ ?_); rfl; rfl) | (refine l_lss ?_; (refine SXl.v (OpW.lssF rfl rfl (by omega)) rfl ?_ ?_ ?_); rfl; rfl) | refine SX.ret ?_ | refine SX.exit ?_ | refine SQ.thenExit ?_ | refine SQ.blockExit ?_)
    refine SQ.body1 rfl rfl (fun w' hl => ⟨rfl, hl.mod, fun b hb => (hl.blk b (.tail _ hb)).2⟩)
  obtain ⟨j, hj⟩ : ∃ j, (freeIx h)[k]? = some j := ⟨_, List.getElem?_eq_getElem (by unfold placesI at hkn; rw [List.length_map] at hkn; exact hkn)⟩
  obtain ⟨x, hx, hxi⟩ := freeIx_get hj
  have hpl := places_get hj
  have hovk := hovg k x hxi
  have hplv : ((placesI h).map icell).flatten[0 + k]? = some (.int .i64 (j : Int)) := by rw [ints_flat, Nat.zero_add, List.getElem?_map, hpl]; rfl
  have hjm := (List.getElem?_eq_some_iff.1 hx).1
  obtain ⟨b1, o1, x1, e1, hR1, hb1, hxk, hc1⟩ := hS.get (k := j) (by omega)
  obtain rfl : x = x1 := Option.some.inj ((hit hx).symm.trans hxk)
  subst e1
  have hright := hl.free (List.mem_of_getElem? hxi)
  have hovc : (ov.map (Value.int .i64))[0 + k]? = some (.int .i64 (overOf (weightsI grows h).sum rest (weightOf grows x) x)) := by rw [Nat.zero_add, List.getElem?_map, hovk]; rfl
  have hfl : (applyV (vals.take k) h).length = i := by
    have := congrArg List.length (applyV_fst (vals.take k) h)
    rw [List.length_map, List.length_map] at this
    omega
  have hjl : j < (applyV (vals.take k) h).length := by omega
  have hap := fun (v : Option Int) (hv : vals[k]? = some v) => applyV_next h vals 0 k j x v hj hv hxi
  simp only [Nat.sub_zero] at hap
  have c0 := hc1 0 _ rfl
  have c1 := hc1 1 _ rfl
  cases hall0 : (ov.all fun o => decide (o = 0))
  rotate_left
  · rw [hall0, if_pos rfl] at hvals
    have hvk : vals[k]? = some (some (clampedL (x.base + shareOf rest (weightsI grows h) k))) := by
      rw [hvals, shareVals_at hsw hxi, hwg2]
    obtain ⟨a1, a2⟩ := hap _ hvk
    have hsk := hshg k hkn
    have hsb := shareOf_bd k hrb hwok
    change -144115188075855872 ≤ shareOf rest (weightsI grows h) k ∧ shareOf rest (weightsI grows h) k ≤ 144115188075855872 at hsb
    have hxb := hright.base
    repeat (first | refine SX.seq ?_ | refine SXl.nil ?_ | refine SX.region ?_ | refine SQ.thenNormal ?_ | refine SX.block ?_ | refine SX.skip ?_ | refine SX.condT rfl ?_ | (refine l_load ?_; (refine SXl.v (OpW.loadOwn (xs := ((placesI h).map icell).flatten) 0 rfl rfl hplv) rfl ?_ ?_ ?_); rfl; rfl) | (refine l_move ?_; (refine SXl.v (OpW.move rfl) rfl ?_ ?_ ?_); rfl; rfl) | (refine l_assign ?_; (refine SXl.v (OpW.assign rfl) rfl ?_ ?_ ?_); rfl; rfl) | (refine l_len ?_; (refine SXl.v (OpW.len rfl) rfl ?_ ?_ ?_); rfl; rfl) | (refine l_lss ?_; (refine SXl.v (OpW.lssT rfl rfl (by omega)) rfl ?_ ?_ ?_); rfl; rfl) | (refine l_not ?_; (refine SXl.v (OpW.not rfl) rfl ?_ ?_ ?_); rfl; rfl) | (refine l_indexAddr ?_; (refine SXl.v (OpW.indexAddr1 (by omega) rfl rfl) rfl ?_ ?_ ?_); rfl; rfl))
    refine SX.drawnTail 19 (by kernel_rfl) (by kernel_rfl) (by kernel_rfl) ?_
    repeat (first | (refine SXr.tail ?_) | (refine l_indexAddr ?_; (refine SXl.v ((OpW.indexAddr1 (i := j) (by omega) rfl rfl)) rfl ?_ ?_ ?_); rfl; rfl) | (refine r_load ?_; (first | refine SXr.v (OpW.loadOld rfl c0 (hR _ hR1)) rfl ?_ ?_ ?_ | refine SXr.v (OpW.loadLoc rfl (fun w' hl' => line_cell1 (hl'.res _ (.head _)).1 hsk)) rfl ?_ ?_ ?_ | refine SXr.v (OpW.load 1 rfl rfl rfl) rfl ?_ ?_ ?_); rfl; rfl) | (refine r_indexAddr ?_; (first | refine SXr.v ((OpW.indexAddr (i := j) (by omega) rfl rfl)) rfl ?_ ?_ ?_ | refine SXr.v (OpW.indexAddr1 (by omega) rfl rfl) rfl ?_ ?_ ?_); rfl; rfl) | (refine r_call ?_; (refine SXr.v (OpW.calls rfl (fun w _ => sclamped_any _ _)) rfl ?_ ?_ ?_); rfl; rfl) | (refine r_fieldAddr ?_; (refine SXr.v (OpW.fieldAddr rfl) rfl ?_ ?_ ?_); rfl; rfl) | (refine r_move ?_; (refine SXr.v (OpW.move rfl) rfl ?_ ?_ ?_); rfl; rfl) | (refine r_nilCheck ?_; (refine SXr.v (OpW.nilCheck rfl) rfl ?_ ?_ ?_); rfl; rfl) | (refine r_add ?_; (refine SXr.v (OpW.addi rfl rfl (by omega) (by omega)) rfl ?_ ?_ ?_); rfl; rfl))
    refine l_store ?_
    refine SXl.store 3 rfl rfl rfl rfl (by simp [sizes_len]; omega) rfl rfl ?_
    simp only [List.set_cons_zero, List.set_cons_succ]
    rw [size_set hjl x (clampedL (x.base + shareOf rest (weightsI grows h) k))]
    repeat (first | refine SXl.nil ?_ | refine SX.region ?_ | refine SQ.thenNormal ?_ | (refine l_indexAddr ?_; (refine SXl.v ((OpW.indexAddr1 (i := j) (by omega) rfl rfl)) rfl ?_ ?_ ?_); rfl; rfl) | (refine l_load ?_; (refine SXl.v (OpW.load 1 rfl rfl rfl) rfl ?_ ?_ ?_); rfl; rfl) | (refine l_fieldAddr ?_; (refine SXl.v (OpW.fieldAddr rfl) rfl ?_ ?_ ?_); rfl; rfl) | (refine l_move ?_; (refine SXl.v (OpW.move rfl) rfl ?_ ?_ ?_); rfl; rfl) | (refine l_nilCheck ?_; (refine SXl.v (OpW.nilCheck rfl) rfl ?_ ?_ ?_); rfl; rfl))
    refine l_store ?_
    refine SXl.store 2 rfl rfl rfl rfl (by simp [heldL_len]; omega) rfl rfl ?_
    simp only [List.set_cons_zero, List.set_cons_succ]
    rw [held_set hjl x (clampedL (x.base + shareOf rest (weightsI grows h) k))]
    repeat (first | refine SXl.nil ?_ | refine SX.region ?_ | refine SQ.thenNormal ?_ | (refine l_move ?_; (refine SXl.v (OpW.move rfl) rfl ?_ ?_ ?_); rfl; rfl) | (refine l_assign ?_; (refine SXl.v (OpW.assign rfl) rfl ?_ ?_ ?_); rfl; rfl) | (refine l_add ?_; (refine SXl.v (OpW.succ rfl rfl (by omega)) rfl ?_ ?_ ?_); rfl; rfl) | refine SQ.blockNormal ?_)
    refine SQ.round3 (k + 1) () () (by omega) (by omega) ?_ (fun w hl => by rw [a1]; exact hl)
    (repeat (first | exact subF_nil _ | (refine subF_cons rfl ?_) | (refine subF_consv rfl (by rfl) ?_)))
  · rw [hall0, if_neg Bool.false_ne_true] at hvals
    have hvk0 : vals[k]? = some (holdVal grows (weightsI grows h).sum rest ov.sum x) := by rw [hvals, List.getElem?_map, hxi]; rfl
    have hmo : overOf (weightsI grows h).sum rest (weightOf grows x) x < 0 → 0 ≤ x.most := fun ho => by
      unfold overOf at ho
      split at ho
      · omega
      · split at ho
        · rename_i hc; exact hc.1
        · omega
    unfold holdVal at hvk0
    generalize overOf (weightsI grows h).sum rest (weightOf grows x) x = o at *
    by_cases p1 : 0 < o
    · by_cases p2 : 0 ≤ ov.sum
      · have hvk : vals[k]? = some (some x.least) := by rw [hvk0, if_pos ⟨p1, p2⟩]
        obtain ⟨a1, a2⟩ := hap _ hvk
        repeat (first | refine SX.seq ?_ | refine SXl.nil ?_ | refine SX.region ?_ | refine SQ.thenNormal ?_ | refine SX.block ?_ | refine SX.skip ?_ | refine SX.condT rfl ?_ | refine SX.condF rfl ?_ | (refine l_load ?_; (first | refine SXl.v (OpW.loadOwn (xs := ((placesI h).map icell).flatten) 0 rfl rfl hplv) rfl ?_ ?_ ?_ | refine SXl.v (OpW.load 0 rfl rfl hovc) rfl ?_ ?_ ?_); rfl; rfl) | (refine l_move ?_; (refine SXl.v (OpW.move rfl) rfl ?_ ?_ ?_); rfl; rfl) | (refine l_assign ?_; (refine SXl.v (OpW.assign rfl) rfl ?_ ?_ ?_); rfl; rfl) | (refine l_len ?_; (refine SXl.v (OpW.len rfl) rfl ?_ ?_ ?_); rfl; rfl) | (refine l_geq ?_; (refine SXl.v (OpW.geqT rfl rfl (by omega)) rfl ?_ ?_ ?_); rfl; rfl) | (refine l_gtr ?_; (refine SXl.v (OpW.gtrT rfl rfl (by omega)) rfl ?_ ?_ ?_); rfl; rfl) | (refine l_lss ?_; (refine SXl.v (OpW.lssT rfl rfl (by omega)) rfl ?_ ?_ ?_); rfl; rfl) | (refine l_not ?_; (refine SXl.v (OpW.not rfl) rfl ?_ ?_ ?_); rfl; rfl) | (refine l_pick ?_; (refine SXl.v (OpW.pick rfl rfl rfl) rfl ?_ ?_ ?_); rfl; rfl) | (refine l_indexAddr ?_; (refine SXl.v (OpW.indexAddr1 (by omega) rfl rfl) rfl ?_ ?_ ?_); rfl; rfl))
        refine SX.drawnTail 13 (by kernel_rfl) (by kernel_rfl) (by kernel_rfl) ?_
        repeat (first | (refine SXr.tail ?_) | (refine l_indexAddr ?_; (refine SXl.v ((OpW.indexAddr1 (i := j) (by omega) rfl rfl)) rfl ?_ ?_ ?_); rfl; rfl) | (refine r_load ?_; (first | refine SXr.v (OpW.loadOld rfl c1 (hR _ hR1)) rfl ?_ ?_ ?_ | refine SXr.v (OpW.load 1 rfl rfl rfl) rfl ?_ ?_ ?_); rfl; rfl) | (refine r_indexAddr ?_; (refine SXr.v ((OpW.indexAddr (i := j) (by omega) rfl rfl)) rfl ?_ ?_ ?_); rfl; rfl) | (refine r_fieldAddr ?_; (refine SXr.v (OpW.fieldAddr rfl) rfl ?_ ?_ ?_); rfl; rfl) | (refine r_move ?_; (refine SXr.v (OpW.move rfl) rfl ?_ ?_ ?_); rfl; rfl) | (refine r_nilCheck ?_; (refine SXr.v (OpW.nilCheck rfl) rfl ?_ ?_ ?_); rfl; rfl))
        refine l_store ?_
        refine SXl.store 3 rfl rfl rfl rfl (by simp [sizes_len]; omega) rfl rfl ?_
        simp only [List.set_cons_zero, List.set_cons_succ]
        rw [size_set hjl x x.least]
        repeat (first | refine SXl.nil ?_ | refine SX.region ?_ | refine SQ.thenNormal ?_ | (refine l_indexAddr ?_; (refine SXl.v ((OpW.indexAddr1 (i := j) (by omega) rfl rfl)) rfl ?_ ?_ ?_); rfl; rfl) | (refine l_load ?_; (refine SXl.v (OpW.load 1 rfl rfl rfl) rfl ?_ ?_ ?_); rfl; rfl) | (refine l_fieldAddr ?_; (refine SXl.v (OpW.fieldAddr rfl) rfl ?_ ?_ ?_); rfl; rfl) | (refine l_move ?_; (refine SXl.v (OpW.move rfl) rfl ?_ ?_ ?_); rfl; rfl) | (refine l_nilCheck ?_; (refine SXl.v (OpW.nilCheck rfl) rfl ?_ ?_ ?_); rfl; rfl))
        refine l_store ?_
        refine SXl.store 2 rfl rfl rfl rfl (by simp [heldL_len]; omega) rfl rfl ?_
        simp only [List.set_cons_zero, List.set_cons_succ]
        rw [held_set hjl x x.least]
        repeat (first | refine SXl.nil ?_ | refine SX.region ?_ | refine SQ.thenNormal ?_ | (refine l_move ?_; (refine SXl.v (OpW.move rfl) rfl ?_ ?_ ?_); rfl; rfl) | (refine l_assign ?_; (refine SXl.v (OpW.assign rfl) rfl ?_ ?_ ?_); rfl; rfl) | (refine l_add ?_; (refine SXl.v (OpW.succ rfl rfl (by omega)) rfl ?_ ?_ ?_); rfl; rfl) | refine SQ.blockNormal ?_)
        refine SQ.round3 (k + 1) () () (by omega) (by omega) ?_ (fun w hl => by rw [a1]; exact hl)
        (repeat (first | exact subF_nil _ | (refine subF_cons rfl ?_) | (refine subF_consv rfl (by rfl) ?_)))
      · have hvk : vals[k]? = some none := by rw [hvk0, if_neg (by omega), if_neg (by omega)]
        obtain ⟨a1, a2⟩ := hap _ hvk
        rw [set_same a2] at a1
        repeat (first | refine SX.seq ?_ | refine SXl.nil ?_ | refine SX.region ?_ | refine SQ.thenNormal ?_ | refine SX.block ?_ | refine SX.skip ?_ | refine SX.condT rfl ?_ | refine SX.condF rfl ?_ | (refine SXl.no rfl rfl rfl ?_) | (refine l_load ?_; (first | refine SXl.v (OpW.loadOwn (xs := ((placesI h).map icell).flatten) 0 rfl rfl hplv) rfl ?_ ?_ ?_ | refine SXl.v (OpW.load 0 rfl rfl hovc) rfl ?_ ?_ ?_); rfl; rfl) | (refine l_move ?_; (refine SXl.v (OpW.move rfl) rfl ?_ ?_ ?_); rfl; rfl) | (refine l_assign ?_; (refine SXl.v (OpW.assign rfl) rfl ?_ ?_ ?_); rfl; rfl) | (refine l_len ?_; (refine SXl.v (OpW.len rfl) rfl ?_ ?_ ?_); rfl; rfl) | (refine l_add ?_; (refine SXl.v (OpW.succ rfl rfl (by omega)) rfl ?_ ?_ ?_); rfl; rfl) | (refine l_geq ?_; (refine SXl.v (OpW.geqF rfl rfl (by omega)) rfl ?_ ?_ ?_); rfl; rfl) | (refine l_gtr ?_; (refine SXl.v (OpW.gtrT rfl rfl (by omega)) rfl ?_ ?_ ?_); rfl; rfl) | (refine l_lss ?_; (first | refine SXl.v (OpW.lssT rfl rfl (by omega)) rfl ?_ ?_ ?_ | refine SXl.v (OpW.lssF rfl rfl (by omega)) rfl ?_ ?_ ?_); rfl; rfl) | (refine l_not ?_; (refine SXl.v (OpW.not rfl) rfl ?_ ?_ ?_); rfl; rfl) | (refine l_pick ?_; (refine SXl.v (OpW.pick rfl rfl rfl) rfl ?_ ?_ ?_); rfl; rfl) | (refine l_indexAddr ?_; (refine SXl.v (OpW.indexAddr1 (by omega) rfl rfl) rfl ?_ ?_ ?_); rfl; rfl) | refine SQ.blockNormal ?_)
        refine SQ.round3 (k + 1) () () (by omega) (by omega) ?_ (fun w hl => by rw [a1]; exact hl)
        (repeat (first | exact subF_nil _ | (refine subF_cons rfl ?_) | (refine subF_consv rfl (by rfl) ?_)))
    · by_cases p3 : o < 0
      · by_cases p4 : ov.sum ≤ 0
        · have hvk : vals[k]? = some (some (upperOf x)) := by rw [hvk0, if_neg (by omega), if_pos ⟨p3, p4⟩]
          obtain ⟨a1, a2⟩ := hap _ hvk
          repeat (first | refine SX.seq ?_ | refine SXl.nil ?_ | refine SX.region ?_ | refine SQ.thenNormal ?_ | refine SX.block ?_ | refine SX.skip ?_ | refine SX.condT rfl ?_ | refine SX.condF rfl ?_ | (refine SXl.no rfl rfl rfl ?_) | (refine l_load ?_; (first | refine SXl.v (OpW.loadOwn (xs := ((placesI h).map icell).flatten) 0 rfl rfl hplv) rfl ?_ ?_ ?_ | refine SXl.v (OpW.load 0 rfl rfl hovc) rfl ?_ ?_ ?_); rfl; rfl) | (refine l_move ?_; (refine SXl.v (OpW.move rfl) rfl ?_ ?_ ?_); rfl; rfl) | (refine l_assign ?_; (refine SXl.v (OpW.assign rfl) rfl ?_ ?_ ?_); rfl; rfl) | (refine l_len ?_; (refine SXl.v (OpW.len rfl) rfl ?_ ?_ ?_); rfl; rfl) | (refine l_gtr ?_; (refine SXl.v (OpW.gtrF rfl rfl (by omega)) rfl ?_ ?_ ?_); rfl; rfl) | (refine l_leq ?_; (refine SXl.v (OpW.leqT rfl rfl (by omega)) rfl ?_ ?_ ?_); rfl; rfl) | (refine l_lss ?_; (refine SXl.v (OpW.lssT rfl rfl (by omega)) rfl ?_ ?_ ?_); rfl; rfl) | (refine l_not ?_; (refine SXl.v (OpW.not rfl) rfl ?_ ?_ ?_); rfl; rfl) | (refine l_pick ?_; (refine SXl.v (OpW.pick rfl rfl rfl) rfl ?_ ?_ ?_); rfl; rfl) | (refine l_indexAddr ?_; (refine SXl.v (OpW.indexAddr1 (by omega) rfl rfl) rfl ?_ ?_ ?_); rfl; rfl))
          refine SX.drawnTail 13 (by kernel_rfl) (by kernel_rfl) (by kernel_rfl) ?_
          repeat (first | (refine SXr.tail ?_) | (refine l_indexAddr ?_; (refine SXl.v ((OpW.indexAddr1 (i := j) (by omega) rfl rfl)) rfl ?_ ?_ ?_); rfl; rfl) | (refine r_load ?_; (first | refine SXr.v (OpW.loadRowOld rfl hc1 (Item.cells_len x) (Nat.succ_pos _) (hR _ hR1)) rfl ?_ ?_ ?_ | refine SXr.v (OpW.load 1 rfl rfl rfl) rfl ?_ ?_ ?_); rfl; rfl) | (refine r_call ?_; (refine SXr.v (OpW.call rfl (fun w hl => l13Most_any x _ (hmo p3))) rfl ?_ ?_ ?_); rfl; rfl) | (refine r_indexAddr ?_; (refine SXr.v ((OpW.indexAddr (i := j) (by omega) rfl rfl)) rfl ?_ ?_ ?_); rfl; rfl) | (refine r_fieldAddr ?_; (refine SXr.v (OpW.fieldAddr rfl) rfl ?_ ?_ ?_); rfl; rfl) | (refine r_move ?_; (refine SXr.v (OpW.move rfl) rfl ?_ ?_ ?_); rfl; rfl) | (refine r_nilCheck ?_; (refine SXr.v (OpW.nilCheck rfl) rfl ?_ ?_ ?_); rfl; rfl))
          refine l_store ?_
          refine SXl.store 3 rfl rfl rfl rfl (by simp [sizes_len]; omega) rfl rfl ?_
          simp only [List.set_cons_zero, List.set_cons_succ]
          rw [size_set hjl x (upperOf x)]
          repeat (first | refine SXl.nil ?_ | refine SX.region ?_ | refine SQ.thenNormal ?_ | (refine l_indexAddr ?_; (refine SXl.v ((OpW.indexAddr1 (i := j) (by omega) rfl rfl)) rfl ?_ ?_ ?_); rfl; rfl) | (refine l_load ?_; (refine SXl.v (OpW.load 1 rfl rfl rfl) rfl ?_ ?_ ?_); rfl; rfl) | (refine l_fieldAddr ?_; (refine SXl.v (OpW.fieldAddr rfl) rfl ?_ ?_ ?_); rfl; rfl) | (refine l_move ?_; (refine SXl.v (OpW.move rfl) rfl ?_ ?_ ?_); rfl; rfl) | (refine l_nilCheck ?_; (refine SXl.v (OpW.nilCheck rfl) rfl ?_ ?_ ?_); rfl; rfl))
          refine l_store ?_
          refine SXl.store 2 rfl rfl rfl rfl (by simp [heldL_len]; omega) rfl rfl ?_
          simp only [List.set_cons_zero, List.set_cons_succ]
          rw [held_set hjl x (upperOf x)]
          repeat (first | refine SXl.nil ?_ | refine SX.region ?_ | refine SQ.thenNormal ?_ | (refine l_move ?_; (refine SXl.v (OpW.move rfl) rfl ?_ ?_ ?_); rfl; rfl) | (refine l_assign ?_; (refine SXl.v (OpW.assign rfl) rfl ?_ ?_ ?_); rfl; rfl) | (refine l_add ?_; (refine SXl.v (OpW.succ rfl rfl (by omega)) rfl ?_ ?_ ?_); rfl; rfl) | refine SQ.blockNormal ?_)
          refine SQ.round3 (k + 1) () () (by omega) (by omega) ?_ (fun w hl => by rw [a1]; exact hl)
          (repeat (first | exact subF_nil _ | (refine subF_cons rfl ?_) | (refine subF_consv rfl (by rfl) ?_)))
        · have hvk : vals[k]? = some none := by rw [hvk0, if_neg (by omega), if_neg (by omega)]
          obtain ⟨a1, a2⟩ := hap _ hvk
          rw [set_same a2] at a1
          repeat (first | refine SX.seq ?_ | refine SXl.nil ?_ | refine SX.region ?_ | refine SQ.thenNormal ?_ | refine SX.block ?_ | refine SX.skip ?_ | refine SX.condT rfl ?_ | refine SX.condF rfl ?_ | (refine SXl.no rfl rfl rfl ?_) | (refine l_load ?_; (first | refine SXl.v (OpW.loadOwn (xs := ((placesI h).map icell).flatten) 0 rfl rfl hplv) rfl ?_ ?_ ?_ | refine SXl.v (OpW.load 0 rfl rfl hovc) rfl ?_ ?_ ?_); rfl; rfl) | (refine l_move ?_; (refine SXl.v (OpW.move rfl) rfl ?_ ?_ ?_); rfl; rfl) | (refine l_assign ?_; (refine SXl.v (OpW.assign rfl) rfl ?_ ?_ ?_); rfl; rfl) | (refine l_len ?_; (refine SXl.v (OpW.len rfl) rfl ?_ ?_ ?_); rfl; rfl) | (refine l_add ?_; (refine SXl.v (OpW.succ rfl rfl (by omega)) rfl ?_ ?_ ?_); rfl; rfl) | (refine l_gtr ?_; (refine SXl.v (OpW.gtrF rfl rfl (by omega)) rfl ?_ ?_ ?_); rfl; rfl) | (refine l_leq ?_; (refine SXl.v (OpW.leqF rfl rfl (by omega)) rfl ?_ ?_ ?_); rfl; rfl) | (refine l_lss ?_; (refine SXl.v (OpW.lssT rfl rfl (by omega)) rfl ?_ ?_ ?_); rfl; rfl) | (refine l_not ?_; (refine SXl.v (OpW.not rfl) rfl ?_ ?_ ?_); rfl; rfl) | (refine l_pick ?_; (refine SXl.v (OpW.pick rfl rfl rfl) rfl ?_ ?_ ?_); rfl; rfl) | (refine l_indexAddr ?_; (refine SXl.v (OpW.indexAddr1 (by omega) rfl rfl) rfl ?_ ?_ ?_); rfl; rfl) | refine SQ.blockNormal ?_)
          refine SQ.round3 (k + 1) () () (by omega) (by omega) ?_ (fun w hl => by rw [a1]; exact hl)
          (repeat (first | exact subF_nil _ | (refine subF_cons rfl ?_) | (refine subF_consv rfl (by rfl) ?_)))
      · have hvk : vals[k]? = some none := by rw [hvk0, if_neg (by omega), if_neg (by omega)]
        obtain ⟨a1, a2⟩ := hap _ hvk
        rw [set_same a2] at a1
        repeat (first | refine SX.seq ?_ | refine SXl.nil ?_ | refine SX.region ?_ | refine SQ.thenNormal ?_ | refine SX.block ?_ | refine SX.skip ?_ | refine SX.condT rfl ?_ | refine SX.condF rfl ?_ | (refine SXl.no rfl rfl rfl ?_) | (refine l_load ?_; (first | refine SXl.v (OpW.loadOwn (xs := ((placesI h).map icell).flatten) 0 rfl rfl hplv) rfl ?_ ?_ ?_ | refine SXl.v (OpW.load 0 rfl rfl hovc) rfl ?_ ?_ ?_); rfl; rfl) | (refine l_move ?_; (refine SXl.v (OpW.move rfl) rfl ?_ ?_ ?_); rfl; rfl) | (refine l_assign ?_; (refine SXl.v (OpW.assign rfl) rfl ?_ ?_ ?_); rfl; rfl) | (refine l_len ?_; (refine SXl.v (OpW.len rfl) rfl ?_ ?_ ?_); rfl; rfl) | (refine l_add ?_; (refine SXl.v (OpW.succ rfl rfl (by omega)) rfl ?_ ?_ ?_); rfl; rfl) | (refine l_gtr ?_; (refine SXl.v (OpW.gtrF rfl rfl (by omega)) rfl ?_ ?_ ?_); rfl; rfl) | (refine l_lss ?_; (first | refine SXl.v (OpW.lssT rfl rfl (by omega)) rfl ?_ ?_ ?_ | refine SXl.v (OpW.lssF rfl rfl (by omega)) rfl ?_ ?_ ?_); rfl; rfl) | (refine l_not ?_; (refine SXl.v (OpW.not rfl) rfl ?_ ?_ ?_); rfl; rfl) | (refine l_pick ?_; (refine SXl.v (OpW.pick rfl rfl rfl) rfl ?_ ?_ ?_); rfl; rfl) | (refine l_indexAddr ?_; (refine SXl.v (OpW.indexAddr1 (by omega) rfl rfl) rfl ?_ ?_ ?_); rfl; rfl) | refine SQ.blockNormal ?_)
        refine SQ.round3 (k + 1) () () (by omega) (by omega) ?_ (fun w hl => by rw [a1]; exact hl)
        (repeat (first | exact subF_nil _ | (refine subF_cons rfl ?_) | (refine subF_consv rfl (by rfl) ?_)))
end Go.Proofs.Ytdohglcjjlmhhaa
namespace Go.Proofs.Ytdohglcjjlmhhaa
open Go.RowKit
set_option linter.unusedVariables false
set_option linter.unusedSimpArgs false

end Go.Proofs.Ytdohglcjjlmhhaa
namespace Go.Proofs.Ytdohglcjjlmhhaa
open Go.RowKit

end Go.Proofs.Ytdohglcjjlmhhaa
namespace Go.Proofs.Ytdohglcjjlmhhaa
open Go.RowKit

structure Sides where
  left : Val
  top : Val
  right : Val
  bottom : Val
  start : Val
  stop : Val
  deriving DecidableEq, Inhabited
def Sides.cells (x : Sides) : List Value := [.int .i64 x.left.kind, .int .i64 x.left.n, .int .i64 x.top.kind, .int .i64 x.top.n, .int .i64 x.right.kind, .int .i64 x.right.n, .int .i64 x.bottom.kind, .int .i64 x.bottom.n, .int .i64 x.start.kind, .int .i64 x.start.n, .int .i64 x.stop.kind, .int .i64 x.stop.n]

structure Edges where
  left : Int
  top : Int
  right : Int
  bottom : Int
  deriving DecidableEq, Inhabited
def Edges.cells (x : Edges) : List Value := [.int .i64 x.left, .int .i64 x.top, .int .i64 x.right, .int .i64 x.bottom]

structure Style where
  dir : Int
  wrap : Int
  justify : Int
  items : Int
  self : Int
  content : Int
  apart : Bool
  hidden : Bool
  order : Int
  grow : Int
  shrink : Int
  basis : Val
  width : Val
  height : Val
  minWidth : Val
  minHeight : Val
  maxWidth : Val
  maxHeight : Val
  ratio : Int
  margin : Sides
  inset : Sides
  pad : Edges
  border : Edges
  rowGap : Int
  colGap : Int
  deriving DecidableEq, Inhabited
def Style.cells (x : Style) : List Value := [.int .i64 x.dir, .int .i64 x.wrap, .int .i64 x.justify, .int .i64 x.items, .int .i64 x.self, .int .i64 x.content, .bool x.apart, .bool x.hidden, .int .i64 x.order, .int .i64 x.grow, .int .i64 x.shrink, .int .i64 x.basis.kind, .int .i64 x.basis.n, .int .i64 x.width.kind, .int .i64 x.width.n, .int .i64 x.height.kind, .int .i64 x.height.n, .int .i64 x.minWidth.kind, .int .i64 x.minWidth.n, .int .i64 x.minHeight.kind, .int .i64 x.minHeight.n, .int .i64 x.maxWidth.kind, .int .i64 x.maxWidth.n, .int .i64 x.maxHeight.kind, .int .i64 x.maxHeight.n, .int .i64 x.ratio, .int .i64 x.margin.left.kind, .int .i64 x.margin.left.n, .int .i64 x.margin.top.kind, .int .i64 x.margin.top.n, .int .i64 x.margin.right.kind, .int .i64 x.margin.right.n, .int .i64 x.margin.bottom.kind, .int .i64 x.margin.bottom.n, .int .i64 x.margin.start.kind, .int .i64 x.margin.start.n, .int .i64 x.margin.stop.kind, .int .i64 x.margin.stop.n, .int .i64 x.inset.left.kind, .int .i64 x.inset.left.n, .int .i64 x.inset.top.kind, .int .i64 x.inset.top.n, .int .i64 x.inset.right.kind, .int .i64 x.inset.right.n, .int .i64 x.inset.bottom.kind, .int .i64 x.inset.bottom.n, .int .i64 x.inset.start.kind, .int .i64 x.inset.start.n, .int .i64 x.inset.stop.kind, .int .i64 x.inset.stop.n, .int .i64 x.pad.left, .int .i64 x.pad.top, .int .i64 x.pad.right, .int .i64 x.pad.bottom, .int .i64 x.border.left, .int .i64 x.border.top, .int .i64 x.border.right, .int .i64 x.border.bottom, .int .i64 x.rowGap, .int .i64 x.colGap]

end Go.Proofs.Ytdohglcjjlmhhaa
namespace Go.Proofs.Ytdohglcjjlmhhaa
open Go.RowKit
set_option linter.unusedVariables false
set_option linter.unusedSimpArgs false

/-- A cell that holds an int holds one of 64 bits. -/
def CellOk (v : Value) : Prop := ∀ n : Int, v = .int .i64 n → I64 n
def AllOk (c : List Value) : Prop := ∀ v ∈ c, CellOk v
theorem AllOk.set {c : List Value} (h : AllOk c) {v : Value} (hv : CellOk v) (j : Nat) : AllOk (c.set j v) := fun u hu => by
  rcases List.mem_or_eq_of_mem_set hu with hu | rfl
  · exact h u hu
  · exact hv
theorem AllOk.over : ∀ {r c : List Value} {j : Nat}, AllOk c → AllOk r → AllOk (over c j r)
  | [], _, _, h, _ => h
  | v :: r, c, j, h, hr => AllOk.over (r := r) (h.set (hr v List.mem_cons_self) j) (fun u hu => hr u (List.mem_cons_of_mem _ hu))
theorem SXl.drop1 {P : Program} {n : Nat} {W : World} {R : Rg W} {L : List Blk} {O : List Own} {E : List Res} {f : List (Nat × Value)} {Q : Exit → Go.Act → World → Prop} {ops : Array Oper} {rest : List Oper} {b : Blk} (h : SXl P n W R ops L O E f rest Q) : SXl P n W R ops (b :: L) O E f rest Q := ⟨fun a w hf hl => h.run a w hf hl.drop1⟩

theorem below_d (B gc : Nat) (w : World) (hc : Cur B 116 w gc) (n : Int) (h0 : 0 < n) (h1 : n ≤ 1000000000) : Calls Try.prog 57 #[.pointer (some ⟨gc, 0, none⟩), .int .i64 n] w (DrewV 116 B gc w (fun x : Int => .int .i64 x) (fun x => 0 ≤ x ∧ x < n)) :=
  (l01Below_any B gc w hc n h1).mono fun e w' ⟨x, hx, he, hc, hm⟩ => ⟨x, he, by omega, hm, hc⟩
theorem once_d (B gc : Nat) (w : World) (hc : Cur B 116 w gc) (n : Int) (h1 : n ≤ 1000000000) : Calls Try.prog 89 #[.pointer (some ⟨gc, 0, none⟩), .int .i64 n] w (DrewV 116 B gc w (fun b : Bool => .bool b) (fun _ => True)) :=
  (l01Once_any B gc w hc n h1).mono fun e w' ⟨b, he, hc, hm⟩ => ⟨b, he, trivial, hm, hc⟩
theorem pick_d {W : World} {B gc b : Nat} {hg : gc < W.heap.size} {hB : B ≤ gc} {L : List Blk} {O : List Own} {E : List Res} {w : World} {l : List Int} (hl : Loc W (curRg 116 B gc W hg hB) (⟨b, l.map (.int .i64), 3⟩ :: L) O E w) (h0 : 0 < l.length) (h1 : l.length ≤ 1000) :
    Calls Try.prog 65 #[.pointer (some ⟨gc, 0, none⟩), .slice (some ⟨b, 0, none⟩) l.length l.length] w (DrewV 116 B gc w (fun x : Int => .int .i64 x) (fun x => x ∈ l)) := by
  obtain ⟨hb, hcell⟩ := hl.blk _ (.head _)
  have hne : b ≠ gc := by
    rcases hb with h | h
    · exact h.elim
    · simp only at h; omega
  refine (l01PickInt_any B gc w hl.inv b l.length l (fun i hi => ?_) h0 h1 hne).mono fun e w' h => Drew.v h
  have := blk_cell (j := i) (v := .int .i64 (l.getD i 0)) hcell (by simp [List.getElem?_eq_getElem hi, List.getD, hi])
  rw [Nat.zero_add]
  exact this



end Go.Proofs.Ytdohglcjjlmhhaa
namespace Go.Proofs.Ytdohglcjjlmhhaa
open Go.RowKit

/-- A new cursor over bytes that came in. -/
theorem l01New_loc {W : World} {L : List Blk} {O : List Own} {E : List Res} {w : World} {a : Option Addr} {len cap : Nat} (hlen : len ≤ 1048576) (hy : Bytes W.heap.size W a len) (hl : Loc W (Rg.none W) L O E w) : Calls Try.prog 48 #[.slice a len cap] w (NewCur W.heap.size 116 w) :=
  l01New_any W.heap.size w a len cap hl.mod.size hlen (hy.same fun k hk => hl.mod.block k hk (fun f => f))
end Go.Proofs.Ytdohglcjjlmhhaa
namespace Go.Proofs.Ytdohglcjjlmhhaa
open Go.RowKit
set_option linter.unusedVariables false
set_option linter.unusedSimpArgs false

section
variable {P : Program} {n : Nat} {W : World} {R : Rg W} {L : List Blk} {O : List Own} {E : List Res} {f : List (Nat × Value)} {fn : Func} {R' : Ending → World → Prop} {t1 t2 t3 t4 t5 : Tmp} {v1 v2 v3 v4 v5 : Value}
theorem SQ.bodyT5 (hr : fn.results = #[.tmp t1, .tmp t2, .tmp t3, .tmp t4, .tmp t5]) (h1 : look f t1 = some v1) (h2 : look f t2 = some v2) (h3 : look f t3 = some v3) (h4 : look f t4 = some v4) (h5 : look f t5 = some v5) (h : ∀ w, Loc W R L O E w → R' (.returned (.tuple #[v1, v2, v3, v4, v5])) w) : SQ n W R L O E f .ret (bodyPost P fn R') :=
  ⟨fun a w hf hl => ⟨hf.defers, .tuple #[v1, v2, v3, v4, v5], by simp [results, hr, Array.getD_eq_getD_getElem?, hf.at_ _ _ h1, hf.at_ _ _ h2, hf.at_ _ _ h3, hf.at_ _ _ h4, hf.at_ _ _ h5], h w hl⟩⟩
end
theorem item_fits (y v : Int) (hy : -2097152 ≤ y ∧ y ≤ 2097152) (hv : -2097152 ≤ v ∧ v ≤ 2097152) : (⟨y, v, -1, 0, 0, 0, 0, false, false⟩ : Item).Fits :=
  have h0 : (-2097152 : Int) ≤ 0 ∧ (0 : Int) ≤ 2097152 := by decide
  have h1 : (-2097152 : Int) ≤ -1 ∧ (-1 : Int) ≤ 2097152 := by decide
  ⟨hy, hv, h1, h0, h0, h0, h0⟩
set_option maxRecDepth 100000 in
set_option maxHeartbeats 8000000 in
theorem l13Item_d (B gc : Nat) (w : World) (hc : Cur B 116 w gc) : Calls Try.prog 90 #[.pointer (some ⟨gc, 0, none⟩)] w (DrewV 116 B gc w (fun x : Item => .agg x.cells.toArray) Item.Fits) := by
  refine calls_draw (as_ := [.pointer (some ⟨gc, 0, none⟩)]) hc Try.func90 rfl rfl (fun a h1 h2 h3 => ((Fr.nil h1 h2).arg (h3 0 _ rfl))) ?_
  repeat (first | refine SX.seq ?_ | refine SXl.nil ?_ | refine SX.region ?_ | refine SQ.thenNormal ?_ | (refine l_move ?_; (refine SXl.v (OpW.move rfl) rfl ?_ ?_ ?_); rfl; rfl) | (refine l_alloc ?_; refine SXl.alloc ?_ ?_ (fun g => ?_); rfl; rfl))
  revert g; intro g2
  refine l_call ?_
  refine SXl.draw (ξ := Int) (v := fun x : Int => .int .i64 x) rfl rfl rfl (fun x => 0 ≤ x ∧ x < 3000) (fun w hl => below_d B gc w hl.inv 3000 (by decide) (by decide)) (fun z hz => ?_)
  skip
  refine l_buildSlice ?_
  refine SXl.lit (cells := ([0, 64, 100, 640, 33, 1000, z] : List Int).map (.int .i64)) (z := .int .i64 0) ?_ ?_ rfl (by decide) (by kernel_rfl) rfl (fun gl => ?_)
  rfl; rfl
  skip
  refine l_call ?_
  refine SXl.draw (ξ := Int) (v := fun x => .int .i64 x) rfl rfl rfl (fun x => x ∈ ([0, 64, 100, 640, 33, 1000, z] : List Int)) (fun w hl => pick_d (l := ([0, 64, 100, 640, 33, 1000, z] : List Int)) hl (by simp) (by simp)) (fun y hy => ?_)
  refine SXl.drop1 ?_
  have hy2 : 0 ≤ y ∧ y ≤ 3000 := by simp at hy; omega
  repeat (first | refine SX.seq ?_ | refine SXl.nil ?_ | refine SX.region ?_ | refine SQ.thenNormal ?_ | (refine l_build ?_; (refine SXl.v ((OpW.build (vals := [(0, .int .i64 y), (2, .int .i64 (-1))]) (cells := [.int .i64 y, .int .i64 0, .int .i64 (-1), .int .i64 0, .int .i64 0, .int .i64 0, .int .i64 0, .bool false, .bool false]) rfl (by kernel_rfl))) rfl ?_ ?_ ?_); rfl; rfl) | (refine l_move ?_; (refine SXl.v (OpW.move rfl) rfl ?_ ?_ ?_); rfl; rfl) | (refine l_alloc ?_; refine SXl.alloc ?_ ?_ (fun g => ?_); rfl; rfl) | (refine l_store ?_; first | (refine SXl.store 0 ?_ rfl rfl rfl rfl rfl rfl ?_; rfl; simp only [List.set_cons_zero, List.set_cons_succ]) | (refine SXl.store 1 ?_ rfl rfl rfl rfl rfl rfl ?_; rfl; simp only [List.set_cons_zero, List.set_cons_succ]) | (refine SXl.store 2 ?_ rfl rfl rfl rfl rfl rfl ?_; rfl; simp only [List.set_cons_zero, List.set_cons_succ]) | (refine SXl.storeAll 0 ?_ rfl rfl rfl rfl rfl rfl rfl ?_; rfl; simp only [List.set_cons_zero, List.set_cons_succ]) | (refine SXl.storeAll 1 ?_ rfl rfl rfl rfl rfl rfl rfl ?_; rfl; simp only [List.set_cons_zero, List.set_cons_succ]) | (refine SXl.storeAll 2 ?_ rfl rfl rfl rfl rfl rfl rfl ?_; rfl; simp only [List.set_cons_zero, List.set_cons_succ]) | (refine SXl.storeRow 0 ?_ rfl rfl rfl rfl rfl rfl rfl ?_; rfl; simp only [over, List.set_cons_zero, List.set_cons_succ]) | (refine SXl.storeRow 1 ?_ rfl rfl rfl rfl rfl rfl rfl ?_; rfl; simp only [over, List.set_cons_zero, List.set_cons_succ]) | (refine SXl.storeRow 2 ?_ rfl rfl rfl rfl rfl rfl rfl ?_; rfl; simp only [over, List.set_cons_zero, List.set_cons_succ])))
  revert g; intro g3
  refine l_call ?_
  refine SXl.draw (ξ := Bool) (v := fun b => .bool b) rfl rfl rfl (fun _ => True) (fun w hl => once_d B gc w hl.inv 3 (by decide)) (fun b1 _ => ?_)
  repeat (first | refine SXl.nil ?_ | refine SQ.thenNormal ?_)
  refine SX.join (ι := Item) Item.Fits (fun y => [⟨g3, y.cells, 36⟩, ⟨g2, [.int .i64 0, .int .i64 0, .int .i64 0, .int .i64 0, .int .i64 0, .int .i64 0, .int .i64 0, .bool false, .bool false], 36⟩]) (fun _ => []) (fun _ => []) (fun _ => [(0, .pointer (some ⟨gc, 0, none⟩)), (2, .pointer (some ⟨g2, 0, none⟩)), (3, .pointer (some ⟨g3, 0, none⟩))]) ?_ ?_
  · cases b1
    · repeat (first | refine SX.skip ?_ | refine SX.condF rfl ?_)
      refine SQ.join ⟨y, 0, -1, 0, 0, 0, 0, false, false⟩ (item_fits y 0 (by omega) (by omega)) ?_ (fun _ hl => hl)
      (repeat (first | exact subF_nil _ | (refine subF_cons rfl ?_) | (refine subF_consv rfl (by rfl) ?_)))
    · repeat (first | refine SX.region ?_ | refine SX.condT rfl ?_ | (refine l_move ?_; (refine SXl.v (OpW.move rfl) rfl ?_ ?_ ?_); rfl; rfl))
      refine l_buildSlice ?_
      refine SXl.lit (cells := ([0, 64, 200, 700] : List Int).map (.int .i64)) (z := .int .i64 0) ?_ ?_ rfl (by decide) (by kernel_rfl) rfl (fun gl => ?_)
      rfl; rfl
      skip
      refine l_call ?_
      refine SXl.draw (ξ := Int) (v := fun x => .int .i64 x) rfl rfl rfl (fun x => x ∈ ([0, 64, 200, 700] : List Int)) (fun w hl => pick_d (l := ([0, 64, 200, 700] : List Int)) hl (by simp) (by simp)) (fun v hv => ?_)
      refine SXl.drop1 ?_
      have hv2 : 0 ≤ v ∧ v ≤ 700 := by simp at hv; omega
      repeat (first | refine SXl.nil ?_ | (refine l_fieldAddr ?_; (refine SXl.v (OpW.fieldAddr rfl) rfl ?_ ?_ ?_); rfl; rfl) | (refine l_store ?_; first | (refine SXl.store 0 ?_ rfl rfl rfl rfl rfl rfl ?_; rfl; simp only [List.set_cons_zero, List.set_cons_succ]) | (refine SXl.store 1 ?_ rfl rfl rfl rfl rfl rfl ?_; rfl; simp only [List.set_cons_zero, List.set_cons_succ]) | (refine SXl.store 2 ?_ rfl rfl rfl rfl rfl rfl ?_; rfl; simp only [List.set_cons_zero, List.set_cons_succ]) | (refine SXl.storeAll 0 ?_ rfl rfl rfl rfl rfl rfl rfl ?_; rfl; simp only [List.set_cons_zero, List.set_cons_succ]) | (refine SXl.storeAll 1 ?_ rfl rfl rfl rfl rfl rfl rfl ?_; rfl; simp only [List.set_cons_zero, List.set_cons_succ]) | (refine SXl.storeAll 2 ?_ rfl rfl rfl rfl rfl rfl rfl ?_; rfl; simp only [List.set_cons_zero, List.set_cons_succ]) | (refine SXl.storeRow 0 ?_ rfl rfl rfl rfl rfl rfl rfl ?_; rfl; simp only [over, List.set_cons_zero, List.set_cons_succ]) | (refine SXl.storeRow 1 ?_ rfl rfl rfl rfl rfl rfl rfl ?_; rfl; simp only [over, List.set_cons_zero, List.set_cons_succ]) | (refine SXl.storeRow 2 ?_ rfl rfl rfl rfl rfl rfl rfl ?_; rfl; simp only [over, List.set_cons_zero, List.set_cons_succ])))
      refine SQ.join ⟨y, v, -1, 0, 0, 0, 0, false, false⟩ (item_fits y v (by omega) (by omega)) ?_ (fun _ hl => hl)
      (repeat (first | exact subF_nil _ | (refine subF_cons rfl ?_) | (refine subF_consv rfl (by rfl) ?_)))
  clear hy hy2
  intro s1 hs1
  repeat (first | refine SX.seq ?_ | refine SX.region ?_ | (refine l_move ?_; (refine SXl.v (OpW.move rfl) rfl ?_ ?_ ?_); rfl; rfl))
  refine l_call ?_
  refine SXl.draw (ξ := Bool) (v := fun b => .bool b) rfl rfl rfl (fun _ => True) (fun w hl => once_d B gc w hl.inv 3 (by decide)) (fun b2 _ => ?_)
  repeat (first | refine SXl.nil ?_ | refine SQ.thenNormal ?_)
  refine SX.join (ι := Item) Item.Fits (fun y => [⟨g3, y.cells, 36⟩, ⟨g2, [.int .i64 0, .int .i64 0, .int .i64 0, .int .i64 0, .int .i64 0, .int .i64 0, .int .i64 0, .bool false, .bool false], 36⟩]) (fun _ => []) (fun _ => []) (fun _ => [(0, .pointer (some ⟨gc, 0, none⟩)), (2, .pointer (some ⟨g2, 0, none⟩)), (3, .pointer (some ⟨g3, 0, none⟩))]) ?_ ?_
  · cases b2
    · repeat (first | refine SX.skip ?_ | refine SX.condF rfl ?_)
      refine SQ.join s1 hs1 ?_ (fun _ hl => hl)
      (repeat (first | exact subF_nil _ | (refine subF_cons rfl ?_) | (refine subF_consv rfl (by rfl) ?_)))
    · repeat (first | refine SX.region ?_ | refine SX.condT rfl ?_ | (refine l_move ?_; (refine SXl.v (OpW.move rfl) rfl ?_ ?_ ?_); rfl; rfl))
      refine l_buildSlice ?_
      refine SXl.lit (cells := ([0, 100, 300, 1000] : List Int).map (.int .i64)) (z := .int .i64 0) ?_ ?_ rfl (by decide) (by kernel_rfl) rfl (fun gl => ?_)
      rfl; rfl
      skip
      refine l_call ?_
      refine SXl.draw (ξ := Int) (v := fun x => .int .i64 x) rfl rfl rfl (fun x => x ∈ ([0, 100, 300, 1000] : List Int)) (fun w hl => pick_d (l := ([0, 100, 300, 1000] : List Int)) hl (by simp) (by simp)) (fun v hv => ?_)
      refine SXl.drop1 ?_
      have hv2 : 0 ≤ v ∧ v ≤ 1000 := by simp at hv; omega
      repeat (first | refine SXl.nil ?_ | (refine l_fieldAddr ?_; (refine SXl.v (OpW.fieldAddr rfl) rfl ?_ ?_ ?_); rfl; rfl) | (refine l_store ?_; first | (refine SXl.store 0 ?_ rfl rfl rfl rfl rfl rfl ?_; rfl; simp only [List.set_cons_zero, List.set_cons_succ]) | (refine SXl.store 1 ?_ rfl rfl rfl rfl rfl rfl ?_; rfl; simp only [List.set_cons_zero, List.set_cons_succ]) | (refine SXl.store 2 ?_ rfl rfl rfl rfl rfl rfl ?_; rfl; simp only [List.set_cons_zero, List.set_cons_succ]) | (refine SXl.storeAll 0 ?_ rfl rfl rfl rfl rfl rfl rfl ?_; rfl; simp only [List.set_cons_zero, List.set_cons_succ]) | (refine SXl.storeAll 1 ?_ rfl rfl rfl rfl rfl rfl rfl ?_; rfl; simp only [List.set_cons_zero, List.set_cons_succ]) | (refine SXl.storeAll 2 ?_ rfl rfl rfl rfl rfl rfl rfl ?_; rfl; simp only [List.set_cons_zero, List.set_cons_succ]) | (refine SXl.storeRow 0 ?_ rfl rfl rfl rfl rfl rfl rfl ?_; rfl; simp only [over, List.set_cons_zero, List.set_cons_succ]) | (refine SXl.storeRow 1 ?_ rfl rfl rfl rfl rfl rfl rfl ?_; rfl; simp only [over, List.set_cons_zero, List.set_cons_succ]) | (refine SXl.storeRow 2 ?_ rfl rfl rfl rfl rfl rfl rfl ?_; rfl; simp only [over, List.set_cons_zero, List.set_cons_succ])))
      refine SQ.join { s1 with most := v } (by obtain ⟨q1, q2, q3, q4, q5, q6, q7⟩ := hs1; exact ⟨q1, q2, ⟨by show (-2097152 : Int) ≤ v; omega, by show (v : Int) ≤ 2097152; omega⟩, q4, q5, q6, q7⟩) ?_ (fun _ hl => hl)
      (repeat (first | exact subF_nil _ | (refine subF_cons rfl ?_) | (refine subF_consv rfl (by rfl) ?_)))
  intro s2 hs2
  repeat (first | refine SX.seq ?_ | refine SX.region ?_ | (refine l_move ?_; (refine SXl.v (OpW.move rfl) rfl ?_ ?_ ?_); rfl; rfl))
  refine l_buildSlice ?_
  refine SXl.lit (cells := ([0, 1, 1, 2, 3, 1000] : List Int).map (.int .i64)) (z := .int .i64 0) ?_ ?_ rfl (by decide) (by kernel_rfl) rfl (fun gl => ?_)
  rfl; rfl
  skip
  refine l_call ?_
  refine SXl.draw (ξ := Int) (v := fun x => .int .i64 x) rfl rfl rfl (fun x => x ∈ ([0, 1, 1, 2, 3, 1000] : List Int)) (fun w hl => pick_d (l := ([0, 1, 1, 2, 3, 1000] : List Int)) hl (by simp) (by simp)) (fun v3 hv3 => ?_)
  refine SXl.drop1 ?_
  have hw3 : 0 ≤ v3 ∧ v3 ≤ 1000 := by simp at hv3; omega
  repeat (first | refine SX.seq ?_ | refine SXl.nil ?_ | refine SX.region ?_ | refine SQ.thenNormal ?_ | (refine l_fieldAddr ?_; (refine SXl.v (OpW.fieldAddr rfl) rfl ?_ ?_ ?_); rfl; rfl) | (refine l_move ?_; (refine SXl.v (OpW.move rfl) rfl ?_ ?_ ?_); rfl; rfl) | (refine l_store ?_; first | (refine SXl.store 0 ?_ rfl rfl rfl rfl rfl rfl ?_; rfl; simp only [List.set_cons_zero, List.set_cons_succ]) | (refine SXl.store 1 ?_ rfl rfl rfl rfl rfl rfl ?_; rfl; simp only [List.set_cons_zero, List.set_cons_succ]) | (refine SXl.store 2 ?_ rfl rfl rfl rfl rfl rfl ?_; rfl; simp only [List.set_cons_zero, List.set_cons_succ]) | (refine SXl.storeAll 0 ?_ rfl rfl rfl rfl rfl rfl rfl ?_; rfl; simp only [List.set_cons_zero, List.set_cons_succ]) | (refine SXl.storeAll 1 ?_ rfl rfl rfl rfl rfl rfl rfl ?_; rfl; simp only [List.set_cons_zero, List.set_cons_succ]) | (refine SXl.storeAll 2 ?_ rfl rfl rfl rfl rfl rfl rfl ?_; rfl; simp only [List.set_cons_zero, List.set_cons_succ]) | (refine SXl.storeRow 0 ?_ rfl rfl rfl rfl rfl rfl rfl ?_; rfl; simp only [over, List.set_cons_zero, List.set_cons_succ]) | (refine SXl.storeRow 1 ?_ rfl rfl rfl rfl rfl rfl rfl ?_; rfl; simp only [over, List.set_cons_zero, List.set_cons_succ]) | (refine SXl.storeRow 2 ?_ rfl rfl rfl rfl rfl rfl rfl ?_; rfl; simp only [over, List.set_cons_zero, List.set_cons_succ])))
  refine l_buildSlice ?_
  refine SXl.lit (cells := ([0, 1, 1, 2, 1000] : List Int).map (.int .i64)) (z := .int .i64 0) ?_ ?_ rfl (by decide) (by kernel_rfl) rfl (fun gl => ?_)
  rfl; rfl
  skip
  refine l_call ?_
  refine SXl.draw (ξ := Int) (v := fun x => .int .i64 x) rfl rfl rfl (fun x => x ∈ ([0, 1, 1, 2, 1000] : List Int)) (fun w hl => pick_d (l := ([0, 1, 1, 2, 1000] : List Int)) hl (by simp) (by simp)) (fun v4 hv4 => ?_)
  refine SXl.drop1 ?_
  have hw4 : 0 ≤ v4 ∧ v4 ≤ 1000 := by simp at hv4; omega
  repeat (first | refine SX.seq ?_ | refine SXl.nil ?_ | refine SX.region ?_ | refine SQ.thenNormal ?_ | (refine l_fieldAddr ?_; (refine SXl.v (OpW.fieldAddr rfl) rfl ?_ ?_ ?_); rfl; rfl) | (refine l_move ?_; (refine SXl.v (OpW.move rfl) rfl ?_ ?_ ?_); rfl; rfl) | (refine l_store ?_; first | (refine SXl.store 0 ?_ rfl rfl rfl rfl rfl rfl ?_; rfl; simp only [List.set_cons_zero, List.set_cons_succ]) | (refine SXl.store 1 ?_ rfl rfl rfl rfl rfl rfl ?_; rfl; simp only [List.set_cons_zero, List.set_cons_succ]) | (refine SXl.store 2 ?_ rfl rfl rfl rfl rfl rfl ?_; rfl; simp only [List.set_cons_zero, List.set_cons_succ]) | (refine SXl.storeAll 0 ?_ rfl rfl rfl rfl rfl rfl rfl ?_; rfl; simp only [List.set_cons_zero, List.set_cons_succ]) | (refine SXl.storeAll 1 ?_ rfl rfl rfl rfl rfl rfl rfl ?_; rfl; simp only [List.set_cons_zero, List.set_cons_succ]) | (refine SXl.storeAll 2 ?_ rfl rfl rfl rfl rfl rfl rfl ?_; rfl; simp only [List.set_cons_zero, List.set_cons_succ]) | (refine SXl.storeRow 0 ?_ rfl rfl rfl rfl rfl rfl rfl ?_; rfl; simp only [over, List.set_cons_zero, List.set_cons_succ]) | (refine SXl.storeRow 1 ?_ rfl rfl rfl rfl rfl rfl rfl ?_; rfl; simp only [over, List.set_cons_zero, List.set_cons_succ]) | (refine SXl.storeRow 2 ?_ rfl rfl rfl rfl rfl rfl rfl ?_; rfl; simp only [over, List.set_cons_zero, List.set_cons_succ])))
  refine l_call ?_
  refine SXl.draw (ξ := Bool) (v := fun b => .bool b) rfl rfl rfl (fun _ => True) (fun w hl => once_d B gc w hl.inv 3 (by decide)) (fun b5 _ => ?_)
  repeat (first | refine SXl.nil ?_ | refine SQ.thenNormal ?_)
  refine SX.join (ι := Item) Item.Fits (fun y => [⟨g3, y.cells, 36⟩, ⟨g2, [.int .i64 0, .int .i64 0, .int .i64 0, .int .i64 0, .int .i64 0, .int .i64 0, .int .i64 0, .bool false, .bool false], 36⟩]) (fun _ => []) (fun _ => []) (fun _ => [(0, .pointer (some ⟨gc, 0, none⟩)), (2, .pointer (some ⟨g2, 0, none⟩)), (3, .pointer (some ⟨g3, 0, none⟩))]) ?_ ?_
  · cases b5
    · repeat (first | refine SX.skip ?_ | refine SX.condF rfl ?_)
      refine SQ.join { s2 with grow := v3, shrink := v4 } (by obtain ⟨q1, q2, q3, q4, q5, q6, q7⟩ := hs2; exact ⟨q1, q2, q3, q4, q5, ⟨by show (-2097152 : Int) ≤ v3; omega, by show (v3 : Int) ≤ 2097152; omega⟩, ⟨by show (-2097152 : Int) ≤ v4; omega, by show (v4 : Int) ≤ 2097152; omega⟩⟩) ?_ (fun _ hl => hl)
      (repeat (first | exact subF_nil _ | (refine subF_cons rfl ?_) | (refine subF_consv rfl (by rfl) ?_)))
    · repeat (first | refine SX.seq ?_ | refine SX.region ?_ | refine SX.condT rfl ?_ | (refine l_move ?_; (refine SXl.v (OpW.move rfl) rfl ?_ ?_ ?_); rfl; rfl))
      refine l_buildSlice ?_
      refine SXl.lit (cells := ([10, 64, -10, 33] : List Int).map (.int .i64)) (z := .int .i64 0) ?_ ?_ rfl (by decide) (by kernel_rfl) rfl (fun gl => ?_)
      rfl; rfl
      skip
      refine l_call ?_
      refine SXl.draw (ξ := Int) (v := fun x => .int .i64 x) rfl rfl rfl (fun x => x ∈ ([10, 64, -10, 33] : List Int)) (fun w hl => pick_d (l := ([10, 64, -10, 33] : List Int)) hl (by simp) (by simp)) (fun v5 hv5 => ?_)
      refine SXl.drop1 ?_
      have hw5 : -10 ≤ v5 ∧ v5 ≤ 64 := by simp at hv5; omega
      repeat (first | refine SXl.nil ?_ | refine SX.region ?_ | refine SQ.thenNormal ?_ | (refine l_fieldAddr ?_; (refine SXl.v (OpW.fieldAddr rfl) rfl ?_ ?_ ?_); rfl; rfl) | (refine l_move ?_; (refine SXl.v (OpW.move rfl) rfl ?_ ?_ ?_); rfl; rfl) | (refine l_store ?_; first | (refine SXl.store 0 ?_ rfl rfl rfl rfl rfl rfl ?_; rfl; simp only [List.set_cons_zero, List.set_cons_succ]) | (refine SXl.store 1 ?_ rfl rfl rfl rfl rfl rfl ?_; rfl; simp only [List.set_cons_zero, List.set_cons_succ]) | (refine SXl.store 2 ?_ rfl rfl rfl rfl rfl rfl ?_; rfl; simp only [List.set_cons_zero, List.set_cons_succ]) | (refine SXl.storeAll 0 ?_ rfl rfl rfl rfl rfl rfl rfl ?_; rfl; simp only [List.set_cons_zero, List.set_cons_succ]) | (refine SXl.storeAll 1 ?_ rfl rfl rfl rfl rfl rfl rfl ?_; rfl; simp only [List.set_cons_zero, List.set_cons_succ]) | (refine SXl.storeAll 2 ?_ rfl rfl rfl rfl rfl rfl rfl ?_; rfl; simp only [List.set_cons_zero, List.set_cons_succ]) | (refine SXl.storeRow 0 ?_ rfl rfl rfl rfl rfl rfl rfl ?_; rfl; simp only [over, List.set_cons_zero, List.set_cons_succ]) | (refine SXl.storeRow 1 ?_ rfl rfl rfl rfl rfl rfl rfl ?_; rfl; simp only [over, List.set_cons_zero, List.set_cons_succ]) | (refine SXl.storeRow 2 ?_ rfl rfl rfl rfl rfl rfl rfl ?_; rfl; simp only [over, List.set_cons_zero, List.set_cons_succ])))
      refine l_buildSlice ?_
      refine SXl.lit (cells := ([10, 64, -10, 33] : List Int).map (.int .i64)) (z := .int .i64 0) ?_ ?_ rfl (by decide) (by kernel_rfl) rfl (fun gl => ?_)
      rfl; rfl
      skip
      refine l_call ?_
      refine SXl.draw (ξ := Int) (v := fun x => .int .i64 x) rfl rfl rfl (fun x => x ∈ ([10, 64, -10, 33] : List Int)) (fun w hl => pick_d (l := ([10, 64, -10, 33] : List Int)) hl (by simp) (by simp)) (fun v6 hv6 => ?_)
      refine SXl.drop1 ?_
      have hw6 : -10 ≤ v6 ∧ v6 ≤ 64 := by simp at hv6; omega
      repeat (first | refine SXl.nil ?_ | (refine l_fieldAddr ?_; (refine SXl.v (OpW.fieldAddr rfl) rfl ?_ ?_ ?_); rfl; rfl) | (refine l_store ?_; first | (refine SXl.store 0 ?_ rfl rfl rfl rfl rfl rfl ?_; rfl; simp only [List.set_cons_zero, List.set_cons_succ]) | (refine SXl.store 1 ?_ rfl rfl rfl rfl rfl rfl ?_; rfl; simp only [List.set_cons_zero, List.set_cons_succ]) | (refine SXl.store 2 ?_ rfl rfl rfl rfl rfl rfl ?_; rfl; simp only [List.set_cons_zero, List.set_cons_succ]) | (refine SXl.storeAll 0 ?_ rfl rfl rfl rfl rfl rfl rfl ?_; rfl; simp only [List.set_cons_zero, List.set_cons_succ]) | (refine SXl.storeAll 1 ?_ rfl rfl rfl rfl rfl rfl rfl ?_; rfl; simp only [List.set_cons_zero, List.set_cons_succ]) | (refine SXl.storeAll 2 ?_ rfl rfl rfl rfl rfl rfl rfl ?_; rfl; simp only [List.set_cons_zero, List.set_cons_succ]) | (refine SXl.storeRow 0 ?_ rfl rfl rfl rfl rfl rfl rfl ?_; rfl; simp only [over, List.set_cons_zero, List.set_cons_succ]) | (refine SXl.storeRow 1 ?_ rfl rfl rfl rfl rfl rfl rfl ?_; rfl; simp only [over, List.set_cons_zero, List.set_cons_succ]) | (refine SXl.storeRow 2 ?_ rfl rfl rfl rfl rfl rfl rfl ?_; rfl; simp only [over, List.set_cons_zero, List.set_cons_succ])))
      refine SQ.join { s2 with grow := v3, shrink := v4, before := v5, behind := v6 } (by obtain ⟨q1, q2, q3, q4, q5, q6, q7⟩ := hs2; exact ⟨q1, q2, q3, ⟨by show (-2097152 : Int) ≤ v5; omega, by show (v5 : Int) ≤ 2097152; omega⟩, ⟨by show (-2097152 : Int) ≤ v6; omega, by show (v6 : Int) ≤ 2097152; omega⟩, ⟨by show (-2097152 : Int) ≤ v3; omega, by show (v3 : Int) ≤ 2097152; omega⟩, ⟨by show (-2097152 : Int) ≤ v4; omega, by show (v4 : Int) ≤ 2097152; omega⟩⟩) ?_ (fun _ hl => hl)
      (repeat (first | exact subF_nil _ | (refine subF_cons rfl ?_) | (refine subF_consv rfl (by rfl) ?_)))
  intro s3 hs3
  repeat (first | refine SX.seq ?_ | refine SX.region ?_ | (refine l_move ?_; (refine SXl.v (OpW.move rfl) rfl ?_ ?_ ?_); rfl; rfl))
  refine l_call ?_
  refine SXl.draw (ξ := Bool) (v := fun b => .bool b) rfl rfl rfl (fun _ => True) (fun w hl => once_d B gc w hl.inv 10 (by decide)) (fun b6 _ => ?_)
  repeat (first | refine SX.seq ?_ | refine SXl.nil ?_ | refine SX.region ?_ | refine SQ.thenNormal ?_ | (refine l_fieldAddr ?_; (refine SXl.v (OpW.fieldAddr rfl) rfl ?_ ?_ ?_); rfl; rfl) | (refine l_move ?_; (refine SXl.v (OpW.move rfl) rfl ?_ ?_ ?_); rfl; rfl) | (refine l_store ?_; first | (refine SXl.store 0 ?_ rfl rfl rfl rfl rfl rfl ?_; rfl; simp only [List.set_cons_zero, List.set_cons_succ]) | (refine SXl.store 1 ?_ rfl rfl rfl rfl rfl rfl ?_; rfl; simp only [List.set_cons_zero, List.set_cons_succ]) | (refine SXl.store 2 ?_ rfl rfl rfl rfl rfl rfl ?_; rfl; simp only [List.set_cons_zero, List.set_cons_succ]) | (refine SXl.storeAll 0 ?_ rfl rfl rfl rfl rfl rfl rfl ?_; rfl; simp only [List.set_cons_zero, List.set_cons_succ]) | (refine SXl.storeAll 1 ?_ rfl rfl rfl rfl rfl rfl rfl ?_; rfl; simp only [List.set_cons_zero, List.set_cons_succ]) | (refine SXl.storeAll 2 ?_ rfl rfl rfl rfl rfl rfl rfl ?_; rfl; simp only [List.set_cons_zero, List.set_cons_succ]) | (refine SXl.storeRow 0 ?_ rfl rfl rfl rfl rfl rfl rfl ?_; rfl; simp only [over, List.set_cons_zero, List.set_cons_succ]) | (refine SXl.storeRow 1 ?_ rfl rfl rfl rfl rfl rfl rfl ?_; rfl; simp only [over, List.set_cons_zero, List.set_cons_succ]) | (refine SXl.storeRow 2 ?_ rfl rfl rfl rfl rfl rfl rfl ?_; rfl; simp only [over, List.set_cons_zero, List.set_cons_succ])))
  refine l_call ?_
  refine SXl.draw (ξ := Bool) (v := fun b => .bool b) rfl rfl rfl (fun _ => True) (fun w hl => once_d B gc w hl.inv 10 (by decide)) (fun b7 _ => ?_)
  repeat (first | refine SX.seq ?_ | refine SXl.nil ?_ | refine SX.region ?_ | refine SQ.thenNormal ?_ | (refine l_load ?_; (refine SXl.v (OpW.loadAll 0 rfl rfl rfl) rfl ?_ ?_ ?_); rfl; rfl) | (refine l_fieldAddr ?_; (refine SXl.v (OpW.fieldAddr rfl) rfl ?_ ?_ ?_); rfl; rfl) | (refine l_store ?_; first | (refine SXl.store 0 ?_ rfl rfl rfl rfl rfl rfl ?_; rfl; simp only [List.set_cons_zero, List.set_cons_succ]) | (refine SXl.store 1 ?_ rfl rfl rfl rfl rfl rfl ?_; rfl; simp only [List.set_cons_zero, List.set_cons_succ]) | (refine SXl.store 2 ?_ rfl rfl rfl rfl rfl rfl ?_; rfl; simp only [List.set_cons_zero, List.set_cons_succ]) | (refine SXl.storeAll 0 ?_ rfl rfl rfl rfl rfl rfl rfl ?_; rfl; simp only [List.set_cons_zero, List.set_cons_succ]) | (refine SXl.storeAll 1 ?_ rfl rfl rfl rfl rfl rfl rfl ?_; rfl; simp only [List.set_cons_zero, List.set_cons_succ]) | (refine SXl.storeAll 2 ?_ rfl rfl rfl rfl rfl rfl rfl ?_; rfl; simp only [List.set_cons_zero, List.set_cons_succ]) | (refine SXl.storeRow 0 ?_ rfl rfl rfl rfl rfl rfl rfl ?_; rfl; simp only [over, List.set_cons_zero, List.set_cons_succ]) | (refine SXl.storeRow 1 ?_ rfl rfl rfl rfl rfl rfl rfl ?_; rfl; simp only [over, List.set_cons_zero, List.set_cons_succ]) | (refine SXl.storeRow 2 ?_ rfl rfl rfl rfl rfl rfl rfl ?_; rfl; simp only [over, List.set_cons_zero, List.set_cons_succ])) | refine SX.ret ?_)
  refine SQ.bodyCell 1 rfl rfl rfl rfl (fun w' hl => ⟨{ s3 with autoBefore := b6, autoBehind := b7 }, rfl, hs3, hl.mod, hl.inv⟩)
/-- Items of the call's own. -/
structure ItemsQ where
  xs : List Item
  a : Option Addr
  c : Nat
def ItemsQ.v (q : ItemsQ) : Value := .slice q.a q.xs.length q.c
def ItemsQ.os (q : ItemsQ) : List Own := [⟨.slice q.a q.xs.length q.c, 36, 9, q.xs.length, (q.xs.map Item.cells).flatten⟩]
def FitItems (m : Nat) (l : List Item) : Prop := (∀ x ∈ l, x.Fits) ∧ l.length ≤ m
theorem FitItems.push {m : Nat} {l : List Item} {x : Item} (h : FitItems m l) (hx : x.Fits) : FitItems (m + 1) (l ++ [x]) := ⟨fun y hy => by
  rcases List.mem_append.1 hy with hy | hy
  · exact h.1 y hy
  · rw [List.mem_singleton.1 hy]; exact hx, by rw [List.length_append, List.length_singleton]; exact Nat.succ_le_succ h.2⟩
theorem items_push (l : List Item) (x : Item) (a : Option Addr) (c : Nat) : (⟨.slice a (l.length + 1) c, 36, 9, l.length + 1, (l.map Item.cells).flatten ++ x.cells⟩ : Own) = ⟨.slice a (l ++ [x]).length c, 36, 9, (l ++ [x]).length, ((l ++ [x]).map Item.cells).flatten⟩ := by simp
set_option maxRecDepth 100000 in
set_option maxHeartbeats 8000000 in
theorem l13Items_d (B gc : Nat) (w : World) (hc : Cur B 116 w gc) : Calls Try.prog 88 #[.pointer (some ⟨gc, 0, none⟩)] w (DrewO ItemsQ 116 B gc ItemsQ.v ItemsQ.os (fun q => FitItems 6 q.xs) w) := by
  refine calls_draw (as_ := [.pointer (some ⟨gc, 0, none⟩)]) hc Try.func88 rfl rfl (fun a h1 h2 h3 => ((Fr.nil h1 h2).arg (h3 0 _ rfl))) ?_
  repeat (first | refine SX.seq ?_ | refine SXl.nil ?_ | refine SX.region ?_ | refine SQ.thenNormal ?_ | refine SX.block ?_ | (refine l_assign ?_; (refine SXl.v (OpW.assign rfl) rfl ?_ ?_ ?_); rfl; rfl) | (refine l_buildSlice ?_; refine SXl.lit0R rfl rfl (fun _ h => h) (fun g => ?_)))
  refine SX.loop3 (fun (k : Nat) (q : ItemsQ) (_ : Unit) => k = q.xs.length ∧ FitItems 6 q.xs) (fun k _ _ => 6 - k) (fun _ _ _ => []) (fun _ q _ => q.os) (fun _ _ _ => []) (fun k q _ => [(0, .pointer (some ⟨gc, 0, none⟩)), (3, q.v), (4, .int .i64 k)]) 0 ⟨[], _, _⟩ () ⟨rfl, fun _ h => (nomatch h), Nat.zero_le _⟩ ?_ (fun _ hl => hl) ?_
  · (repeat (first | exact subF_nil _ | (refine subF_cons rfl ?_) | (refine subF_consv rfl (by rfl) ?_)))
  rintro k ⟨xs, qa, qc⟩ _ ⟨hk, hq⟩
  simp only at hk hq
  simp only [ItemsQ.v, ItemsQ.os]
  obtain ⟨hq1, hq2⟩ := hq
  repeat (first | refine SX.seq ?_ | refine SX.region ?_ | (refine l_move ?_; (refine SXl.v (OpW.move rfl) rfl ?_ ?_ ?_); rfl; rfl))
  refine l_call ?_
  refine SXl.drawE (ξ := Int) (v := fun x : Int => .int .i64 x) rfl rfl rfl (fun x => 0 ≤ x ∧ x < 6) (fun w hl => below_d B gc w hl.inv 6 (by decide) (by decide)) (fun y hy => ?_)
  by_cases hlt : (k : Int) < y
  · repeat (first | refine SX.seq ?_ | refine SXl.nil ?_ | refine SX.region ?_ | refine SQ.thenNormal ?_ | refine SX.block ?_ | refine SX.skip ?_ | refine SX.condT rfl ?_ | (refine l_move ?_; (refine SXl.v (OpW.move rfl) rfl ?_ ?_ ?_); rfl; rfl) | (refine l_lss ?_; (refine SXl.v (OpW.lssT rfl rfl (by omega)) rfl ?_ ?_ ?_); rfl; rfl))
    refine l_call ?_
    refine SXl.drawE (ξ := Item) (v := fun x => .agg x.cells.toArray) rfl rfl rfl Item.Fits (fun w hl => l13Item_d B gc w hl.inv) (fun z hz => ?_)
    repeat (first | refine SXl.nil ?_ | refine SX.region ?_ | refine SQ.thenNormal ?_ | (refine l_move ?_; (refine SXl.v (OpW.move rfl) rfl ?_ ?_ ?_); rfl; rfl) | (refine l_assign ?_; (refine SXl.v (OpW.assign rfl) rfl ?_ ?_ ?_); rfl; rfl) | (refine l_add ?_; (refine SXl.v (OpW.succ rfl rfl (by omega)) rfl ?_ ?_ ?_); rfl; rfl) | (refine l_append ?_; first | (refine SXl.append 0 0 rfl rfl rfl rfl rfl rfl rfl rfl (by omega) (by omega) (fun a c => ?_); simp only [List.set_cons_zero, List.set_cons_succ]) | (refine SXl.append 1 0 rfl rfl rfl rfl rfl rfl rfl rfl (by omega) (by omega) (fun a c => ?_); simp only [List.set_cons_zero, List.set_cons_succ])) | (refine l_buildSlice ?_; refine SXl.litRow1 rfl rfl rfl rfl (Item.cells_len _) (by decide) (by decide) (fun g => ?_)) | refine SQ.blockNormal ?_)
    rw [items_push]
    refine SQ.round3 (k + 1) ⟨xs ++ [z], a, c⟩ () ⟨by simp [hk], (FitItems.push (m := k) ⟨hq1, by omega⟩ hz).1, by rw [List.length_append, List.length_singleton]; omega⟩ (by omega) ?_ (fun w hl => hl.drop1)
    (repeat (first | exact subF_nil _ | (refine subF_cons rfl ?_) | (refine subF_consv rfl (by simp [ItemsQ.v]) ?_)))
  · repeat (first | refine SX.seq ?_ | refine SXl.nil ?_ | refine SX.region ?_ | refine SQ.thenNormal ?_ | refine SX.condF rfl ?_ | (refine l_move ?_; (refine SXl.v (OpW.move rfl) rfl ?_ ?_ ?_); rfl; rfl) | (refine l_assign ?_; (refine SXl.v (OpW.assign rfl) rfl ?_ ?_ ?_); rfl; rfl) | (refine l_lss ?_; (refine SXl.v (OpW.lssF rfl rfl (by omega)) rfl ?_ ?_ ?_); rfl; rfl) | refine SX.ret ?_ | refine SX.exit ?_ | refine SQ.thenExit ?_ | refine SQ.blockExit ?_)
    refine SQ.body1 rfl rfl (fun w' hl => ⟨⟨xs, qa, qc⟩, rfl, ⟨hq1, hq2⟩, hl.owns, hl.mod, hl.inv⟩)
end Go.Proofs.Ytdohglcjjlmhhaa
namespace Go.Proofs.Ytdohglcjjlmhhaa
open Go.RowKit
set_option linter.unusedVariables false
set_option linter.unusedSimpArgs false

/-- Operation k comes up: not before; whom it waits for have come; who has come up had its own behind it. -/
structure Adm (ops : Array Oper) (d : Nat → Bool) (k : Nat) : Prop where
  not : d k = false
  pre : ∀ i ∈ reach ops ops.size k, d i = true
  clo : ∀ j, d j = true → ∀ i ∈ reach ops ops.size j, d i = true
def upd (d : Nat → Bool) (k : Nat) : Nat → Bool := fun j => Nat.beq j k || d j
def upx (x : Nat → Value) (k : Nat) (v : Value) : Nat → Value := fun j => bif Nat.beq j k then v else x j
theorem Adm.done {ops : Array Oper} {d : Nat → Bool} {k : Nat} (h : Adm ops d k) (i : Nat) (hi : (reach ops ops.size k).contains i = true) : d i = true := h.pre i (by simpa using hi)
/-- Who waits for k has not come up. -/
theorem Adm.later {ops : Array Oper} {d : Nat → Bool} {k : Nat} (h : Adm ops d k) (j : Nat) (hj : (reach ops ops.size j).contains k = true) : d j = false := by
  cases hq : d j with
  | false => rfl
  | true =>
    have := h.clo j hq k (by simpa using hj)
    rw [h.not] at this
    cases this

/-- The walk in the text's order. d: who has come up; x: what the operations gave, by their number. -/
inductive RG (P : Program) (ops : Array Oper) (S : (Nat → Bool) → (Nat → Value) → World → Prop) (Q : Exit → Act → World → Prop) : Nat → List Oper → ((Nat → Value) → Act) → Prop
  | done {k : Nat} {F : (Nat → Value) → Act} (h : ∀ x w, S (fun i => Nat.blt i k) x w → Q .normal (F x) w) : RG P ops S Q k [] F
  | skip {k : Nat} {o : Oper} {rest : List Oper} {F : (Nat → Value) → Act} (hw : ∀ x, Region.wanted o (yielded ops (F x).tmps) = false) (hs : ∀ d x w, S d x w → S (upd d k) x w)
      (h : RG P ops S Q (k + 1) rest (fun x => (F x).put o.dst undef)) : RG P ops S Q k (o :: rest) F
  | val {k : Nat} {o : Oper} {rest : List Oper} {F : (Nat → Value) → Act} (us : List Nat) (g : (Nat → Value) → Value)
      (hus : (us.all fun i => (reach ops ops.size k).contains i) = true) (hg : ∀ x y, (∀ i ∈ us, x i = y i) → g x = g y)
      (hw : ∀ x, Region.wanted o (yielded ops (F x).tmps) = true)
      (ho : ∀ d x w, Adm ops d k → S d x w → o.wp P (F x) w (fun a' w' => a' = (F x).put o.dst (g x) ∧ S (upd d k) x w') never)
      (h : RG P ops S Q (k + 1) rest (fun x => (F x).put o.dst (g x))) : RG P ops S Q k (o :: rest) F
  | new {k : Nat} {o : Oper} {rest : List Oper} {F : (Nat → Value) → Act}
      (hw : ∀ x, Region.wanted o (yielded ops (F x).tmps) = true)
      (ho : ∀ d x w, Adm ops d k → S d x w → o.wp P (F x) w (fun a' w' => ∃ v, a' = (F x).put o.dst v ∧ S (upd d k) (upx x k v) w') never)
      (h : RG P ops S Q (k + 1) rest (fun x => (F x).put o.dst (x k))) : RG P ops S Q k (o :: rest) F

section
variable {P : Program} {ops : Array Oper} {S : (Nat → Bool) → (Nat → Value) → World → Prop} {Q : Exit → Act → World → Prop}
/-- What the walk says of one operation. -/
def SpecG (P : Program) (ops : Array Oper) (S : (Nat → Bool) → (Nat → Value) → World → Prop) (k : Nat) (o : Oper) (A : (Nat → Value) → Act) (g : (Nat → Value) → Value) : Prop :=
  ((∀ x, Region.wanted o (yielded ops (A x).tmps) = false) ∧ g = (fun _ => undef) ∧ ∀ d x w, S d x w → S (upd d k) x w) ∨
  (∃ us : List Nat, (∀ i ∈ us, i ∈ reach ops ops.size k) ∧ (∀ x y, (∀ i ∈ us, x i = y i) → g x = g y) ∧ (∀ x, Region.wanted o (yielded ops (A x).tmps) = true) ∧
    ∀ d x w, Adm ops d k → S d x w → o.wp P (A x) w (fun a' w' => a' = (A x).put o.dst (g x) ∧ S (upd d k) x w') never) ∨
  (g = (fun x => x k) ∧ (∀ x, Region.wanted o (yielded ops (A x).tmps) = true) ∧
    ∀ d x w, Adm ops d k → S d x w → o.wp P (A x) w (fun a' w' => ∃ v, a' = (A x).put o.dst v ∧ S (upd d k) (upx x k v) w') never)

theorem RG.out {k : Nat} {rest : List Oper} {F : (Nat → Value) → Act} (h : RG P ops S Q k rest F) :
    ∀ (a0 : Act) (G0 : Nat → (Nat → Value) → Value), (∀ j, j < rest.length → rest[j]? = ops[k + j]?) → F = (fun x => frm ops a0 G0 x k) →
    ∃ (G : Nat → (Nat → Value) → Value), (∀ i, i < k → G i = G0 i) ∧
      (∀ i o, k ≤ i → i < k + rest.length → ops[i]? = some o → SpecG P ops S i o (fun x => frm ops a0 G x i) (G i)) ∧
      (∀ x w, S (fun i => Nat.blt i (k + rest.length)) x w → Q .normal (frm ops a0 G x (k + rest.length)) w) := by
  have frmEq : ∀ (a0 : Act) (G G' : Nat → (Nat → Value) → Value) (m : Nat), (∀ i, i < m → G i = G' i) → ∀ x, frm ops a0 G x m = frm ops a0 G' x m := by
    intro a0 G G' m
    induction m with
    | zero => intro _ _; rfl
    | succ m ih => intro hG x; simp only [frm]; rw [ih (fun i hi => hG i (by omega)) x, hG m (by omega)]
  have more : ∀ (k : Nat) (o : Oper) (rest : List Oper) (g : (Nat → Value) → Value) (a0 : Act) (G0 : Nat → (Nat → Value) → Value),
      (∀ j, j < (o :: rest).length → (o :: rest)[j]? = ops[k + j]?) → SpecG P ops S k o (fun x => frm ops a0 G0 x k) g →
      (∀ (a1 : Act) (G1 : Nat → (Nat → Value) → Value), (∀ j, j < rest.length → rest[j]? = ops[k + 1 + j]?) → (fun x => (frm ops a0 G0 x k).put o.dst (g x)) = (fun x => frm ops a1 G1 x (k + 1)) →
        ∃ (G : Nat → (Nat → Value) → Value), (∀ i, i < k + 1 → G i = G1 i) ∧
          (∀ i o, k + 1 ≤ i → i < k + 1 + rest.length → ops[i]? = some o → SpecG P ops S i o (fun x => frm ops a1 G x i) (G i)) ∧
          (∀ x w, S (fun i => Nat.blt i (k + 1 + rest.length)) x w → Q .normal (frm ops a1 G x (k + 1 + rest.length)) w)) →
      ∃ (G : Nat → (Nat → Value) → Value), (∀ i, i < k → G i = G0 i) ∧
        (∀ i o', k ≤ i → i < k + (o :: rest).length → ops[i]? = some o' → SpecG P ops S i o' (fun x => frm ops a0 G x i) (G i)) ∧
        (∀ x w, S (fun i => Nat.blt i (k + (o :: rest).length)) x w → Q .normal (frm ops a0 G x (k + (o :: rest).length)) w) := by
    intro k o rest g a0 G0 hr hsp ih
    have ho : ops[k]? = some o := by simpa using (hr 0 (by simp)).symm
    have hd : dstOf ops k = o.dst := by simp [dstOf, ho]
    let G1 : Nat → (Nat → Value) → Value := fun i => if i = k then g else G0 i
    have g1 : ∀ i, i < k → G1 i = G0 i := fun i hi => if_neg (by omega)
    have gk : G1 k = g := if_pos rfl
    obtain ⟨G, e1, e2, e3⟩ := ih a0 G1 (fun j hj => by have := hr (j + 1) (by simp; omega); simpa [Nat.add_assoc, Nat.add_comm 1 j] using this)
      (by funext x; simp only [frm, gk, hd]; rw [frmEq a0 G1 G0 k g1 x])
    refine ⟨G, fun i hi => (e1 i (by omega)).trans (g1 i hi), fun i o' hi hlt ho' => ?_, by simpa [Nat.add_assoc, Nat.add_comm 1] using e3⟩
    by_cases e : i = k
    · subst e
      obtain rfl : o = o' := by rw [ho] at ho'; simpa using ho'
      have fe := frmEq a0 G G0 i (fun j hj => (e1 j (by omega)).trans (g1 j hj))
      have ge : G i = g := (e1 i (by omega)).trans gk
      rw [ge, show (fun x => frm ops a0 G x i) = fun x => frm ops a0 G0 x i from funext fe]
      exact hsp
    · exact e2 i o' (by omega) (by simp only [List.length_cons] at hlt; omega) ho'
  induction h with
  | @done k F h =>
    intro a0 G0 hr hF
    subst hF
    exact ⟨G0, fun i _ => rfl, fun i o hi hlt ho => by simp at hlt; omega, h⟩
  | @skip k o rest F hw hs h ih =>
    intro a0 G0 hr hF
    subst hF
    exact more k o rest (fun _ => undef) a0 G0 hr (.inl ⟨hw, rfl, hs⟩) ih
  | @val k o rest F us g hus hg hw hop h ih =>
    intro a0 G0 hr hF
    subst hF
    exact more k o rest g a0 G0 hr (.inr (.inl ⟨us, contains_all hus, hg, hw, hop⟩)) ih
  | @new k o rest F hw hop h ih =>
    intro a0 G0 hr hF
    subst hF
    exact more k o rest (fun x => x k) a0 G0 hr (.inr (.inr ⟨rfl, hw, hop⟩)) ih

/-- WHATEVER ORDER of the first n: the walk in the text's order serves; behind them the rest goes in its own order. -/
theorem RG.any {n : Nat} {a0 : Act} {w0 : World} (hc : regOkTo n ops = true) (ht : n = ops.size ∨ tailOk ops n = true) (h : RG P ops S (fun _ a w => wpList P ops Q (ops.toList.drop n) a w) 0 (ops.toList.take n) (fun _ => a0)) (hS : S (fun _ => false) (fun _ => undef) w0) :
    wpAny P .any ops Q ops.size (Array.replicate ops.size false) a0 w0 := by
  obtain ⟨c1, c2, c3, c4⟩ := regOk_spec hc
  have hnle : n ≤ ops.size := by
    rcases ht with rfl | ht
    · exact Nat.le_refl _
    · simp only [tailOk, Bool.and_eq_true, decide_eq_true_eq] at ht
      omega
  have htn : 0 + (ops.toList.take n).length = n := by simp; omega
  obtain ⟨G, _, hspec, hfin⟩ := h.out a0 (fun _ _ => undef) (fun j hj => by
    have hj' : j < n := by omega
    simp [hj']) rfl
  rw [htn] at hfin
  have gdep : ∀ i o, i < n → ops[i]? = some o → ∀ x y, (∀ j, (j ∈ reach ops ops.size i ∨ j = i) → x j = y j) → G i x = G i y := fun i o hin ho x y hxy => by
    have hs := hspec i o (Nat.zero_le _) (by rw [htn]; exact hin) ho
    rcases hs with ⟨_, hg, _⟩ | ⟨us, hus, hg, _⟩ | ⟨hg, _⟩
    · rw [hg]
    · exact hg x y fun j hj => hxy j (.inl (hus j hj))
    · rw [hg]; show x i = y i; rw [hxy i (.inr rfl)]
  have main : ∀ (fuel : Nat) (listed : Array Bool) (a : Act) (w : World) (x : Nat → Value), listed.size = ops.size → (unlistedTo n listed).length = fuel →
      (∀ i, listed.getD i false = true → ∀ o, ops[i]? = some o → ∀ e ∈ o.after, Region.binds .any e = true → listed.getD e.on false = true) →
      (∀ t, n ≤ t → t < ops.size → listed.getD t true = false) →
      Laid ops a0 G x (fun i => listed.getD i false = true) a → S (fun i => listed.getD i false) x w → wpAny P .any ops Q (fuel + (ops.size - n)) listed a w := by
    intro fuel
    induction fuel with
    | zero =>
      intro listed a w x hsz hfu hcl htl hla hSw
      have hall : ∀ i, i < n → listed.getD i false = true := fun i hi => by
        have h0 : unlistedTo n listed = [] := List.eq_nil_of_length_eq_zero hfu
        by_cases hn' : listed.getD i false = true
        · exact hn'
        · have : i ∈ unlistedTo n listed := by
            unfold unlistedTo
            rw [List.mem_filter, List.mem_range]
            have hi' : i < listed.size := by omega
            simp only [Array.getD_eq_getD_getElem?, Array.getElem?_eq_getElem hi', Option.getD_some, Bool.not_eq_true] at hn' ⊢
            exact ⟨hi, by rw [hn']; rfl⟩
          rw [h0] at this; simp at this
      have hon : ∀ i, listed.getD i false = true → i < n := fun i hi => by
        by_cases h : i < n
        · exact h
        · by_cases h2 : i < ops.size
          · have := getD_both (htl i (Nat.le_of_not_lt h) h2)
            rw [this] at hi; cases hi
          · rw [Array.getD_eq_getD_getElem?, Array.getElem?_eq_none (by omega)] at hi; cases hi
      have eL : listed = headDone n ops.size := by
        have hds : (headDone n ops.size).size = ops.size := by simp [headDone]; omega
        apply Array.ext (by rw [hds, hsz])
        intro i h1 h2
        have e1 : listed.getD i false = listed[i] := by simp [h1]
        by_cases hi : i < n
        · have := hall i hi
          rw [e1] at this
          rw [this]
          simp [headDone, hi]
        · have := getD_both (htl i (Nat.le_of_not_lt hi) (by omega))
          rw [e1] at this
          rw [this]
          simp [headDone, Array.getElem_append, hi]
      have e : a = frm ops a0 G x n := by
        have hb := laid_frm hc a0 G x n (by omega)
        have ht : a.tmps = (frm ops a0 G x n).tmps := by
          apply Array.ext_getElem?
          intro t
          by_cases hs : t < a0.tmps.size
          · by_cases he : ∃ i, i < n ∧ dstOf ops i = some t
            · obtain ⟨i, hin, hi⟩ := he
              rw [hla.on i t (hall i hin) hi hs, hb.on i t hin hi hs]
            · rw [hla.off t (fun i hli hi => he ⟨i, hon i hli, hi⟩), hb.off t (fun i hin hi => he ⟨i, hin, hi⟩)]
          · rw [Array.getElem?_eq_none (by rw [hla.size]; exact Nat.le_of_not_lt hs), Array.getElem?_eq_none (by rw [hb.size]; exact Nat.le_of_not_lt hs)]
        have hd : a.defers = (frm ops a0 G x n).defers := hla.defers.trans hb.defers.symm
        cases a; cases hf : frm ops a0 G x n
        rw [hf] at ht hd
        simp only at ht hd
        rw [ht, hd]
      have hlen : (ops.toList.drop n).length = ops.size - n := by simp
      have ed : (fun i => listed.getD i false) = fun i => Nat.blt i n := by
        funext i
        by_cases hi : i < n
        · rw [hall i hi]
          exact (show Nat.blt i n = true by simpa using hi).symm
        · have h1 : listed.getD i false = false := by
            cases hq : listed.getD i false with
            | false => rfl
            | true => exact (hi (hon i hq)).elim
          rw [h1]
          cases hq : Nat.blt i n with
          | false => rfl
          | true => exact (hi (by simpa using hq)).elim
      have hw := hfin x w (ed ▸ hSw)
      rw [← e] at hw
      rcases ht with rfl | ht
      · have e0 : ops.toList.drop ops.size = [] := List.drop_eq_nil_of_le (by simp)
        rw [e0] at hw
        rw [Nat.zero_add, Nat.sub_self]
        refine ⟨?_, hw⟩
        cases hr : Region.ready .any ops listed with
        | nil => rfl
        | cons i rest =>
          have hi : i ∈ Region.ready .any ops listed := by rw [hr]; exact List.mem_cons_self
          obtain ⟨h1, o, ho, _⟩ := mem_ready.1 hi
          have hlt := (Array.getElem?_eq_some_iff.1 ho).1
          have h2 := hall i hlt
          have hi' : i < listed.size := by omega
          simp only [Array.getD_eq_getD_getElem?, Array.getElem?_eq_getElem hi', Option.getD_some] at h1 h2
          rw [h1] at h2; cases h2
      · simp only [tailOk, Bool.and_eq_true, decide_eq_true_eq] at ht
        obtain ⟨⟨⟨hn, hs1⟩, hs2⟩, hs3⟩ := ht
        have := wpAny_of_seq (md := .any) (ops.toList.drop n) n listed a w (fun j => by simp [List.getElem?_drop]) (by rw [hlen, eL]; exact hs3) hw
        rw [hlen] at this
        rw [Nat.zero_add]
        exact this
    | succ fuel ih =>
      intro listed a w x hsz hfu hcl htl hla hSw
      have inv : HeadInv .any ops n listed := ⟨hsz, fun j oj hj hl e he hb => hcl j hl oj hj e he hb, htl⟩
      obtain ⟨j0, hj0⟩ : ∃ j0, j0 < n ∧ listed.getD j0 true = false := by
        cases hu : unlistedTo n listed with
        | nil => rw [hu] at hfu; cases hfu
        | cons j r =>
          have : j ∈ unlistedTo n listed := by rw [hu]; exact List.mem_cons_self
          unfold unlistedTo at this
          rw [List.mem_filter, List.mem_range] at this
          exact ⟨j, this.1, by simpa using this.2⟩
      have lt_of_listed : ∀ j, listed.getD j false = true → j < n := fun i hi => by
        by_cases h : i < n
        · exact h
        · by_cases h2 : i < ops.size
          · have := getD_both (htl i (Nat.le_of_not_lt h) h2)
            rw [this] at hi; cases hi
          · rw [Array.getD_eq_getD_getElem?, Array.getElem?_eq_none (by omega)] at hi; cases hi
      -- an operation that comes up
      have step : ∀ i ∈ Region.ready .any ops listed, wpOp P ops Q i (wpAny P .any ops Q (fuel + (ops.size - n)) (listed.setIfInBounds i true)) a w := by
        intro i hi
        have hin : i < n := by
          by_cases h : i < n
          · exact h
          · rcases ht with rfl | ht
            · obtain ⟨_, o, ho, _⟩ := mem_ready.1 hi
              exact (Array.getElem?_eq_some_iff.1 ho).1
            · simp only [tailOk, Bool.and_eq_true, decide_eq_true_eq] at ht
              obtain ⟨⟨⟨hn, hs1⟩, hs2⟩, hs3⟩ := ht
              exact (tail_waits hs1 hs2 hn inv (n - j0) j0 rfl hj0.1 hj0.2 i (Nat.le_of_not_lt h) hi).elim
        obtain ⟨h1, o, ho, h2⟩ := mem_ready.1 hi
        have hlt := (Array.getElem?_eq_some_iff.1 ho).1
        have hli : i < listed.size := by omega
        have hun : listed.getD i false = false := by
          simp only [Array.getD_eq_getD_getElem?, Array.getElem?_eq_getElem hli, Option.getD_some] at h1 ⊢
          exact h1
        have hd : dstOf ops i = o.dst := by simp [dstOf, ho]
        have hset : ∀ j, (listed.setIfInBounds i true).getD j false = true ↔ listed.getD j false = true ∨ j = i := fun j => by
          by_cases e : i = j
          · subst e; simp [hli]
          · rw [getD_set_ne false e]
            exact ⟨.inl, fun h => h.elim id fun h => (e h.symm).elim⟩
        have hcl' : ∀ j, (listed.setIfInBounds i true).getD j false = true → ∀ p, ops[j]? = some p → ∀ e ∈ p.after, Region.binds .any e = true → (listed.setIfInBounds i true).getD e.on false = true := fun j hj p hp e he hb => by
          rw [hset] at hj ⊢
          rcases hj with hj | rfl
          · exact .inl (hcl j hj p hp e he hb)
          · obtain rfl : o = p := by rw [ho] at hp; simpa using hp
            exact .inl (h2 e he hb)
        have hsz' : (listed.setIfInBounds i true).size = ops.size := by simpa using hsz
        have hfu' : (unlistedTo n (listed.setIfInBounds i true)).length = fuel := by
          have e : unlistedTo n (listed.setIfInBounds i true) = (unlistedTo n listed).erase i := by
            unfold unlistedTo
            rw [List.Nodup.erase_eq_filter (List.nodup_range.filter _), List.filter_filter]
            refine List.filter_congr fun j _ => ?_
            by_cases hj : i = j
            · subst hj; simp [hli]
            · rw [getD_set_ne true hj]; simp [Ne.symm hj]
          rw [e, List.length_erase_of_mem, hfu]
          · rfl
          · unfold unlistedTo
            rw [List.mem_filter, List.mem_range]
            exact ⟨hin, by rw [h1]; rfl⟩
        have htl' : ∀ t, n ≤ t → t < ops.size → (listed.setIfInBounds i true).getD t true = false := fun t ht ht' => by rw [getD_set_ne true (by omega)]; exact htl t ht ht'
        have hself : ∀ t ∈ o.looksAt ops, (∃ j, dstOf ops j = some t ∧ listed.getD j false = true ∧ j < i) ∨ ∀ j, dstOf ops j = some t → ¬ listed.getD j false = true ∧ ¬ j < i := fun t ht => by
          by_cases hex : ∃ j, j < n ∧ dstOf ops j = some t
          · obtain ⟨j, hjn, hj⟩ := hex
            obtain ⟨p, hp, hpt⟩ := Option.bind_eq_some_iff.1 hj
            obtain ⟨e, he, hb, rfl⟩ := c4 i j o p t hin hjn ho hp hpt ht
            exact .inl ⟨e.on, hj, h2 e he hb, c2 i o ho e he hb⟩
          · exact .inr fun j hj => ⟨fun hl => hex ⟨j, lt_of_listed j hl, hj⟩, fun hl => hex ⟨j, by omega, hj⟩⟩
        have hreach : ∀ j ∈ reach ops ops.size i, listed.getD j false = true :=
          reach_listed (L := fun j => listed.getD j false = true) hcl ops.size i (fun p hp e he hb => by
            obtain rfl : o = p := by rw [ho] at hp; simpa using hp
            exact h2 e he hb)
        have hdist : ∀ j t, listed.getD j false = true → dstOf ops j = some t → dstOf ops i = some t → j = i := fun j t _ hj hi' => by
          obtain ⟨p, hp, hpt⟩ := Option.bind_eq_some_iff.1 hj
          obtain ⟨q, hq, hqt⟩ := Option.bind_eq_some_iff.1 hi'
          exact c3 j i p q t (lt_of_listed j ‹_›) hin hp hq hqt hpt
        have hsel : ∀ cs c, o.op ≠ .select cs c := fun cs c => Region.noSelect_spec c1 i o cs c ho
        have hfr := laid_frm hc a0 G x i (by omega)
        obtain ⟨he, hwa⟩ := Laid.same hla hfr hsel hself
        have hlaid' : Laid ops a0 G x (fun j => (listed.setIfInBounds i true).getD j false = true) (a.put o.dst (G i x)) := by
          have := hla.put i hdist
          rw [hd] at this
          have e : (fun j => listed.getD j false = true ∨ j = i) = fun j => (listed.setIfInBounds i true).getD j false = true := funext fun j => propext (hset j).symm
          rwa [e] at this
        have hs := hspec i o (Nat.zero_le _) (by rw [htn]; omega) ho
        have adm : Adm ops (fun j => listed.getD j false) i := ⟨hun, hreach, fun j hj => reach_listed (L := fun j => listed.getD j false = true) hcl ops.size j (fun q hq e he hb => hcl j hj q hq e he hb)⟩
        have hupd : (fun j => (listed.setIfInBounds i true).getD j false) = upd (fun j => listed.getD j false) i := by
          funext j
          by_cases e : j = i
          · subst e
            rw [(hset j).2 (.inr rfl)]
            simp [upd]
          · rw [getD_set_ne false (fun h => e h.symm)]
            have e' : Nat.beq j i = false := Bool.eq_false_iff.2 fun h => e (Nat.eq_of_beq_eq_true h)
            simp [upd, e']
        unfold wpOp
        simp only [ho]
        rcases hs with ⟨hw, hg, hsk⟩ | ⟨us, hus, _, hw, hop⟩ | ⟨hg, hw, hop⟩
        · rw [hwa, hw x]
          simp only [Bool.false_eq_true, if_false]
          have hgu : G i x = undef := by rw [hg]
          rw [hgu] at hlaid'
          exact ih _ _ w x hsz' hfu' hcl' htl' hlaid' (by rw [hupd]; exact hsk _ _ _ hSw)
        · rw [hwa, hw x]
          simp only [if_true]
          refine .inl (Oper.wp_mono ?_ (upon_transfer (R := fun v w' => v = G i x ∧ S (upd (fun j => listed.getD j false) i) x w') (b := frm ops a0 G x i) (by rw [hla.size, hfr.size]) he ?_))
          · rintro a' w' ⟨v, rfl, rfl, hS'⟩
            exact ih _ _ w' x hsz' hfu' hcl' htl' hlaid' (by rw [hupd]; exact hS')
          · refine Oper.wp_mono ?_ (hop _ x w adm hSw)
            rintro a' w' ⟨h1, h2⟩
            exact ⟨_, h1, rfl, h2⟩
        · rw [hwa, hw x]
          simp only [if_true]
          refine .inl (Oper.wp_mono ?_ (upon_transfer (R := fun v w' => S (upd (fun j => listed.getD j false) i) (upx x i v) w') (b := frm ops a0 G x i) (by rw [hla.size, hfr.size]) he ?_))
          · rintro a' w' ⟨v, rfl, hS'⟩
            have yi : upx x i v i = v := by simp [upx]
            have yo : ∀ j, j ≠ i → upx x i v j = x j := fun j hj => by
              have e' : Nat.beq j i = false := Bool.eq_false_iff.2 fun h => hj (Nat.eq_of_beq_eq_true h)
              simp [upx, e']
            have hGy : ∀ j, listed.getD j false = true → ∀ p, ops[j]? = some p → G j (upx x i v) = G j x := fun j hj p hp => by
              refine gdep j p (lt_of_listed j hj) hp (upx x i v) x fun m hm => yo m fun e => ?_
              subst e
              rcases hm with hm | rfl
              · have := reach_listed (L := fun j => listed.getD j false = true) hcl ops.size j (fun q hq e he hb => hcl j hj q hq e he hb) m hm
                rw [this] at hun; cases hun
              · rw [hj] at hun; cases hun
            have hla' : Laid ops a0 G (upx x i v) (fun j => listed.getD j false = true) a := by
              refine ⟨hla.defers, hla.size, fun j t hj ht hs => ?_, hla.off⟩
              obtain ⟨p, hp, _⟩ := Option.bind_eq_some_iff.1 ht
              rw [hGy j hj p hp]
              exact hla.on j t hj ht hs
            have hlaid2 : Laid ops a0 G (upx x i v) (fun j => (listed.setIfInBounds i true).getD j false = true) (a.put o.dst v) := by
              have := hla'.put i hdist
              rw [hd, show G i (upx x i v) = v by rw [hg]; exact yi] at this
              have e : (fun j => listed.getD j false = true ∨ j = i) = fun j => (listed.setIfInBounds i true).getD j false = true := funext fun j => propext (hset j).symm
              rwa [e] at this
            exact ih _ _ w' (upx x i v) hsz' hfu' hcl' htl' hlaid2 (by rw [hupd]; exact hS')
          · refine Oper.wp_mono ?_ (hop _ x w adm hSw)
            rintro a' w' ⟨v, h1, h2⟩
            exact ⟨v, h1, h2⟩
      rw [show fuel + 1 + (ops.size - n) = (fuel + (ops.size - n)) + 1 by omega]
      refine ⟨fun hr => ?_, step⟩
      exfalso
      have hall : ∀ i, i < ops.size → listed.getD i false = true := by
        intro i
        induction i using Nat.strongRecOn with
        | _ i ihi =>
          intro hi
          by_cases hn : listed.getD i false = true
          · exact hn
          · have hli : i < listed.size := by omega
            have : i ∈ Region.ready .any ops listed := mem_ready.2 ⟨by
                simp only [Array.getD_eq_getD_getElem?, Array.getElem?_eq_getElem hli, Option.getD_some, Bool.not_eq_true] at hn ⊢
                exact hn, ops[i], Array.getElem?_eq_getElem hi, fun e he hb => ihi e.on (c2 i _ (Array.getElem?_eq_getElem hi) e he hb) (by have := c2 i _ (Array.getElem?_eq_getElem hi) e he hb; omega)⟩
            rw [hr] at this; simp at this
      have h1 := hall j0 (by omega)
      rw [getD_both hj0.2] at h1
      cases h1
  have hcount : (unlistedTo n (Array.replicate ops.size false)).length = n := by
    unfold unlistedTo
    rw [List.filter_eq_self.2, List.length_range]
    intro i hi
    have hi' : i < ops.size := by have := List.mem_range.1 hi; omega
    simp [hi']
  have := main n _ a0 w0 (fun _ => undef) (by simp) hcount (fun i hi => ?_) (fun t _ ht => getD_in (by simpa using ht) (getD_replicate_false _ _)) ⟨rfl, rfl, fun i t hi => ?_, fun _ _ => rfl⟩ (by rw [show (fun i => (Array.replicate ops.size false).getD i false) = fun _ => false from funext fun i => getD_replicate_false _ _]; exact hS)
  · rwa [show n + (ops.size - n) = ops.size by omega] at this
  all_goals
    exfalso
    rw [getD_replicate_false] at hi
    cases hi

theorem wp_region_rg {id : Nat} {a : Act} {w : World} (n : Nat) (S : (Nat → Bool) → (Nat → Value) → World → Prop) (hm : P.follows .mixedOrders = true) (hc : regOkTo n ops = true) (ht : n = ops.size ∨ tailOk ops n = true) (hS : S (fun _ => false) (fun _ => undef) w.drew)
    (h : RG P ops S (fun _ a w => wpList P ops Q (ops.toList.drop n) a w) 0 (ops.toList.take n) (fun _ => a)) : (Code.region id ops true).wp P Q a w :=
  wp_region_any hm (RG.any hc ht h hS)
end
end Go.Proofs.Ytdohglcjjlmhhaa
namespace Go.Proofs.Ytdohglcjjlmhhaa
open Go.RowKit
set_option linter.unusedVariables false
set_option linter.unusedSimpArgs false

/-- The number of an int. -/
def intOf : Value → Int
  | .int _ n => n
  | _ => 0
/-- What is known of the values of operations that have come up. -/
def Kall {ζ : Type} : List (Nat × (ζ → Value → Prop)) → (Nat → Bool) → (Nat → Value) → ζ → Prop
  | [], _, _, _ => True
  | e :: l, d, x, p => (d e.1 = true → e.2 p (x e.1)) ∧ Kall l d x p
def Sg {ζ : Type} (W : World) (R : Rg W) (Ld : (Nat → Bool) → ζ → List Blk) (Od : (Nat → Bool) → ζ → List Own) (Ed : (Nat → Bool) → ζ → List Res) (Ks : List (Nat × (ζ → Value → Prop))) (d : Nat → Bool) (x : Nat → Value) (w : World) : Prop :=
  ∃ p, Loc W R (Ld d p) (Od d p) (Ed d p) w ∧ Kall Ks d x p
theorem kall_none {ζ : Type} (x : Nat → Value) (p : ζ) : ∀ Ks : List (Nat × (ζ → Value → Prop)), Kall Ks (fun _ => false) x p
  | [] => trivial
  | _ :: l => ⟨fun h => (Bool.false_ne_true h).elim, kall_none x p l⟩
theorem kall_other {ζ : Type} {d : Nat → Bool} {x : Nat → Value} {p : ζ} {k : Nat} : ∀ {Ks : List (Nat × (ζ → Value → Prop))}, (Ks.all fun e => !Nat.beq e.1 k) = true → Kall Ks d x p → Kall Ks (upd d k) x p
  | [], _, _ => trivial
  | e :: l, h, hk => by
    rw [List.all_cons, Bool.and_eq_true] at h
    refine ⟨fun hd => hk.1 ?_, kall_other h.2 hk.2⟩
    have h1 : Nat.beq e.1 k = false := by simpa using h.1
    unfold upd at hd
    rw [h1] at hd
    simpa using hd
structure SXg {ζ : Type} (P : Program) (n : Nat) (W : World) (R : Rg W) (ops : Array Oper) (Ld : (Nat → Bool) → ζ → List Blk) (Od : (Nat → Bool) → ζ → List Own) (Ed : (Nat → Bool) → ζ → List Res) (Ks : List (Nat × (ζ → Value → Prop))) (k : Nat) (f : (Nat → Value) → List (Nat × Value)) (l : List Oper) (Q : Exit → Act → World → Prop) : Prop where
  run : ∀ F : (Nat → Value) → Act, (∀ x, Fr n (f x) (F x)) → RG P ops (Sg W R Ld Od Ed Ks) Q k l F
/-- What an operation leaves. -/
def PostG {ζ : Type} (W : World) (R : Rg W) (Ld : (Nat → Bool) → ζ → List Blk) (Od : (Nat → Bool) → ζ → List Own) (Ed : (Nat → Bool) → ζ → List Res) (Ks : List (Nat × (ζ → Value → Prop))) (d : Nat → Bool) (k : Nat) (x : Nat → Value) (dst : Option Tmp) (e : Exit) (a : Act) (w : World) : Prop :=
  e = .normal ∧ a.defers = [] ∧ ∃ (p : ζ) (v : Value), (∀ dd, dst = some dd → a.tmps[dd]? = some v) ∧ Loc W R (Ld (upd d k) p) (Od (upd d k) p) (Ed (upd d k) p) w ∧ Kall Ks (upd d k) (upx x k v) p

theorem wp_of_list {P : Program} {ops : Array Oper} {o : Oper} {a : Act} {w : World} {K : Act → World → Prop} (hd : a.defers = []) (hw : Region.wanted o (yielded ops a.tmps) = true)
    (h : wpList P ops (fun e a' w' => e = .normal ∧ a'.defers = [] ∧ K a' w') [o] a w) : o.wp P a w (fun a' w' => ∃ v, a' = a.put o.dst v ∧ K a' w') never := by
  unfold wpList at h
  rw [if_pos hw] at h
  rcases h with h | ⟨_, _, _, h, _⟩
  · unfold Oper.wp at *
    generalize (execOp a.eval o).run P w = r at *
    cases r with
    | ok n w' =>
      cases n <;> simp only [Oper.upon, wpList] at h ⊢
      case value v => exact ⟨v, rfl, h.2.2⟩
      case skip => exact ⟨undef, rfl, h.2.2⟩
      case defer d =>
        have h1 := h.2.1
        rw [put_defers'] at h1
        cases h1
      case enter f args =>
        refine Calls.mono h fun e w'' he => ?_
        cases e with
        | returned u => exact ⟨u, rfl, he.2.2⟩
        | panicked c => exact absurd he.1 (by simp)
        | outgrown => obtain ⟨_, _, hf, _⟩ := he; exact absurd hf (by simp)
      case row row args => exact Rows.mono h fun u w'' he => ⟨u, rfl, he.2.2⟩
    | halt x w' =>
      cases x <;> simp only [Oper.upon, never] at h ⊢
      exact absurd h.1 (by simp)
  · exact absurd h (by simp)

section
variable {ζ : Type} {P : Program} {n : Nat} {W : World} {R : Rg W} {L L' : List Blk} {O O' : List Own} {E E' : List Res} {Ld : (Nat → Bool) → ζ → List Blk} {Od : (Nat → Bool) → ζ → List Own} {Ed : (Nat → Bool) → ζ → List Res} {Ks : List (Nat × (ζ → Value → Prop))} {f : (Nat → Value) → List (Nat × Value)} {f0 : List (Nat × Value)} {Q : Exit → Act → World → Prop} {ops : Array Oper} {rest : List Oper} {k : Nat}
theorem SX.drawnG {id : Nat} {l : List Oper} (m : Nat) (Ld : (Nat → Bool) → ζ → List Blk) (Od : (Nat → Bool) → ζ → List Own) (Ed : (Nat → Bool) → ζ → List Res) (Ks : List (Nat × (ζ → Value → Prop))) (p0 : ζ) (hm : P.follows .mixedOrders = true) (hc : regOkTo m l.toArray = true) (ht : (Nat.beq m l.toArray.size || tailOk l.toArray m) = true)
    (h0 : Ld (fun _ => false) p0 = L ∧ Od (fun _ => false) p0 = O ∧ Ed (fun _ => false) p0 = E)
    (h : SXg P n W R l.toArray Ld Od Ed Ks 0 (fun _ => f0) (l.take m) (fun _ a w => wpList P l.toArray Q (l.drop m) a w)) : SX P n W R L O E f0 (.region id l.toArray true) Q := ⟨fun a w hf hl => by
  refine wp_region_rg m (Sg W R Ld Od Ed Ks) hm hc ?_ ⟨p0, ?_, kall_none _ _ _⟩ (h.run _ fun _ => hf)
  · rcases Bool.or_eq_true_iff.1 ht with h1 | h1
    · exact .inl (Nat.eq_of_beq_eq_true h1)
    · exact .inr h1
  · rw [h0.1, h0.2.1, h0.2.2]
    exact hl.keep ((Mod.refl _ w).drew)⟩
theorem SXg.v {o : Oper} {d : Nat} (us : List Nat) (v : (Nat → Value) → Value) (hus : (us.all fun i => (reach ops ops.size k).contains i) = true) (hv : ∀ x y : Nat → Value, (∀ i ∈ us, x i = y i) → v x = v y)
    (hr : ∀ dn x p, Adm ops dn k → Kall Ks dn x p → OpW P n W R (Ld dn p) (Od dn p) (Ed dn p) (f x) o (v x)) (hdst : o.dst = some d) (hw : ∀ x, wantO ops (f x) o = some true) (hd : Nat.blt d n = true)
    (hs : ∀ dn p, Ld (upd dn k) p = Ld dn p ∧ Od (upd dn k) p = Od dn p ∧ Ed (upd dn k) p = Ed dn p) (hk : (Ks.all fun e => !Nat.beq e.1 k) = true)
    (h : SXg P n W R ops Ld Od Ed Ks (k + 1) (fun x => (d, v x) :: f x) rest Q) : SXg P n W R ops Ld Od Ed Ks k f (o :: rest) Q := ⟨fun F hF =>
  RG.val us v hus hv (fun x => wanted_of (hF x) (hw x)) (fun dn x w ha ⟨p, hl, hK⟩ => wp_never ((hr dn x p ha hK).run _ w (hF x) hl) fun _ _ ⟨h1, h2⟩ => ⟨h1, p, by rw [(hs dn p).1, (hs dn p).2.1, (hs dn p).2.2]; exact hl.keep h2, kall_other hk hK⟩)
    (by rw [hdst]; exact h.run _ fun x => (hF x).put hd (v x))⟩
/-- A value that hangs on no other. -/
theorem SXg.v0 {o : Oper} {d : Nat} {v : Value} (hr : ∀ dn x p, Adm ops dn k → Kall Ks dn x p → OpW P n W R (Ld dn p) (Od dn p) (Ed dn p) (f x) o v) (hdst : o.dst = some d) (hw : ∀ x, wantO ops (f x) o = some true) (hd : Nat.blt d n = true)
    (hs : ∀ dn p, Ld (upd dn k) p = Ld dn p ∧ Od (upd dn k) p = Od dn p ∧ Ed (upd dn k) p = Ed dn p) (hk : (Ks.all fun e => !Nat.beq e.1 k) = true)
    (h : SXg P n W R ops Ld Od Ed Ks (k + 1) (fun x => (d, v) :: f x) rest Q) : SXg P n W R ops Ld Od Ed Ks k f (o :: rest) Q :=
  SXg.v [] (fun _ => v) rfl (fun _ _ _ => rfl) hr hdst hw hd hs hk h
theorem SXg.no {o : Oper} {d : Nat} (hw : ∀ x, wantO ops (f x) o = some false) (hdst : o.dst = some d) (hd : Nat.blt d n = true)
    (hs : ∀ dn p, Ld (upd dn k) p = Ld dn p ∧ Od (upd dn k) p = Od dn p ∧ Ed (upd dn k) p = Ed dn p) (hk : (Ks.all fun e => !Nat.beq e.1 k) = true)
    (h : SXg P n W R ops Ld Od Ed Ks (k + 1) (fun x => (d, undef) :: f x) rest Q) : SXg P n W R ops Ld Od Ed Ks k f (o :: rest) Q := ⟨fun F hF =>
  RG.skip (fun x => wanted_of (hF x) (hw x)) (fun dn x w ⟨p, hl, hK⟩ => ⟨p, by rw [(hs dn p).1, (hs dn p).2.1, (hs dn p).2.2]; exact hl, kall_other hk hK⟩) (by rw [hdst]; exact h.run _ fun x => (hF x).put hd undef)⟩
/-- Any operation, by its rule outside regions. -/
theorem SXg.l {o : Oper} {d : Nat} (hdst : o.dst = some d) (hw : ∀ x, wantO ops (f x) o = some true) (hd : Nat.blt d n = true)
    (hr : ∀ dn x p, Adm ops dn k → Kall Ks dn x p → SXl P n W R ops (Ld dn p) (Od dn p) (Ed dn p) (f x) [o] (PostG W R Ld Od Ed Ks dn k x (some d)))
    (h : SXg P n W R ops Ld Od Ed Ks (k + 1) (fun x => (d, x k) :: f x) rest Q) : SXg P n W R ops Ld Od Ed Ks k f (o :: rest) Q := ⟨fun F hF =>
  RG.new (fun x => wanted_of (hF x) (hw x)) (fun dn x w ha ⟨p, hl, hK⟩ => by
    have h1 := wp_of_list (hF x).defers (wanted_of (hF x) (hw x)) ((hr dn x p ha hK).run _ w (hF x) hl)
    refine Oper.wp_mono ?_ h1
    rintro a' w' ⟨v, rfl, p', v', hv, h2, h3⟩
    have e := hv d rfl
    rw [hdst] at e
    rw [put_at _ d v (Nat.lt_of_lt_of_le (by simpa using hd) (hF x).size)] at e
    obtain rfl := Option.some.inj e
    exact ⟨v, rfl, p', h2, h3⟩) (by rw [hdst]; exact h.run _ fun x => (hF x).put hd _)⟩
/-- An operation that nobody takes a value from. -/
theorem SXg.s {o : Oper} (hdst : o.dst = none) (hw : ∀ x, wantO ops (f x) o = some true)
    (hr : ∀ dn x p, Adm ops dn k → Kall Ks dn x p → SXl P n W R ops (Ld dn p) (Od dn p) (Ed dn p) (f x) [o] (PostG W R Ld Od Ed Ks dn k x none)) (hk : (Ks.all fun e => !Nat.beq e.1 k) = true)
    (h : SXg P n W R ops Ld Od Ed Ks (k + 1) f rest Q) : SXg P n W R ops Ld Od Ed Ks k f (o :: rest) Q := ⟨fun F hF =>
  RG.new (fun x => wanted_of (hF x) (hw x)) (fun dn x w ha ⟨p, hl, hK⟩ => by
    have h1 := wp_of_list (hF x).defers (wanted_of (hF x) (hw x)) ((hr dn x p ha hK).run _ w (hF x) hl)
    refine Oper.wp_mono ?_ h1
    rintro a' w' ⟨v, rfl, p', v', _, h2, h3⟩
    refine ⟨v, rfl, p', h2, ?_⟩
    have other : ∀ (Ks : List (Nat × (ζ → Value → Prop))) (v v' : Value), (Ks.all fun e => !Nat.beq e.1 k) = true → Kall Ks (upd dn k) (upx x k v) p' → Kall Ks (upd dn k) (upx x k v') p' := by
      intro Ks v v'
      induction Ks with
      | nil => intro _ _; trivial
      | cons e l ih =>
        intro hk hK
        rw [List.all_cons, Bool.and_eq_true] at hk
        have h1 : Nat.beq e.1 k = false := by simpa using hk.1
        have e1 : ∀ v, upx x k v e.1 = x e.1 := fun v => by unfold upx; rw [h1]; rfl
        exact ⟨fun hd => by have := hK.1 hd; rw [e1] at this ⊢; exact this, ih hk.2 hK.2⟩
    exact other Ks v' v hk h3) (by rw [hdst]; exact h.run _ fun x => (hF x).puto _)⟩
theorem SQ.g {f' : List (Nat × Value)} {dn : Nat → Bool} {x : Nat → Value} {d : Nat} (p : ζ) (v : Value) (hv : look f' d = some v) (hL : ∀ w, Loc W R L O E w → Loc W R (Ld (upd dn k) p) (Od (upd dn k) p) (Ed (upd dn k) p) w) (hk : Kall Ks (upd dn k) (upx x k v) p) :
    SQ n W R L O E f' .normal (PostG W R Ld Od Ed Ks dn k x (some d)) := ⟨fun a w hf hl => ⟨rfl, hf.defers, p, v, fun dd hd => (Option.some.inj hd) ▸ hf.at_ _ _ hv, hL w hl, hk⟩⟩
theorem SQ.gs {f' : List (Nat × Value)} {dn : Nat → Bool} {x : Nat → Value} (p : ζ) (hL : ∀ w, Loc W R L O E w → Loc W R (Ld (upd dn k) p) (Od (upd dn k) p) (Ed (upd dn k) p) w) (hk : Kall Ks (upd dn k) (upx x k undef) p) :
    SQ n W R L O E f' .normal (PostG W R Ld Od Ed Ks dn k x none) := ⟨fun a w hf hl => ⟨rfl, hf.defers, p, undef, fun dd hd => (nomatch hd), hL w hl, hk⟩⟩
theorem SXg.nil (h : ∀ x p, Kall Ks (fun i => Nat.blt i k) x p → SQ n W R (Ld (fun i => Nat.blt i k) p) (Od (fun i => Nat.blt i k) p) (Ed (fun i => Nat.blt i k) p) (f x) .normal Q) : SXg P n W R ops Ld Od Ed Ks k f [] Q := ⟨fun F hF =>
  RG.done fun x w ⟨p, hl, hK⟩ => (h x p hK).run (F x) w (hF x) hl⟩
theorem SXg.tail (h : ∀ x p, Kall Ks (fun i => Nat.blt i k) x p → SXl P n W R ops (Ld (fun i => Nat.blt i k) p) (Od (fun i => Nat.blt i k) p) (Ed (fun i => Nat.blt i k) p) (f x) rest Q) : SXg P n W R ops Ld Od Ed Ks k f [] (fun _ a w => wpList P ops Q rest a w) := ⟨fun F hF =>
  RG.done fun x w ⟨p, hl, hK⟩ => (h x p hK).run (F x) w (hF x) hl⟩
theorem Loc.blkPerm {w : World} (h : Loc W R L O E w) (hs : L'.Perm L) : Loc W R L' O E w where
  mod := h.mod
  inv := h.inv
  blk := fun b hb => h.blk b (hs.subset hb)
  apart := (hs.symm.pairwise_iff (fun {a b} hab e => hab e.symm)).1 h.apart
  own := fun o ho => ⟨(h.own o ho).1, fun b hb => (h.own o ho).2 b (hs.subset hb)⟩
  ownApart := h.ownApart
  res := fun F hF => ⟨(h.res F hF).1, (h.res F hF).2.1, fun b hb => (h.res F hF).2.2.1 b (hs.subset hb), (h.res F hF).2.2.2⟩
  resNew := h.resNew
  resApart := h.resApart
theorem Loc.blkSub {w : World} (h : Loc W R L O E w) (hs : L'.Sublist L) : Loc W R L' O E w where
  mod := h.mod
  inv := h.inv
  blk := fun b hb => h.blk b (hs.subset hb)
  apart := h.apart.sublist hs
  own := fun o ho => ⟨(h.own o ho).1, fun b hb => (h.own o ho).2 b (hs.subset hb)⟩
  ownApart := h.ownApart
  res := fun F hF => ⟨(h.res F hF).1, (h.res F hF).2.1, fun b hb => (h.res F hF).2.2.1 b (hs.subset hb), (h.res F hF).2.2.2⟩
  resNew := h.resNew
  resApart := h.resApart
end
end Go.Proofs.Ytdohglcjjlmhhaa
namespace Go.Proofs.Ytdohglcjjlmhhaa
open Go.RowKit
set_option linter.unusedVariables false
set_option linter.unusedSimpArgs false

def flexOk (l : List Item) (gap inner : Int) : Bool := itemsOk l && inB gap 0 1048576 && inB inner 0 1048576
def flexEnd (l : List Item) (gap inner : Int) : Held × Nat := flexRun (growsOf l gap inner) gap inner (freeN (startOf (growsOf l gap inner) l)) (startOf (growsOf l gap inner) l)
/-- The sizes of the items of a line. -/
def flexSizes (l : List Item) (gap inner : Int) : List Int := if flexOk l gap inner = true then heldSizes (flexEnd l gap inner).1 else l.map hyp
def flexCount (l : List Item) (gap inner : Int) : Nat := if flexOk l gap inner = true then (flexEnd l gap inner).2 else 0
theorem flexOk_parts {l : List Item} {gap inner : Int} (h : flexOk l gap inner = true) : (∀ x ∈ l, Right x) ∧ l.length ≤ 12 ∧ (0 ≤ gap ∧ gap ≤ 1048576) ∧ 0 ≤ inner ∧ inner ≤ 1048576 := by
  unfold flexOk itemsOk inB at h
  simp only [Bool.and_eq_true, decide_eq_true_eq, List.all_eq_true] at h
  obtain ⟨⟨⟨h1, h2⟩, h3⟩, h4⟩ := h
  exact ⟨fun x hx => right_of (h1 x hx), h2, h3, h4⟩
theorem start_line {l : List Item} (g : Bool) (hr : ∀ x ∈ l, Right x) (hl : l.length ≤ 12) : Line (startOf g l) := by
  refine ⟨fun p hp => ?_, fun p hp s hs => ?_, ?_⟩
  · obtain ⟨x, hx, rfl⟩ := List.mem_map.1 hp
    exact hr x hx
  · obtain ⟨x, hx, rfl⟩ := List.mem_map.1 hp
    simp only at hs
    split at hs
    · rw [← Option.some.inj hs]; exact (hr x hx).hyp
    · cases hs
  · unfold startOf; rw [List.length_map]; exact hl
theorem pass_line {h : Held} {g : Bool} {gap inner : Int} (hl : Line h) : Line (passOf g gap inner h) := by
  have hf : (passOf g gap inner h).map (·.1) = h.map (·.1) := pass_items h
  refine ⟨fun p hp => ?_, fun p hp s hs => ?_, ?_⟩
  · have : p.1 ∈ h.map (·.1) := hf ▸ List.mem_map.2 ⟨p, hp, rfl⟩
    obtain ⟨q, hq, e⟩ := List.mem_map.1 this
    rw [← e]
    exact hl.right q hq
  · have hp' := hp
    unfold passOf flexPass at hp
    split at hp
    · exact share_size h 0 hl p hp s hs
    · obtain ⟨q, hq, rfl⟩ := List.mem_map.1 hp
      have hrq := hl.right q hq
      unfold holdOne at hs
      split at hs
      · rename_i u hu
        exact hl.size q hq s (by rw [hu]; exact hs)
      · split at hs
        · rw [← Option.some.inj hs]; exact hrq.least
        · split at hs
          · rw [← Option.some.inj hs]; exact hrq.upper
          · cases hs
  · have := congrArg List.length hf
    rw [List.length_map, List.length_map] at this
    rw [this]
    exact hl.few
theorem pass_len {h : Held} {g : Bool} {gap inner : Int} : (passOf g gap inner h).length = h.length := by
  have := congrArg List.length (pass_items (grows := g) (all := allOf g h) (rest := restOf g gap inner h) h)
  rw [List.length_map, List.length_map] at this
  exact this
theorem count_le (l : List Item) (g : Bool) (gap inner : Int) (n : Nat) : (flexRun g gap inner n (startOf g l)).2 ≤ l.length := by
  have h1 := flexRun_le (grows := g) (gap := gap) (inner := inner) n (startOf g l)
  have h2 := items_len (startOf g l)
  rw [← freeN_items] at h2
  have h3 : (startOf g l).length = l.length := by unfold startOf; exact List.length_map _
  omega
theorem perm3 {α : Type} (a b c : α) : [a, b, c].Perm [c, b, a] := List.reverse_perm [c, b, a]
theorem start_next {l : List Item} {k : Nat} {x : Item} (g : Bool) (h : l[k]? = some x) : startOf g (l.take (k + 1)) = startOf g (l.take k) ++ [(x, if holdFirst g x = true then some (hyp x) else none)] := by
  unfold startOf; exact map_next _ h
theorem heldL_app (a b : Held) : heldL (a ++ b) = heldL a ++ heldL b := List.map_append
theorem sizes_app (a b : Held) : heldSizes (a ++ b) = heldSizes a ++ heldSizes b := List.map_append
set_option maxRecDepth 100000 in
set_option maxHeartbeats 4000000 in
theorem l13Pass_nil (gr lc : Nat) (la : Option Addr) (w : World) (h0 : w.cell? ⟨gr, 0 + 0, none⟩ = some (.slice la 0 lc)) :
    Calls Try.prog 94 #[.pointer (some ⟨gr, 0, none⟩)] w fun e w' => e = .returned (.bool false) ∧ Mod (fun _ => False) w w' := by
  refine calls_sx Try.func94 rfl rfl (fun a h1 h2 h3 => ((Fr.nil h1 h2).arg (h3 0 _ rfl))) ?_
  repeat (first | refine SX.seq ?_ | refine SXl.nil ?_ | refine SX.region ?_ | refine SQ.thenNormal ?_ | refine SX.block ?_ | (refine l_assign ?_; (refine SXl.v (OpW.assign rfl) rfl ?_ ?_ ?_); rfl; rfl) | (refine l_buildSlice ?_; first | (refine SXl.lit1 ?_ ?_ rfl rfl rfl (fun g => ?_); rfl; rfl) | (refine SXl.lit0 ?_ ?_ (fun _ h => h) rfl (fun g => ?_); rfl; rfl)))
  rename_i g1
  revert g; intro g2
  refine SX.loop3 (fun (_ _ _ : Unit) => True) (fun _ _ _ => 0) (fun _ _ _ => []) (fun _ _ _ => [⟨.slice (some ⟨g2, 0, none⟩) 0 0, 3, 1, 0, []⟩, ⟨.slice (some ⟨g1, 0, none⟩) 0 0, 3, 1, 0, []⟩]) (fun _ _ _ => []) (fun _ _ _ => [(0, .pointer (some ⟨gr, 0, none⟩)), (3, .slice (some ⟨g1, 0, none⟩) 0 0), (4, .slice (some ⟨g2, 0, none⟩) 0 0), (5, .int .i64 0), (6, .int .i64 0)]) () () () trivial ?_ (fun _ hl => hl) ?_
  · (repeat (first | exact subF_nil _ | (refine subF_cons rfl ?_) | (refine subF_consv rfl (by rfl) ?_)))
  rintro _ _ _ _
  repeat (first | refine SX.seq ?_ | refine SXl.nil ?_ | refine SX.region ?_ | refine SQ.thenNormal ?_ | refine SX.condT rfl ?_ | refine SX.condF rfl ?_ | (refine l_load ?_; (refine SXl.v (OpW.loadOld rfl (by assumption) (fun h => h)) rfl ?_ ?_ ?_); rfl; rfl) | (refine l_fieldAddr ?_; (refine SXl.v (OpW.fieldAddr rfl) rfl ?_ ?_ ?_); rfl; rfl) | (refine l_move ?_; (refine SXl.v (OpW.move rfl) rfl ?_ ?_ ?_); rfl; rfl) | (refine l_assign ?_; (refine SXl.v (OpW.assign rfl) rfl ?_ ?_ ?_); rfl; rfl) | (refine l_len ?_; (refine SXl.v (OpW.len rfl) rfl ?_ ?_ ?_); rfl; rfl) | (refine l_nilCheck ?_; (refine SXl.v (OpW.nilCheck rfl) rfl ?_ ?_ ?_); rfl; rfl) | (refine l_eql ?_; (refine SXl.v (OpW.eqlT rfl rfl (by omega)) rfl ?_ ?_ ?_); rfl; rfl) | (refine l_lss ?_; (refine SXl.v (OpW.lssF rfl rfl (by omega)) rfl ?_ ?_ ?_); rfl; rfl) | refine SX.ret ?_ | refine SX.exit ?_ | refine SQ.thenRet ?_ | refine SQ.thenExit ?_ | refine SQ.blockExit ?_)
  refine SQ.body1 rfl rfl (fun w' hl => ⟨rfl, hl.mod⟩)
set_option maxRecDepth 100000 in
set_option maxHeartbeats 16000000 in
theorem l13Flex_any (l : List Item) (gap inner : Int) (a : Option Addr) (c : Nat) (R : Nat → Prop) (w : World) (hlen : l.length ≤ 1048570) (hf : ∀ x ∈ l, x.Fits) (h : ItemSlice R w a l) (hlow : ∀ k, R k → k < w.heap.size) :
    Calls Try.prog 62 #[.slice a l.length c, .int .i64 gap, .int .i64 inner] w (NewO (Option Addr × Nat) (fun q => .tuple #[lineV (flexSizes l gap inner, q), .int .i64 (flexCount l gap inner : Nat)]) (fun q => [lineO (flexSizes l gap inner, q)]) (fun _ => True) w) := by
  refine calls_sx Try.func62 rfl rfl (fun a h1 h2 h3 => (((Fr.nil h1 h2).arg (h3 2 _ rfl)).arg (h3 1 _ rfl)).arg (h3 0 _ rfl)) ?_
  have hO := fun (w' : World) (hm : Mod (fun _ => False) w w') => sitemsOk_any l a c R w' (by omega) (h.flatKeep hm)
  have hH := fun (w' : World) (hm : Mod (fun _ => False) w w') => shyps_any l a c R w' (by omega) (h.flatKeep hm)
  have hbad : flexOk l gap inner = false → flexSizes l gap inner = l.map hyp ∧ flexCount l gap inner = 0 := fun hb => by
    unfold flexSizes flexCount
    rw [hb]
    exact ⟨rfl, rfl⟩
  cases h1 : itemsOk l
  · rw [h1] at hO
    obtain ⟨e1, e2⟩ := hbad (by unfold flexOk; rw [h1]; rfl)
    rw [e1, e2]
    repeat (first | refine SX.seq ?_ | refine SXl.nil ?_ | refine SX.region ?_ | refine SQ.thenNormal ?_ | refine SX.condT rfl ?_ | (refine SXl.no rfl rfl rfl ?_) | (refine l_call ?_; (refine SXl.v (OpW.call rfl (fun w hl => hO _ hl.mod)) rfl ?_ ?_ ?_); rfl; rfl) | (refine l_move ?_; (refine SXl.v (OpW.move rfl) rfl ?_ ?_ ?_); rfl; rfl) | (refine l_assign ?_; (refine SXl.v (OpW.assign rfl) rfl ?_ ?_ ?_); rfl; rfl) | (refine l_not ?_; (refine SXl.v (OpW.not rfl) rfl ?_ ?_ ?_); rfl; rfl) | (refine l_pick ?_; (refine SXl.v (OpW.pick rfl rfl rfl) rfl ?_ ?_ ?_); rfl; rfl))
    refine l_call ?_
    refine SXl.callO (os := fun q : Option Addr × Nat => [lineO (l.map hyp, q)]) (v := fun q => lineV (l.map hyp, q)) (K := fun _ => True) rfl rfl rfl (fun w' hl => (hH w' hl.mod).mono fun e w2 ⟨a', c', he, ho, hm⟩ => ⟨(a', c'), he, trivial, ⟨fun o hq => by rw [List.mem_singleton.1 hq]; exact ho, List.pairwise_singleton _ _⟩, hm⟩) (fun q _ => ?_)
    repeat (first | refine SXl.nil ?_ | refine SQ.thenNormal ?_ | (refine l_assign ?_; (refine SXl.v (OpW.assign rfl) rfl ?_ ?_ ?_); rfl; rfl) | refine SX.ret ?_ | refine SQ.thenRet ?_)
    refine SQ.body2 rfl rfl rfl (fun w' hl => ⟨q, rfl, trivial, hl.owns, hl.mod⟩)
  rw [h1] at hO
  cases h2 : inB gap 0 1048576
  · obtain ⟨e1, e2⟩ := hbad (by unfold flexOk; rw [h1, h2]; rfl)
    rw [e1, e2]
    repeat (first | refine SX.seq ?_ | refine SXl.nil ?_ | refine SX.region ?_ | refine SQ.thenNormal ?_ | refine SX.condT rfl ?_ | (refine SXl.no rfl rfl rfl ?_) | (refine l_call ?_; (first | refine SXl.v (OpW.call rfl (fun w hl => hO _ hl.mod)) rfl ?_ ?_ ?_ | refine SXl.v (OpW.calls rfl (fun w _ => l01In_any _ _ _ _)) rfl ?_ ?_ ?_); rfl; rfl) | (refine l_move ?_; (refine SXl.v (OpW.move rfl) rfl ?_ ?_ ?_); rfl; rfl) | (refine l_assign ?_; (refine SXl.v (OpW.assign rfl) rfl ?_ ?_ ?_); rfl; rfl) | (refine l_not ?_; (refine SXl.v (OpW.not rfl) rfl ?_ ?_ ?_); rfl; rfl) | (refine l_pick ?_; (refine SXl.v (OpW.pick rfl rfl rfl) rfl ?_ ?_ ?_); rfl; rfl) | (rw [h2]))
    refine l_call ?_
    refine SXl.callO (os := fun q : Option Addr × Nat => [lineO (l.map hyp, q)]) (v := fun q => lineV (l.map hyp, q)) (K := fun _ => True) rfl rfl rfl (fun w' hl => (hH w' hl.mod).mono fun e w2 ⟨a', c', he, ho, hm⟩ => ⟨(a', c'), he, trivial, ⟨fun o hq => by rw [List.mem_singleton.1 hq]; exact ho, List.pairwise_singleton _ _⟩, hm⟩) (fun q _ => ?_)
    repeat (first | refine SXl.nil ?_ | refine SQ.thenNormal ?_ | (refine l_assign ?_; (refine SXl.v (OpW.assign rfl) rfl ?_ ?_ ?_); rfl; rfl) | refine SX.ret ?_ | refine SQ.thenRet ?_)
    refine SQ.body2 rfl rfl rfl (fun w' hl => ⟨q, rfl, trivial, hl.owns, hl.mod⟩)
  cases h3 : inB inner 0 1048576
  · obtain ⟨e1, e2⟩ := hbad (by unfold flexOk; rw [h1, h2, h3]; rfl)
    rw [e1, e2]
    repeat (first | refine SX.seq ?_ | refine SXl.nil ?_ | refine SX.region ?_ | refine SQ.thenNormal ?_ | refine SX.condT rfl ?_ | (refine l_call ?_; (first | refine SXl.v (OpW.call rfl (fun w hl => hO _ hl.mod)) rfl ?_ ?_ ?_ | refine SXl.v (OpW.calls rfl (fun w _ => l01In_any _ _ _ _)) rfl ?_ ?_ ?_); rfl; rfl) | (refine l_move ?_; (refine SXl.v (OpW.move rfl) rfl ?_ ?_ ?_); rfl; rfl) | (refine l_assign ?_; (refine SXl.v (OpW.assign rfl) rfl ?_ ?_ ?_); rfl; rfl) | (refine l_not ?_; (refine SXl.v (OpW.not rfl) rfl ?_ ?_ ?_); rfl; rfl) | (refine l_pick ?_; (refine SXl.v (OpW.pick rfl rfl rfl) rfl ?_ ?_ ?_); rfl; rfl) | (rw [h2]) | (rw [h3]))
    refine l_call ?_
    refine SXl.callO (os := fun q : Option Addr × Nat => [lineO (l.map hyp, q)]) (v := fun q => lineV (l.map hyp, q)) (K := fun _ => True) rfl rfl rfl (fun w' hl => (hH w' hl.mod).mono fun e w2 ⟨a', c', he, ho, hm⟩ => ⟨(a', c'), he, trivial, ⟨fun o hq => by rw [List.mem_singleton.1 hq]; exact ho, List.pairwise_singleton _ _⟩, hm⟩) (fun q _ => ?_)
    repeat (first | refine SXl.nil ?_ | refine SQ.thenNormal ?_ | (refine l_assign ?_; (refine SXl.v (OpW.assign rfl) rfl ?_ ?_ ?_); rfl; rfl) | refine SX.ret ?_ | refine SQ.thenRet ?_)
    refine SQ.body2 rfl rfl rfl (fun w' hl => ⟨q, rfl, trivial, hl.owns, hl.mod⟩)
  have hok : flexOk l gap inner = true := by unfold flexOk; rw [h1, h2, h3]; rfl
  obtain ⟨hr, hl12, hg, hin⟩ := flexOk_parts hok
  have hG := fun (w' : World) (hm : Mod (fun _ => False) w w') => sgrows_any l gap inner a c R w' (by omega) hf (by omega) (h.flatKeep hm)
  have e1 : flexSizes l gap inner = heldSizes (flexEnd l gap inner).1 := by unfold flexSizes; rw [hok]; rfl
  have e2 : flexCount l gap inner = (flexEnd l gap inner).2 := by unfold flexCount; rw [hok]; rfl
  rw [e1, e2]
  unfold flexEnd
  have hcnt := count_le l (growsOf l gap inner) gap inner (freeN (startOf (growsOf l gap inner) l))
  generalize growsOf l gap inner = grows at *
  repeat (first | refine SX.seq ?_ | refine SXl.nil ?_ | refine SX.region ?_ | refine SQ.thenNormal ?_ | refine SX.block ?_ | refine SX.skip ?_ | refine SX.condF rfl ?_ | (refine l_call ?_; (first | refine SXl.v (OpW.call rfl (fun w hl => hO _ hl.mod)) rfl ?_ ?_ ?_ | refine SXl.v (OpW.call rfl (fun w hl => hG _ hl.mod)) rfl ?_ ?_ ?_ | refine SXl.v (OpW.calls rfl (fun w _ => l01In_any _ _ _ _)) rfl ?_ ?_ ?_); rfl; rfl) | (refine l_build ?_; (refine SXl.v ((OpW.build (vals := [(0, .slice a l.length c), (1, .int .i64 gap), (2, .int .i64 inner), (3, .bool grows)]) (cells := [.slice a l.length c, .int .i64 gap, .int .i64 inner, .bool grows, .slice none 0 0, .slice none 0 0, .int .i64 0]) rfl (by kernel_rfl))) rfl ?_ ?_ ?_); rfl; rfl) | (refine l_move ?_; (refine SXl.v (OpW.move rfl) rfl ?_ ?_ ?_); rfl; rfl) | (refine l_assign ?_; (refine SXl.v (OpW.assign rfl) rfl ?_ ?_ ?_); rfl; rfl) | (refine l_not ?_; (refine SXl.v (OpW.not rfl) rfl ?_ ?_ ?_); rfl; rfl) | (refine l_pick ?_; (refine SXl.v (OpW.pick rfl rfl rfl) rfl ?_ ?_ ?_); rfl; rfl) | (refine l_box ?_; refine SXl.box ?_ ?_ rfl rfl (fun g => ?_); rfl; rfl) | (rw [h2]) | (rw [h3]))
  revert g; intro gr
  have hSL := start_line grows hr hl12
  refine SX.ownNil 3 1 ?_
  refine SX.ownNil 4 1 ?_
  refine SX.loop3 (fun (i : Nat) (_ _ : Option Addr × Nat) => i ≤ l.length) (fun i _ _ => l.length - i) (fun i qh qs => [⟨gr, [.slice a l.length c, .int .i64 gap, .int .i64 inner, .bool grows, .slice qh.1 i qh.2, .slice qs.1 i qs.2, .int .i64 0], 124⟩]) (fun i qh qs => [⟨.slice qh.1 i qh.2, 4, 1, i, (heldL (startOf grows (l.take i))).map Value.bool⟩, ⟨.slice qs.1 i qs.2, 3, 1, i, (heldSizes (startOf grows (l.take i))).map (Value.int .i64)⟩]) (fun _ _ _ => []) (fun i _ _ => [(0, .slice a l.length c), (8, .pointer (some ⟨gr, 0, none⟩)), (9, .int .i64 i)]) 0 (none, 0) (none, 0) (Nat.zero_le _) ?_ (fun _ hl => hl) ?_
  · (repeat (first | exact subF_nil _ | (refine subF_cons rfl ?_) | (refine subF_consv rfl (by rfl) ?_)))
  rintro i ⟨ah, ch⟩ ⟨az, cz⟩ hi
  simp only
  by_cases hlt : i < l.length
  · obtain ⟨b1, o1, x, e3, hR1, hb1, hx, hc1⟩ := h.get hlt
    subst e3
    have hS := start_next grows hx
    have hX := hr x (List.mem_of_getElem? hx)
    have c0 := hc1 0 _ rfl
    have hHy := shypOf_c x
    have hhy := hX.hyp
    have hWt := fun (L : List Blk) (O : List Own) (E : List Res) (w' : World) (v1 v2 : Value) (hl : Loc w (Rg.none w) L O E w') (hm : (⟨gr, [.slice (some ⟨b1, o1, none⟩) l.length c, .int .i64 gap, .int .i64 inner, .bool grows, v1, v2, .int .i64 0], 124⟩ : Blk) ∈ L) => l13Weight_any l grows i x gr c (some ⟨b1, o1, none⟩) R w' hx hX (h.flatKeep hl.mod) (blk_cell (hl.blk _ hm).2 rfl) (blk_cell (hl.blk _ hm).2 rfl)
    have hF : holdFirst grows x = (decide (weightOf grows x = 0) || (grows && decide (hyp x < x.base) || !grows && decide (x.base < hyp x))) := rfl
    have hXb := hX.base
    have hwb := hX.weight grows
    generalize hyp x = y at *
    generalize weightOf grows x = wt at *
    by_cases w0 : wt = 0
    · have e4 : holdFirst grows x = true := by rw [hF, decide_eq_true w0]; rfl
      rw [e4, if_pos rfl] at hS
      repeat (first | refine SX.seq ?_ | refine SXl.nil ?_ | refine SX.region ?_ | refine SQ.thenNormal ?_ | refine SX.block ?_ | refine SX.skip ?_ | refine SX.condT rfl ?_ | refine SX.condF rfl ?_ | (refine SXl.no rfl rfl rfl ?_) | (refine l_load ?_; (first | refine SXl.v (OpW.loadRowOld rfl hc1 (Item.cells_len x) (Nat.succ_pos _) (fun h => h)) rfl ?_ ?_ ?_ | refine SXl.v (OpW.load 0 rfl rfl rfl) rfl ?_ ?_ ?_ | refine SXl.v (OpW.load 1 rfl rfl rfl) rfl ?_ ?_ ?_ | refine SXl.v (OpW.loadOld rfl (by assumption) (fun h => h)) rfl ?_ ?_ ?_); rfl; rfl) | (refine l_call ?_; (first | refine SXl.v (OpW.call rfl (fun w hl => hHy _)) rfl ?_ ?_ ?_ | refine SXl.v (OpW.call rfl (fun w hl => hWt _ _ _ _ _ _ hl (.head _))) rfl ?_ ?_ ?_); rfl; rfl) | (refine l_fieldAddr ?_; (refine SXl.v (OpW.fieldAddr rfl) rfl ?_ ?_ ?_); rfl; rfl) | (refine l_move ?_; (refine SXl.v (OpW.move rfl) rfl ?_ ?_ ?_); rfl; rfl) | (refine l_assign ?_; (refine SXl.v (OpW.assign rfl) rfl ?_ ?_ ?_); rfl; rfl) | (refine l_len ?_; (refine SXl.v (OpW.len rfl) rfl ?_ ?_ ?_); rfl; rfl) | (refine l_nilCheck ?_; (refine SXl.v (OpW.nilCheck rfl) rfl ?_ ?_ ?_); rfl; rfl) | (refine l_add ?_; (refine SXl.v (OpW.succ rfl rfl (by omega)) rfl ?_ ?_ ?_); rfl; rfl) | (refine l_eql ?_; (refine SXl.v (OpW.eqlT rfl rfl (by omega)) rfl ?_ ?_ ?_); rfl; rfl) | (refine l_lss ?_; (refine SXl.v (OpW.lssT rfl rfl (by omega)) rfl ?_ ?_ ?_); rfl; rfl) | (refine l_not ?_; (refine SXl.v (OpW.not rfl) rfl ?_ ?_ ?_); rfl; rfl) | (refine l_pick ?_; (refine SXl.v (OpW.pick rfl rfl rfl) rfl ?_ ?_ ?_); rfl; rfl) | (refine l_indexAddr ?_; (refine SXl.v (OpW.indexAddr (by omega) rfl rfl) rfl ?_ ?_ ?_); rfl; rfl) | (refine l_store ?_; first | (refine SXl.store 0 ?_ rfl rfl rfl rfl rfl rfl ?_; rfl; simp only [List.set_cons_zero, List.set_cons_succ]) | (refine SXl.store 1 ?_ rfl rfl rfl rfl rfl rfl ?_; rfl; simp only [List.set_cons_zero, List.set_cons_succ]) | (refine SXl.store 2 ?_ rfl rfl rfl rfl rfl rfl ?_; rfl; simp only [List.set_cons_zero, List.set_cons_succ])) | (refine l_buildSlice ?_; first | (refine SXl.lit1 ?_ ?_ rfl rfl rfl (fun g => ?_); rfl; rfl) | (refine SXl.lit0 ?_ ?_ (fun _ h => h) rfl (fun g => ?_); rfl; rfl)) | (refine l_append ?_; first | (refine SXl.append 0 0 rfl rfl rfl rfl rfl rfl rfl rfl (by omega) (by omega) (fun a c => ?_); simp only [List.set_cons_zero, List.set_cons_succ]) | (refine SXl.append 1 0 rfl rfl rfl rfl rfl rfl rfl rfl (by omega) (by omega) (fun a c => ?_); simp only [List.set_cons_zero, List.set_cons_succ])) | refine SQ.blockNormal ?_)
      rename_i a1 c1
      refine SQ.round3 (i + 1) (a1, c1) (_, _) (by omega) (by omega) ?_ (fun w hl => by rw [hS, heldL_app, sizes_app, List.map_append, List.map_append]; exact hl.drop1.drop1)
      (repeat (first | exact subF_nil _ | (refine subF_cons rfl ?_) | (refine subF_consv rfl (by rfl) ?_)))
    cases grows
    · by_cases d : x.base < y
      · have e4 : holdFirst false x = true := by rw [hF, decide_eq_true d]; simp
        rw [e4, if_pos rfl] at hS
        repeat (first | refine SX.seq ?_ | refine SXl.nil ?_ | refine SX.region ?_ | refine SQ.thenNormal ?_ | refine SX.block ?_ | refine SX.skip ?_ | refine SX.condT rfl ?_ | refine SX.condF rfl ?_ | (refine SXl.no rfl rfl rfl ?_) | (refine l_load ?_; (first | refine SXl.v (OpW.loadRowOld rfl hc1 (Item.cells_len x) (Nat.succ_pos _) (fun h => h)) rfl ?_ ?_ ?_ | refine SXl.v (OpW.load 0 rfl rfl rfl) rfl ?_ ?_ ?_ | refine SXl.v (OpW.load 1 rfl rfl rfl) rfl ?_ ?_ ?_ | refine SXl.v (OpW.loadOld rfl (by assumption) (fun h => h)) rfl ?_ ?_ ?_); rfl; rfl) | (refine l_call ?_; (first | refine SXl.v (OpW.call rfl (fun w hl => hHy _)) rfl ?_ ?_ ?_ | refine SXl.v (OpW.call rfl (fun w hl => hWt _ _ _ _ _ _ hl (.head _))) rfl ?_ ?_ ?_); rfl; rfl) | (refine l_fieldAddr ?_; (refine SXl.v (OpW.fieldAddr rfl) rfl ?_ ?_ ?_); rfl; rfl) | (refine l_move ?_; (refine SXl.v (OpW.move rfl) rfl ?_ ?_ ?_); rfl; rfl) | (refine l_assign ?_; (refine SXl.v (OpW.assign rfl) rfl ?_ ?_ ?_); rfl; rfl) | (refine l_len ?_; (refine SXl.v (OpW.len rfl) rfl ?_ ?_ ?_); rfl; rfl) | (refine l_nilCheck ?_; (refine SXl.v (OpW.nilCheck rfl) rfl ?_ ?_ ?_); rfl; rfl) | (refine l_add ?_; (refine SXl.v (OpW.succ rfl rfl (by omega)) rfl ?_ ?_ ?_); rfl; rfl) | (refine l_eql ?_; (refine SXl.v (OpW.eqlF rfl rfl (by omega)) rfl ?_ ?_ ?_); rfl; rfl) | (refine l_lss ?_; (refine SXl.v (OpW.lssT rfl rfl (by omega)) rfl ?_ ?_ ?_); rfl; rfl) | (refine l_not ?_; (refine SXl.v (OpW.not rfl) rfl ?_ ?_ ?_); rfl; rfl) | (refine l_pick ?_; (refine SXl.v (OpW.pick rfl rfl rfl) rfl ?_ ?_ ?_); rfl; rfl) | (refine l_indexAddr ?_; (refine SXl.v (OpW.indexAddr (by omega) rfl rfl) rfl ?_ ?_ ?_); rfl; rfl) | (refine l_store ?_; first | (refine SXl.store 0 ?_ rfl rfl rfl rfl rfl rfl ?_; rfl; simp only [List.set_cons_zero, List.set_cons_succ]) | (refine SXl.store 1 ?_ rfl rfl rfl rfl rfl rfl ?_; rfl; simp only [List.set_cons_zero, List.set_cons_succ]) | (refine SXl.store 2 ?_ rfl rfl rfl rfl rfl rfl ?_; rfl; simp only [List.set_cons_zero, List.set_cons_succ])) | (refine l_buildSlice ?_; first | (refine SXl.lit1 ?_ ?_ rfl rfl rfl (fun g => ?_); rfl; rfl) | (refine SXl.lit0 ?_ ?_ (fun _ h => h) rfl (fun g => ?_); rfl; rfl)) | (refine l_append ?_; first | (refine SXl.append 0 0 rfl rfl rfl rfl rfl rfl rfl rfl (by omega) (by omega) (fun a c => ?_); simp only [List.set_cons_zero, List.set_cons_succ]) | (refine SXl.append 1 0 rfl rfl rfl rfl rfl rfl rfl rfl (by omega) (by omega) (fun a c => ?_); simp only [List.set_cons_zero, List.set_cons_succ])) | refine SQ.blockNormal ?_)
        rename_i a1 c1
        refine SQ.round3 (i + 1) (a1, c1) (_, _) (by omega) (by omega) ?_ (fun w hl => by rw [hS, heldL_app, sizes_app, List.map_append, List.map_append]; exact hl.drop1.drop1)
        (repeat (first | exact subF_nil _ | (refine subF_cons rfl ?_) | (refine subF_consv rfl (by rfl) ?_)))
      · have e4 : holdFirst false x = false := by rw [hF, decide_eq_false d, decide_eq_false w0]; rfl
        rw [e4, if_neg Bool.false_ne_true] at hS
        repeat (first | refine SX.seq ?_ | refine SXl.nil ?_ | refine SX.region ?_ | refine SQ.thenNormal ?_ | refine SX.block ?_ | refine SX.skip ?_ | refine SX.condT rfl ?_ | (refine SXl.no rfl rfl rfl ?_) | (refine l_load ?_; (first | refine SXl.v (OpW.loadRowOld rfl hc1 (Item.cells_len x) (Nat.succ_pos _) (fun h => h)) rfl ?_ ?_ ?_ | refine SXl.v (OpW.load 0 rfl rfl rfl) rfl ?_ ?_ ?_ | refine SXl.v (OpW.load 1 rfl rfl rfl) rfl ?_ ?_ ?_ | refine SXl.v (OpW.loadOld rfl (by assumption) (fun h => h)) rfl ?_ ?_ ?_); rfl; rfl) | (refine l_call ?_; (first | refine SXl.v (OpW.call rfl (fun w hl => hHy _)) rfl ?_ ?_ ?_ | refine SXl.v (OpW.call rfl (fun w hl => hWt _ _ _ _ _ _ hl (.head _))) rfl ?_ ?_ ?_); rfl; rfl) | (refine l_fieldAddr ?_; (refine SXl.v (OpW.fieldAddr rfl) rfl ?_ ?_ ?_); rfl; rfl) | (refine l_move ?_; (refine SXl.v (OpW.move rfl) rfl ?_ ?_ ?_); rfl; rfl) | (refine l_assign ?_; (refine SXl.v (OpW.assign rfl) rfl ?_ ?_ ?_); rfl; rfl) | (refine l_len ?_; (refine SXl.v (OpW.len rfl) rfl ?_ ?_ ?_); rfl; rfl) | (refine l_nilCheck ?_; (refine SXl.v (OpW.nilCheck rfl) rfl ?_ ?_ ?_); rfl; rfl) | (refine l_add ?_; (refine SXl.v (OpW.succ rfl rfl (by omega)) rfl ?_ ?_ ?_); rfl; rfl) | (refine l_eql ?_; (refine SXl.v (OpW.eqlF rfl rfl (by omega)) rfl ?_ ?_ ?_); rfl; rfl) | (refine l_lss ?_; (first | refine SXl.v (OpW.lssT rfl rfl (by omega)) rfl ?_ ?_ ?_ | refine SXl.v (OpW.lssF rfl rfl (by omega)) rfl ?_ ?_ ?_); rfl; rfl) | (refine l_not ?_; (refine SXl.v (OpW.not rfl) rfl ?_ ?_ ?_); rfl; rfl) | (refine l_pick ?_; (refine SXl.v (OpW.pick rfl rfl rfl) rfl ?_ ?_ ?_); rfl; rfl) | (refine l_indexAddr ?_; (refine SXl.v (OpW.indexAddr (by omega) rfl rfl) rfl ?_ ?_ ?_); rfl; rfl) | (refine l_store ?_; first | (refine SXl.store 0 ?_ rfl rfl rfl rfl rfl rfl ?_; rfl; simp only [List.set_cons_zero, List.set_cons_succ]) | (refine SXl.store 1 ?_ rfl rfl rfl rfl rfl rfl ?_; rfl; simp only [List.set_cons_zero, List.set_cons_succ]) | (refine SXl.store 2 ?_ rfl rfl rfl rfl rfl rfl ?_; rfl; simp only [List.set_cons_zero, List.set_cons_succ])) | (refine l_buildSlice ?_; first | (refine SXl.lit1 ?_ ?_ rfl rfl rfl (fun g => ?_); rfl; rfl) | (refine SXl.lit0 ?_ ?_ (fun _ h => h) rfl (fun g => ?_); rfl; rfl)) | (refine l_append ?_; first | (refine SXl.append 0 0 rfl rfl rfl rfl rfl rfl rfl rfl (by omega) (by omega) (fun a c => ?_); simp only [List.set_cons_zero, List.set_cons_succ]) | (refine SXl.append 1 0 rfl rfl rfl rfl rfl rfl rfl rfl (by omega) (by omega) (fun a c => ?_); simp only [List.set_cons_zero, List.set_cons_succ])) | refine SQ.blockNormal ?_)
        rename_i a1 c1
        refine SQ.round3 (i + 1) (a1, c1) (_, _) (by omega) (by omega) ?_ (fun w hl => by rw [hS, heldL_app, sizes_app, List.map_append, List.map_append]; exact hl.drop1.drop1)
        (repeat (first | exact subF_nil _ | (refine subF_cons rfl ?_) | (refine subF_consv rfl (by rfl) ?_)))
    · by_cases d : y < x.base
      · have e4 : holdFirst true x = true := by rw [hF, decide_eq_true d]; simp
        rw [e4, if_pos rfl] at hS
        repeat (first | refine SX.seq ?_ | refine SXl.nil ?_ | refine SX.region ?_ | refine SQ.thenNormal ?_ | refine SX.block ?_ | refine SX.skip ?_ | refine SX.condT rfl ?_ | refine SX.condF rfl ?_ | (refine SXl.no rfl rfl rfl ?_) | (refine l_load ?_; (first | refine SXl.v (OpW.loadRowOld rfl hc1 (Item.cells_len x) (Nat.succ_pos _) (fun h => h)) rfl ?_ ?_ ?_ | refine SXl.v (OpW.load 0 rfl rfl rfl) rfl ?_ ?_ ?_ | refine SXl.v (OpW.load 1 rfl rfl rfl) rfl ?_ ?_ ?_ | refine SXl.v (OpW.loadOld rfl (by assumption) (fun h => h)) rfl ?_ ?_ ?_); rfl; rfl) | (refine l_call ?_; (first | refine SXl.v (OpW.call rfl (fun w hl => hHy _)) rfl ?_ ?_ ?_ | refine SXl.v (OpW.call rfl (fun w hl => hWt _ _ _ _ _ _ hl (.head _))) rfl ?_ ?_ ?_); rfl; rfl) | (refine l_fieldAddr ?_; (refine SXl.v (OpW.fieldAddr rfl) rfl ?_ ?_ ?_); rfl; rfl) | (refine l_move ?_; (refine SXl.v (OpW.move rfl) rfl ?_ ?_ ?_); rfl; rfl) | (refine l_assign ?_; (refine SXl.v (OpW.assign rfl) rfl ?_ ?_ ?_); rfl; rfl) | (refine l_len ?_; (refine SXl.v (OpW.len rfl) rfl ?_ ?_ ?_); rfl; rfl) | (refine l_nilCheck ?_; (refine SXl.v (OpW.nilCheck rfl) rfl ?_ ?_ ?_); rfl; rfl) | (refine l_add ?_; (refine SXl.v (OpW.succ rfl rfl (by omega)) rfl ?_ ?_ ?_); rfl; rfl) | (refine l_eql ?_; (refine SXl.v (OpW.eqlF rfl rfl (by omega)) rfl ?_ ?_ ?_); rfl; rfl) | (refine l_gtr ?_; (refine SXl.v (OpW.gtrT rfl rfl (by omega)) rfl ?_ ?_ ?_); rfl; rfl) | (refine l_lss ?_; (refine SXl.v (OpW.lssT rfl rfl (by omega)) rfl ?_ ?_ ?_); rfl; rfl) | (refine l_not ?_; (refine SXl.v (OpW.not rfl) rfl ?_ ?_ ?_); rfl; rfl) | (refine l_pick ?_; (refine SXl.v (OpW.pick rfl rfl rfl) rfl ?_ ?_ ?_); rfl; rfl) | (refine l_indexAddr ?_; (refine SXl.v (OpW.indexAddr (by omega) rfl rfl) rfl ?_ ?_ ?_); rfl; rfl) | (refine l_store ?_; first | (refine SXl.store 0 ?_ rfl rfl rfl rfl rfl rfl ?_; rfl; simp only [List.set_cons_zero, List.set_cons_succ]) | (refine SXl.store 1 ?_ rfl rfl rfl rfl rfl rfl ?_; rfl; simp only [List.set_cons_zero, List.set_cons_succ]) | (refine SXl.store 2 ?_ rfl rfl rfl rfl rfl rfl ?_; rfl; simp only [List.set_cons_zero, List.set_cons_succ])) | (refine l_buildSlice ?_; first | (refine SXl.lit1 ?_ ?_ rfl rfl rfl (fun g => ?_); rfl; rfl) | (refine SXl.lit0 ?_ ?_ (fun _ h => h) rfl (fun g => ?_); rfl; rfl)) | (refine l_append ?_; first | (refine SXl.append 0 0 rfl rfl rfl rfl rfl rfl rfl rfl (by omega) (by omega) (fun a c => ?_); simp only [List.set_cons_zero, List.set_cons_succ]) | (refine SXl.append 1 0 rfl rfl rfl rfl rfl rfl rfl rfl (by omega) (by omega) (fun a c => ?_); simp only [List.set_cons_zero, List.set_cons_succ])) | refine SQ.blockNormal ?_)
        rename_i a1 c1
        refine SQ.round3 (i + 1) (a1, c1) (_, _) (by omega) (by omega) ?_ (fun w hl => by rw [hS, heldL_app, sizes_app, List.map_append, List.map_append]; exact hl.drop1.drop1)
        (repeat (first | exact subF_nil _ | (refine subF_cons rfl ?_) | (refine subF_consv rfl (by rfl) ?_)))
      · have e4 : holdFirst true x = false := by rw [hF, decide_eq_false d, decide_eq_false w0]; rfl
        rw [e4, if_neg Bool.false_ne_true] at hS
        repeat (first | refine SX.seq ?_ | refine SXl.nil ?_ | refine SX.region ?_ | refine SQ.thenNormal ?_ | refine SX.block ?_ | refine SX.skip ?_ | refine SX.condT rfl ?_ | (refine SXl.no rfl rfl rfl ?_) | (refine l_load ?_; (first | refine SXl.v (OpW.loadRowOld rfl hc1 (Item.cells_len x) (Nat.succ_pos _) (fun h => h)) rfl ?_ ?_ ?_ | refine SXl.v (OpW.load 0 rfl rfl rfl) rfl ?_ ?_ ?_ | refine SXl.v (OpW.load 1 rfl rfl rfl) rfl ?_ ?_ ?_ | refine SXl.v (OpW.loadOld rfl (by assumption) (fun h => h)) rfl ?_ ?_ ?_); rfl; rfl) | (refine l_call ?_; (first | refine SXl.v (OpW.call rfl (fun w hl => hHy _)) rfl ?_ ?_ ?_ | refine SXl.v (OpW.call rfl (fun w hl => hWt _ _ _ _ _ _ hl (.head _))) rfl ?_ ?_ ?_); rfl; rfl) | (refine l_fieldAddr ?_; (refine SXl.v (OpW.fieldAddr rfl) rfl ?_ ?_ ?_); rfl; rfl) | (refine l_move ?_; (refine SXl.v (OpW.move rfl) rfl ?_ ?_ ?_); rfl; rfl) | (refine l_assign ?_; (refine SXl.v (OpW.assign rfl) rfl ?_ ?_ ?_); rfl; rfl) | (refine l_len ?_; (refine SXl.v (OpW.len rfl) rfl ?_ ?_ ?_); rfl; rfl) | (refine l_nilCheck ?_; (refine SXl.v (OpW.nilCheck rfl) rfl ?_ ?_ ?_); rfl; rfl) | (refine l_add ?_; (refine SXl.v (OpW.succ rfl rfl (by omega)) rfl ?_ ?_ ?_); rfl; rfl) | (refine l_eql ?_; (refine SXl.v (OpW.eqlF rfl rfl (by omega)) rfl ?_ ?_ ?_); rfl; rfl) | (refine l_gtr ?_; (refine SXl.v (OpW.gtrF rfl rfl (by omega)) rfl ?_ ?_ ?_); rfl; rfl) | (refine l_lss ?_; (refine SXl.v (OpW.lssT rfl rfl (by omega)) rfl ?_ ?_ ?_); rfl; rfl) | (refine l_not ?_; (refine SXl.v (OpW.not rfl) rfl ?_ ?_ ?_); rfl; rfl) | (refine l_pick ?_; (refine SXl.v (OpW.pick rfl rfl rfl) rfl ?_ ?_ ?_); rfl; rfl) | (refine l_indexAddr ?_; (refine SXl.v (OpW.indexAddr (by omega) rfl rfl) rfl ?_ ?_ ?_); rfl; rfl) | (refine l_store ?_; first | (refine SXl.store 0 ?_ rfl rfl rfl rfl rfl rfl ?_; rfl; simp only [List.set_cons_zero, List.set_cons_succ]) | (refine SXl.store 1 ?_ rfl rfl rfl rfl rfl rfl ?_; rfl; simp only [List.set_cons_zero, List.set_cons_succ]) | (refine SXl.store 2 ?_ rfl rfl rfl rfl rfl rfl ?_; rfl; simp only [List.set_cons_zero, List.set_cons_succ])) | (refine l_buildSlice ?_; first | (refine SXl.lit1 ?_ ?_ rfl rfl rfl (fun g => ?_); rfl; rfl) | (refine SXl.lit0 ?_ ?_ (fun _ h => h) rfl (fun g => ?_); rfl; rfl)) | (refine l_append ?_; first | (refine SXl.append 0 0 rfl rfl rfl rfl rfl rfl rfl rfl (by omega) (by omega) (fun a c => ?_); simp only [List.set_cons_zero, List.set_cons_succ]) | (refine SXl.append 1 0 rfl rfl rfl rfl rfl rfl rfl rfl (by omega) (by omega) (fun a c => ?_); simp only [List.set_cons_zero, List.set_cons_succ])) | refine SQ.blockNormal ?_)
        rename_i a1 c1
        refine SQ.round3 (i + 1) (a1, c1) (_, _) (by omega) (by omega) ?_ (fun w hl => by rw [hS, heldL_app, sizes_app, List.map_append, List.map_append]; exact hl.drop1.drop1)
        (repeat (first | exact subF_nil _ | (refine subF_cons rfl ?_) | (refine subF_consv rfl (by rfl) ?_)))
  obtain rfl : i = l.length := by omega
  rw [List.take_length] at *
  by_cases hn : l.length = 0
  · have hnil : l = [] := List.length_eq_zero_iff.1 hn
    have hres : ∀ n, flexRun grows gap inner n (startOf grows l) = ([], 0) := fun n => by
      rw [hnil]
      cases n with
      | zero => rfl
      | succ n => rfl
    rw [hres]
    rw [hn] at *
    repeat (first | refine SX.seq ?_ | refine SXl.nil ?_ | refine SX.region ?_ | refine SQ.thenNormal ?_ | refine SX.block ?_ | refine SX.condF rfl ?_ | (refine l_move ?_; (refine SXl.v (OpW.move rfl) rfl ?_ ?_ ?_); rfl; rfl) | (refine l_len ?_; (refine SXl.v (OpW.len rfl) rfl ?_ ?_ ?_); rfl; rfl) | (refine l_lss ?_; (refine SXl.v (OpW.lssF rfl rfl (by omega)) rfl ?_ ?_ ?_); rfl; rfl) | refine SX.exit ?_ | refine SQ.thenExit ?_ | refine SQ.blockExit ?_)
    refine SX.loop3 (fun (_ _ _ : Unit) => True) (fun _ _ _ => 0) (fun _ _ _ => [⟨gr, [.slice a 0 c, .int .i64 gap, .int .i64 inner, .bool grows, .slice ah 0 ch, .slice az 0 cz, .int .i64 0], 124⟩]) (fun _ _ _ => [⟨.slice ah 0 ch, 4, 1, 0, (heldL (startOf grows l)).map Value.bool⟩, ⟨.slice az 0 cz, 3, 1, 0, (heldSizes (startOf grows l)).map (Value.int .i64)⟩]) (fun _ _ _ => []) (fun _ _ _ => [(8, .pointer (some ⟨gr, 0, none⟩))]) () () () trivial ?_ (fun _ hl => hl) ?_
    · (repeat (first | exact subF_nil _ | (refine subF_cons rfl ?_) | (refine subF_consv rfl (by rfl) ?_)))
    rintro _ _ _ _
    repeat (first | refine SX.seq ?_ | refine SXl.nil ?_ | refine SX.region ?_ | refine SQ.thenNormal ?_ | refine SX.condF rfl ?_ | (refine l_call ?_; (refine SXl.v (OpW.call rfl (fun w hl => l13Pass_nil gr c a _ (blk_cell (hl.blk _ (.head _)).2 rfl))) rfl ?_ ?_ ?_); rfl; rfl) | (refine l_move ?_; (refine SXl.v (OpW.move rfl) rfl ?_ ?_ ?_); rfl; rfl) | refine SX.drawn (by kernel_rfl) (by kernel_rfl) ?_ | refine SXr.nil ?_ | (refine r_load ?_; (refine SXr.v (OpW.load 0 rfl rfl rfl) rfl ?_ ?_ ?_); rfl; rfl) | (refine r_fieldAddr ?_; (refine SXr.v (OpW.fieldAddr rfl) rfl ?_ ?_ ?_); rfl; rfl) | (refine r_move ?_; (refine SXr.v (OpW.move rfl) rfl ?_ ?_ ?_); rfl; rfl) | (refine r_assign ?_; (refine SXr.v (OpW.assign rfl) rfl ?_ ?_ ?_); rfl; rfl) | (refine r_nilCheck ?_; (refine SXr.v (OpW.nilCheck rfl) rfl ?_ ?_ ?_); rfl; rfl) | refine SX.ret ?_ | refine SX.exit ?_ | refine SQ.thenExit ?_ | refine SQ.blockExit ?_)
    refine SQ.body2 rfl rfl rfl (fun w' hl => ⟨(az, cz), rfl, trivial, ?_, hl.mod⟩)
    have := hl.dropO.owns
    rw [hnil] at this
    exact this
  have hpos : 0 < l.length := by omega
  refine SX.knowI (fun w' hl => own_addr (hl.own _ (.head _)).1 hpos) (fun ⟨gh, e5⟩ => ?_)
  refine SX.knowI (fun w' hl => own_addr (hl.own _ (.tail _ (.head _))).1 hpos) (fun ⟨gz, e6⟩ => ?_)
  subst e5 e6
  repeat (first | refine SX.seq ?_ | refine SXl.nil ?_ | refine SX.region ?_ | refine SQ.thenNormal ?_ | refine SX.block ?_ | refine SX.condF rfl ?_ | (refine l_move ?_; (refine SXl.v (OpW.move rfl) rfl ?_ ?_ ?_); rfl; rfl) | (refine l_len ?_; (refine SXl.v (OpW.len rfl) rfl ?_ ?_ ?_); rfl; rfl) | (refine l_lss ?_; (refine SXl.v (OpW.lssF rfl rfl (by omega)) rfl ?_ ?_ ?_); rfl; rfl) | refine SX.exit ?_ | refine SQ.thenExit ?_ | refine SQ.blockExit ?_)
  refine SX.ownB hpos (fun sh hc1 hc2 => ?_)
  refine SX.ownB hpos (fun ss hz1 hz2 => ?_)
  have hzc : l.length + ss.length = cz := by
    have := hz1
    rw [List.length_map, sizes_len] at this
    unfold startOf at this
    rw [List.length_map] at this
    exact this
  have hdone := flexRun_done (grows := grows) (gap := gap) (inner := inner) (freeN (startOf grows l)) (startOf grows l) (Nat.le_refl _)
  refine SX.loop3 (fun (hh : Held) (p : Nat) (_ : Unit) => Line hh ∧ hh.map (·.1) = l ∧ hh.length = l.length ∧ p + (flexRun grows gap inner (freeN hh) hh).2 = (flexRun grows gap inner (freeN (startOf grows l)) (startOf grows l)).2 ∧ (flexRun grows gap inner (freeN hh) hh).1 = (flexRun grows gap inner (freeN (startOf grows l)) (startOf grows l)).1) (fun hh _ _ => freeN hh) (fun hh p _ => runBs gr gh gz a c gap inner grows ch cz sh ss l.length hh p) (fun _ _ _ => []) (fun _ _ _ => []) (fun _ _ _ => [(8, .pointer (some ⟨gr, 0, none⟩))]) (startOf grows l) 0 () ⟨hSL, start_items l, by unfold startOf; exact List.length_map _, Nat.zero_add _, rfl⟩ ?_ (fun w' hl => hl.blkPerm (perm3 _ _ _)) ?_
  · (repeat (first | exact subF_nil _ | (refine subF_cons rfl ?_) | (refine subF_consv rfl (by rfl) ?_)))
  generalize flexRun grows gap inner (freeN (startOf grows l)) (startOf grows l) = FE at *
  rintro hh p _ ⟨i1, i2, i3, i4, i5⟩
  have hP : ∀ w', Loc w (Rg.none w) (runBs gr gh gz a c gap inner grows ch cz sh ss l.length hh p) [] [] w' → Calls Try.prog 94 #[.pointer (some ⟨gr, 0, none⟩)] w' fun e w2 => e = .returned (.bool (decide (freeN hh ≠ 0))) ∧ Mod (fun k => k ∈ [gr, gh, gz]) w' w2 ∧
      ∀ b ∈ runBs gr gh gz a c gap inner grows ch cz sh ss l.length (if freeN hh = 0 then hh else passOf grows gap inner hh) (if freeN hh = 0 then p else p + 1), w2.heap[b.g]? = some (.cells b.cells.toArray b.T (0, 0)) := fun w' hl => by
    refine l13Pass_any l hh l.length gr gh gz c ch cz p a gap inner grows sh ss R w' i1 i2 i3 hg hin (by omega) (h.flatKeep hl.mod) (fun k hk hm => ?_) (List.pairwise_map.2 hl.apart) (fun b hb => (hl.blk b hb).2)
    have hk2 := hlow k hk
    have hnew : ∀ b ∈ (runBs gr gh gz a c gap inner grows ch cz sh ss l.length hh p), w.heap.size ≤ b.g := fun b hb => by
      rcases (hl.blk b hb).1 with hq | hq
      · exact hq.elim
      · exact hq
    have n1 := hnew _ (.head _)
    have n2 := hnew _ (.tail _ (.head _))
    have n3 := hnew _ (.tail _ (.tail _ (.head _)))
    simp only at n1 n2 n3
    simp only [List.mem_cons, List.not_mem_nil, or_false] at hm
    omega
  by_cases h0 : freeN hh = 0
  · rw [decide_eq_false (fun hc => hc h0), if_pos h0, if_pos h0] at hP
    rw [flexRun_stop h0] at i4 i5
    simp only [Nat.add_zero] at i4 i5
    repeat (first | refine SX.seq ?_ | refine SX.region ?_ | (refine l_move ?_; (refine SXl.v (OpW.move rfl) rfl ?_ ?_ ?_); rfl; rfl))
    refine l_call ?_
    refine SXl.callBs (L' := runBs gr gh gz a c gap inner grows ch cz sh ss l.length hh p) rfl rfl rfl rfl (fun w' hl => hP w' hl) ?_
    repeat (first | refine SX.seq ?_ | refine SXl.nil ?_ | refine SQ.thenNormal ?_ | refine SX.condF rfl ?_ | refine SX.drawn (by kernel_rfl) (by kernel_rfl) ?_ | refine SXr.nil ?_ | (refine r_load ?_; (refine SXr.v (OpW.load 0 rfl rfl rfl) rfl ?_ ?_ ?_); rfl; rfl) | (refine r_fieldAddr ?_; (refine SXr.v (OpW.fieldAddr rfl) rfl ?_ ?_ ?_); rfl; rfl) | (refine r_move ?_; (refine SXr.v (OpW.move rfl) rfl ?_ ?_ ?_); rfl; rfl) | (refine r_assign ?_; (refine SXr.v (OpW.assign rfl) rfl ?_ ?_ ?_); rfl; rfl) | (refine r_nilCheck ?_; (refine SXr.v (OpW.nilCheck rfl) rfl ?_ ?_ ?_); rfl; rfl) | refine SX.ret ?_ | refine SX.exit ?_ | refine SQ.thenExit ?_ | refine SQ.blockExit ?_)
    rw [← i4, ← i5]
    refine SQ.body2 rfl rfl rfl (fun w' hl => ⟨(some ⟨gz, 0, none⟩, cz), by show _ = Ending.returned (.tuple #[.slice (some ⟨gz, 0, none⟩) (heldSizes hh).length cz, .int .i64 (p : Int)]); rw [sizes_len, i3], trivial, ?_, hl.mod⟩)
    have hb := (hl.blkPerm (perm3 _ _ _)).ownBack (m := l.length) (c := cz) (fun _ h => h) (by rw [List.length_map, sizes_len, i3]) (by rw [List.length_map, sizes_len, i3]; exact hzc) hz2
    have ho := hb.owns
    show Owns w.heap.size w' [⟨.slice (some ⟨gz, 0, none⟩) (heldSizes hh).length cz, 3, 1, (heldSizes hh).length, ((heldSizes hh).map icell).flatten⟩]
    rw [ints_flat, sizes_len, i3]
    exact ho
  · have hfl := passOf_less (grows := grows) (gap := gap) (inner := inner) h0
    rw [decide_eq_true h0, if_neg h0, if_neg h0] at hP
    rw [flexRun_step h0] at i4 i5
    simp only at i4 i5
    repeat (first | refine SX.seq ?_ | refine SX.region ?_ | (refine l_move ?_; (refine SXl.v (OpW.move rfl) rfl ?_ ?_ ?_); rfl; rfl))
    refine l_call ?_
    refine SXl.callBs (L' := runBs gr gh gz a c gap inner grows ch cz sh ss l.length (passOf grows gap inner hh) (p + 1)) rfl rfl rfl rfl (fun w' hl => hP w' hl) ?_
    repeat (first | refine SXl.nil ?_ | refine SQ.thenNormal ?_ | refine SX.block ?_ | refine SX.skip ?_ | refine SX.condT rfl ?_ | refine SQ.blockNormal ?_)
    refine SQ.round3 (passOf grows gap inner hh) (p + 1) () ⟨pass_line i1, (pass_items hh).trans i2, pass_len.trans i3, by omega, i5⟩ hfl ?_ (fun _ hl => hl)
    (repeat (first | exact subF_nil _ | (refine subF_cons rfl ?_) | (refine subF_consv rfl (by rfl) ?_)))
set_option maxRecDepth 100000 in
set_option maxHeartbeats 4000000 in
theorem sflexLine_any (l : List Item) (gap inner : Int) (a : Option Addr) (c : Nat) (R : Nat → Prop) (w : World) (hlen : l.length ≤ 1048570) (hf : ∀ x ∈ l, x.Fits) (h : ItemSlice R w a l) (hlow : ∀ k, R k → k < w.heap.size) :
    Calls Try.prog 26 #[.slice a l.length c, .int .i64 gap, .int .i64 inner] w (NewO (Option Addr × Nat) (fun q => lineV (flexSizes l gap inner, q)) (fun q => [lineO (flexSizes l gap inner, q)]) (fun _ => True) w) := by
  refine calls_sx Try.func26 rfl rfl (fun a h1 h2 h3 => (((Fr.nil h1 h2).arg (h3 2 _ rfl)).arg (h3 1 _ rfl)).arg (h3 0 _ rfl)) ?_
  repeat (first | refine SX.seq ?_ | refine SXl.nil ?_ | refine SX.region ?_ | refine SQ.thenNormal ?_ | (refine l_move ?_; (refine SXl.v (OpW.move rfl) rfl ?_ ?_ ?_); rfl; rfl) | (refine l_assign ?_; (refine SXl.v (OpW.assign rfl) rfl ?_ ?_ ?_); rfl; rfl))
  refine l_call ?_
  refine SXl.callO rfl rfl rfl (fun w' hl => l13Flex_any l gap inner a c R w' hlen hf (h.flatKeep hl.mod) (fun k hk => Nat.lt_of_lt_of_le (hlow k hk) hl.mod.size)) (fun q _ => ?_)
  repeat (first | refine SX.seq ?_ | refine SXl.nil ?_ | refine SX.region ?_ | refine SQ.thenNormal ?_ | (refine l_move ?_; (refine SXl.v (OpW.move rfl) rfl ?_ ?_ ?_); rfl; rfl) | (refine l_assign ?_; (refine SXl.v (OpW.assign rfl) rfl ?_ ?_ ?_); rfl; rfl) | (refine l_extract ?_; (refine SXl.v (OpW.extract rfl rfl) rfl ?_ ?_ ?_); rfl; rfl) | refine SX.ret ?_)
  refine SQ.body1 rfl rfl (fun w' hl => ⟨q, rfl, trivial, hl.owns, hl.mod⟩)
end Go.Proofs.Ytdohglcjjlmhhaa
namespace Go.Proofs.Ytdohglcjjlmhhaa
open Go.RowKit
set_option linter.unusedVariables false
set_option linter.unusedSimpArgs false

/-- What the record's making draws. -/
structure FlexG where
  q : Option Addr × Nat
  gb : Nat
  ga : Nat
instance tfvSizes : TFv Try.prog 95 4 4 := ⟨_, _, _, Try.underlying95, rfl, rfl, Try.underlying29, rfl⟩
instance tfvPasses : TFv Try.prog 95 6 6 := ⟨_, _, _, Try.underlying95, rfl, rfl, Try.underlying3, rfl⟩
end Go.Proofs.Ytdohglcjjlmhhaa
namespace Go.Proofs.Ytdohglcjjlmhhaa
open Go.RowKit
set_option linter.unusedVariables false
set_option linter.unusedSimpArgs false

set_option maxRecDepth 100000 in
set_option maxHeartbeats 4000000 in
theorem autosIn_any (l : List Item) (a : Option Addr) (c : Nat) (R : Nat → Prop) (w : World) (hlen : l.length ≤ 1048576) (h : ItemSlice R w a l) :
    Calls Try.prog 97 #[.slice a l.length c] w fun e w' => e = .returned (.int .i64 (autosIn l : Nat)) ∧ Mod (fun _ => False) w w' := by
  refine calls_sx Try.func97 rfl rfl (fun a h1 h2 h3 => ((Fr.nil h1 h2).arg (h3 0 _ rfl))) ?_
  repeat (first | refine SX.seq ?_ | refine SXl.nil ?_ | refine SX.region ?_ | refine SQ.thenNormal ?_ | refine SX.block ?_ | (refine l_move ?_; (refine SXl.v (OpW.move rfl) rfl ?_ ?_ ?_); rfl; rfl) | (refine l_assign ?_; (refine SXl.v (OpW.assign rfl) rfl ?_ ?_ ?_); rfl; rfl) | (refine l_len ?_; (refine SXl.v (OpW.len rfl) rfl ?_ ?_ ?_); rfl; rfl))
  refine SX.loopi (fun k : Nat => k ≤ l.length) (fun k => l.length - k) (fun _ => []) (fun _ => []) (fun _ => []) (fun k => [(3, .int .i64 (autosIn (l.take k) : Nat)), (6, .slice a l.length c), (7, .int .i64 l.length), (8, .int .i64 k)]) 0 (Nat.zero_le _) ?_ (fun _ hl => hl) ?_
  · (repeat (first | exact subF_nil _ | (refine subF_cons rfl ?_) | (refine subF_consv rfl (by rfl) ?_)))
  intro k hk
  have hb := autosIn_le (l.take k)
  have hb2 : (l.take k).length ≤ k := by rw [List.length_take]; omega
  by_cases hlt : k < l.length
  · obtain ⟨b1, o1, x, e1, hR1, hb1, hxk, hc1⟩ := h.get hlt
    subst e1
    have hS := autosIn_next hxk
    generalize autosIn (l.take k) = A at *
    obtain ⟨x1, x2, x3, x4, x5, x6, x7, x8, x9⟩ := x
    cases x8 <;> cases x9 <;> simp only [Bool.toNat_true, Bool.toNat_false] at hS
    · repeat (first | refine SX.seq ?_ | refine SXl.nil ?_ | refine SX.region ?_ | refine SQ.thenNormal ?_ | refine SX.block ?_ | refine SX.skip ?_ | refine SX.condT rfl ?_ | refine SX.condF rfl ?_ | (refine l_load ?_; (first | refine SXl.v (OpW.loadRowOld rfl hc1 rfl (Nat.succ_pos _) (fun h => h)) rfl ?_ ?_ ?_ | refine SXl.v (OpW.load 0 rfl rfl rfl) rfl ?_ ?_ ?_); rfl; rfl) | (refine l_fieldAddr ?_; (refine SXl.v (OpW.fieldAddr rfl) rfl ?_ ?_ ?_); rfl; rfl) | (refine l_move ?_; (refine SXl.v (OpW.move rfl) rfl ?_ ?_ ?_); rfl; rfl) | (refine l_add ?_; (refine SXl.v (OpW.succ rfl rfl (by omega)) rfl ?_ ?_ ?_); rfl; rfl) | (refine l_lss ?_; (refine SXl.v (OpW.lssT rfl rfl (by omega)) rfl ?_ ?_ ?_); rfl; rfl) | (refine l_indexAddr ?_; (refine SXl.v (OpW.indexAddr (by omega) rfl rfl) rfl ?_ ?_ ?_); rfl; rfl) | (refine l_alloc ?_; refine SXl.alloc ?_ ?_ (fun g => ?_); rfl; rfl) | (refine l_store ?_; first | (refine SXl.storeAll 0 ?_ rfl rfl rfl rfl rfl rfl rfl ?_; rfl; simp only [List.set_cons_zero, List.set_cons_succ]) | (refine SXl.storeAll 1 ?_ rfl rfl rfl rfl rfl rfl rfl ?_; rfl; simp only [List.set_cons_zero, List.set_cons_succ]) | (refine SXl.storeAll 2 ?_ rfl rfl rfl rfl rfl rfl rfl ?_; rfl; simp only [List.set_cons_zero, List.set_cons_succ]) | (refine SXl.storeRow 0 ?_ rfl rfl rfl rfl rfl rfl rfl ?_; rfl; simp only [over, List.set_cons_zero, List.set_cons_succ]) | (refine SXl.storeRow 1 ?_ rfl rfl rfl rfl rfl rfl rfl ?_; rfl; simp only [over, List.set_cons_zero, List.set_cons_succ]) | (refine SXl.storeRow 2 ?_ rfl rfl rfl rfl rfl rfl rfl ?_; rfl; simp only [over, List.set_cons_zero, List.set_cons_succ])) | refine SQ.blockNormal ?_)
      refine SQ.roundi (k + 1) (by omega) (by omega) ?_ (fun _ hl => hl.drop1)
      (repeat (first | exact subF_nil _ | (refine subF_cons rfl ?_) | (refine subF_consv rfl (by simp only [hS, Nat.add_zero, Nat.zero_add]) ?_)))
    · repeat (first | refine SX.seq ?_ | refine SXl.nil ?_ | refine SX.region ?_ | refine SQ.thenNormal ?_ | refine SX.block ?_ | refine SX.skip ?_ | refine SX.condT rfl ?_ | refine SX.condF rfl ?_ | (refine l_load ?_; (first | refine SXl.v (OpW.loadRowOld rfl hc1 rfl (Nat.succ_pos _) (fun h => h)) rfl ?_ ?_ ?_ | refine SXl.v (OpW.load 0 rfl rfl rfl) rfl ?_ ?_ ?_); rfl; rfl) | (refine l_fieldAddr ?_; (refine SXl.v (OpW.fieldAddr rfl) rfl ?_ ?_ ?_); rfl; rfl) | (refine l_move ?_; (refine SXl.v (OpW.move rfl) rfl ?_ ?_ ?_); rfl; rfl) | (refine l_assign ?_; (refine SXl.v (OpW.assign rfl) rfl ?_ ?_ ?_); rfl; rfl) | (refine l_add ?_; (refine SXl.v (OpW.succ rfl rfl (by omega)) rfl ?_ ?_ ?_); rfl; rfl) | (refine l_lss ?_; (refine SXl.v (OpW.lssT rfl rfl (by omega)) rfl ?_ ?_ ?_); rfl; rfl) | (refine l_indexAddr ?_; (refine SXl.v (OpW.indexAddr (by omega) rfl rfl) rfl ?_ ?_ ?_); rfl; rfl) | (refine l_alloc ?_; refine SXl.alloc ?_ ?_ (fun g => ?_); rfl; rfl) | (refine l_store ?_; first | (refine SXl.storeAll 0 ?_ rfl rfl rfl rfl rfl rfl rfl ?_; rfl; simp only [List.set_cons_zero, List.set_cons_succ]) | (refine SXl.storeAll 1 ?_ rfl rfl rfl rfl rfl rfl rfl ?_; rfl; simp only [List.set_cons_zero, List.set_cons_succ]) | (refine SXl.storeAll 2 ?_ rfl rfl rfl rfl rfl rfl rfl ?_; rfl; simp only [List.set_cons_zero, List.set_cons_succ]) | (refine SXl.storeRow 0 ?_ rfl rfl rfl rfl rfl rfl rfl ?_; rfl; simp only [over, List.set_cons_zero, List.set_cons_succ]) | (refine SXl.storeRow 1 ?_ rfl rfl rfl rfl rfl rfl rfl ?_; rfl; simp only [over, List.set_cons_zero, List.set_cons_succ]) | (refine SXl.storeRow 2 ?_ rfl rfl rfl rfl rfl rfl rfl ?_; rfl; simp only [over, List.set_cons_zero, List.set_cons_succ])) | refine SQ.blockNormal ?_)
      refine SQ.roundi (k + 1) (by omega) (by omega) ?_ (fun _ hl => hl.drop1)
      (repeat (first | exact subF_nil _ | (refine subF_cons rfl ?_) | (refine subF_consv rfl (by simp only [hS, Nat.add_zero, Nat.zero_add]) ?_)))
    · repeat (first | refine SX.seq ?_ | refine SXl.nil ?_ | refine SX.region ?_ | refine SQ.thenNormal ?_ | refine SX.block ?_ | refine SX.skip ?_ | refine SX.condT rfl ?_ | refine SX.condF rfl ?_ | (refine l_load ?_; (first | refine SXl.v (OpW.loadRowOld rfl hc1 rfl (Nat.succ_pos _) (fun h => h)) rfl ?_ ?_ ?_ | refine SXl.v (OpW.load 0 rfl rfl rfl) rfl ?_ ?_ ?_); rfl; rfl) | (refine l_fieldAddr ?_; (refine SXl.v (OpW.fieldAddr rfl) rfl ?_ ?_ ?_); rfl; rfl) | (refine l_move ?_; (refine SXl.v (OpW.move rfl) rfl ?_ ?_ ?_); rfl; rfl) | (refine l_assign ?_; (refine SXl.v (OpW.assign rfl) rfl ?_ ?_ ?_); rfl; rfl) | (refine l_add ?_; (refine SXl.v (OpW.succ rfl rfl (by omega)) rfl ?_ ?_ ?_); rfl; rfl) | (refine l_lss ?_; (refine SXl.v (OpW.lssT rfl rfl (by omega)) rfl ?_ ?_ ?_); rfl; rfl) | (refine l_indexAddr ?_; (refine SXl.v (OpW.indexAddr (by omega) rfl rfl) rfl ?_ ?_ ?_); rfl; rfl) | (refine l_alloc ?_; refine SXl.alloc ?_ ?_ (fun g => ?_); rfl; rfl) | (refine l_store ?_; first | (refine SXl.storeAll 0 ?_ rfl rfl rfl rfl rfl rfl rfl ?_; rfl; simp only [List.set_cons_zero, List.set_cons_succ]) | (refine SXl.storeAll 1 ?_ rfl rfl rfl rfl rfl rfl rfl ?_; rfl; simp only [List.set_cons_zero, List.set_cons_succ]) | (refine SXl.storeAll 2 ?_ rfl rfl rfl rfl rfl rfl rfl ?_; rfl; simp only [List.set_cons_zero, List.set_cons_succ]) | (refine SXl.storeRow 0 ?_ rfl rfl rfl rfl rfl rfl rfl ?_; rfl; simp only [over, List.set_cons_zero, List.set_cons_succ]) | (refine SXl.storeRow 1 ?_ rfl rfl rfl rfl rfl rfl rfl ?_; rfl; simp only [over, List.set_cons_zero, List.set_cons_succ]) | (refine SXl.storeRow 2 ?_ rfl rfl rfl rfl rfl rfl rfl ?_; rfl; simp only [over, List.set_cons_zero, List.set_cons_succ])) | refine SQ.blockNormal ?_)
      refine SQ.roundi (k + 1) (by omega) (by omega) ?_ (fun _ hl => hl.drop1)
      (repeat (first | exact subF_nil _ | (refine subF_cons rfl ?_) | (refine subF_consv rfl (by simp only [hS, Nat.add_zero, Nat.zero_add]) ?_)))
    · repeat (first | refine SX.seq ?_ | refine SXl.nil ?_ | refine SX.region ?_ | refine SQ.thenNormal ?_ | refine SX.block ?_ | refine SX.skip ?_ | refine SX.condT rfl ?_ | (refine l_load ?_; (first | refine SXl.v (OpW.loadRowOld rfl hc1 rfl (Nat.succ_pos _) (fun h => h)) rfl ?_ ?_ ?_ | refine SXl.v (OpW.load 0 rfl rfl rfl) rfl ?_ ?_ ?_); rfl; rfl) | (refine l_fieldAddr ?_; (refine SXl.v (OpW.fieldAddr rfl) rfl ?_ ?_ ?_); rfl; rfl) | (refine l_move ?_; (refine SXl.v (OpW.move rfl) rfl ?_ ?_ ?_); rfl; rfl) | (refine l_assign ?_; (refine SXl.v (OpW.assign rfl) rfl ?_ ?_ ?_); rfl; rfl) | (refine l_add ?_; (refine SXl.v (OpW.succ rfl rfl (by omega)) rfl ?_ ?_ ?_); rfl; rfl) | (refine l_lss ?_; (refine SXl.v (OpW.lssT rfl rfl (by omega)) rfl ?_ ?_ ?_); rfl; rfl) | (refine l_indexAddr ?_; (refine SXl.v (OpW.indexAddr (by omega) rfl rfl) rfl ?_ ?_ ?_); rfl; rfl) | (refine l_alloc ?_; refine SXl.alloc ?_ ?_ (fun g => ?_); rfl; rfl) | (refine l_store ?_; first | (refine SXl.storeAll 0 ?_ rfl rfl rfl rfl rfl rfl rfl ?_; rfl; simp only [List.set_cons_zero, List.set_cons_succ]) | (refine SXl.storeAll 1 ?_ rfl rfl rfl rfl rfl rfl rfl ?_; rfl; simp only [List.set_cons_zero, List.set_cons_succ]) | (refine SXl.storeAll 2 ?_ rfl rfl rfl rfl rfl rfl rfl ?_; rfl; simp only [List.set_cons_zero, List.set_cons_succ]) | (refine SXl.storeRow 0 ?_ rfl rfl rfl rfl rfl rfl rfl ?_; rfl; simp only [over, List.set_cons_zero, List.set_cons_succ]) | (refine SXl.storeRow 1 ?_ rfl rfl rfl rfl rfl rfl rfl ?_; rfl; simp only [over, List.set_cons_zero, List.set_cons_succ]) | (refine SXl.storeRow 2 ?_ rfl rfl rfl rfl rfl rfl rfl ?_; rfl; simp only [over, List.set_cons_zero, List.set_cons_succ])) | refine SQ.blockNormal ?_)
      refine SQ.roundi (k + 1) (by omega) (by omega) ?_ (fun _ hl => hl.drop1)
      (repeat (first | exact subF_nil _ | (refine subF_cons rfl ?_) | (refine subF_consv rfl (by simp only [hS, Nat.add_zero, Nat.zero_add]) ?_)))
  obtain rfl : k = l.length := by omega
  rw [List.take_length] at *
  repeat (first | refine SX.seq ?_ | refine SXl.nil ?_ | refine SX.region ?_ | refine SQ.thenNormal ?_ | refine SX.condF rfl ?_ | (refine l_move ?_; (refine SXl.v (OpW.move rfl) rfl ?_ ?_ ?_); rfl; rfl) | (refine l_assign ?_; (refine SXl.v (OpW.assign rfl) rfl ?_ ?_ ?_); rfl; rfl) | (refine l_lss ?_; (refine SXl.v (OpW.lssF rfl rfl (by omega)) rfl ?_ ?_ ?_); rfl; rfl) | refine SX.ret ?_ | refine SX.exit ?_ | refine SQ.thenExit ?_ | refine SQ.blockExit ?_)
  refine SQ.body1 rfl rfl (fun w' hl => ⟨rfl, hl.mod⟩)
set_option maxRecDepth 100000 in
set_option maxHeartbeats 4000000 in
theorem sautosIn_any (l : List Item) (a : Option Addr) (c : Nat) (R : Nat → Prop) (w : World) (hlen : l.length ≤ 1048576) (h : ItemSlice R w a l) :
    Calls Try.prog 39 #[.slice a l.length c] w fun e w' => e = .returned (.int .i64 (autosIn l : Nat)) ∧ Mod (fun _ => False) w w' := by
  refine calls_sx Try.func39 rfl rfl (fun a h1 h2 h3 => ((Fr.nil h1 h2).arg (h3 0 _ rfl))) ?_
  repeat (first | refine SX.seq ?_ | refine SXl.nil ?_ | refine SX.region ?_ | refine SQ.thenNormal ?_ | refine SX.block ?_ | (refine l_assign ?_; (refine SXl.v (OpW.assign rfl) rfl ?_ ?_ ?_); rfl; rfl))
  refine SX.loopi (fun k : Nat => k ≤ l.length) (fun k => l.length - k) (fun _ => []) (fun _ => []) (fun _ => []) (fun k => [(0, .slice a l.length c), (3, .int .i64 (autosIn (l.take k) : Nat)), (4, .int .i64 k)]) 0 (Nat.zero_le _) ?_ (fun _ hl => hl) ?_
  · (repeat (first | exact subF_nil _ | (refine subF_cons rfl ?_) | (refine subF_consv rfl (by rfl) ?_)))
  intro k hk
  have hb := autosIn_le (l.take k)
  have hb2 : (l.take k).length ≤ k := by rw [List.length_take]; omega
  by_cases hlt : k < l.length
  · obtain ⟨b1, o1, x, e1, hR1, hb1, hxk, hc1⟩ := h.get hlt
    subst e1
    have hS := autosIn_next hxk
    generalize autosIn (l.take k) = A at *
    have c7 := hc1 7 _ rfl
    have c8 := hc1 8 _ rfl
    obtain ⟨x1, x2, x3, x4, x5, x6, x7, x8, x9⟩ := x
    simp only at c7 c8
    cases x8 <;> cases x9 <;> simp only [Bool.toNat_true, Bool.toNat_false] at hS
    · repeat (first | refine SX.seq ?_ | refine SXl.nil ?_ | refine SX.region ?_ | refine SQ.thenNormal ?_ | refine SX.block ?_ | refine SX.skip ?_ | refine SX.condT rfl ?_ | refine SX.condF rfl ?_ | (refine l_load ?_; (refine SXl.v (OpW.loadOld rfl (by assumption) (fun h => h)) rfl ?_ ?_ ?_); rfl; rfl) | (refine l_fieldAddr ?_; (refine SXl.v (OpW.fieldAddr rfl) rfl ?_ ?_ ?_); rfl; rfl) | (refine l_move ?_; (refine SXl.v (OpW.move rfl) rfl ?_ ?_ ?_); rfl; rfl) | (refine l_assign ?_; (refine SXl.v (OpW.assign rfl) rfl ?_ ?_ ?_); rfl; rfl) | (refine l_len ?_; (refine SXl.v (OpW.len rfl) rfl ?_ ?_ ?_); rfl; rfl) | (refine l_add ?_; (refine SXl.v (OpW.succ rfl rfl (by omega)) rfl ?_ ?_ ?_); rfl; rfl) | (refine l_lss ?_; (refine SXl.v (OpW.lssT rfl rfl (by omega)) rfl ?_ ?_ ?_); rfl; rfl) | (refine l_indexAddr ?_; (refine SXl.v (OpW.indexAddr (by omega) rfl rfl) rfl ?_ ?_ ?_); rfl; rfl) | refine SQ.blockNormal ?_)
      refine SQ.roundi (k + 1) (by omega) (by omega) ?_ (fun _ hl => hl)
      (repeat (first | exact subF_nil _ | (refine subF_cons rfl ?_) | (refine subF_consv rfl (by simp only [hS, Nat.add_zero, Nat.zero_add]) ?_)))
    · repeat (first | refine SX.seq ?_ | refine SXl.nil ?_ | refine SX.region ?_ | refine SQ.thenNormal ?_ | refine SX.block ?_ | refine SX.skip ?_ | refine SX.condT rfl ?_ | refine SX.condF rfl ?_ | (refine l_load ?_; (refine SXl.v (OpW.loadOld rfl (by assumption) (fun h => h)) rfl ?_ ?_ ?_); rfl; rfl) | (refine l_fieldAddr ?_; (refine SXl.v (OpW.fieldAddr rfl) rfl ?_ ?_ ?_); rfl; rfl) | (refine l_move ?_; (refine SXl.v (OpW.move rfl) rfl ?_ ?_ ?_); rfl; rfl) | (refine l_assign ?_; (refine SXl.v (OpW.assign rfl) rfl ?_ ?_ ?_); rfl; rfl) | (refine l_len ?_; (refine SXl.v (OpW.len rfl) rfl ?_ ?_ ?_); rfl; rfl) | (refine l_add ?_; (refine SXl.v (OpW.succ rfl rfl (by omega)) rfl ?_ ?_ ?_); rfl; rfl) | (refine l_lss ?_; (refine SXl.v (OpW.lssT rfl rfl (by omega)) rfl ?_ ?_ ?_); rfl; rfl) | (refine l_indexAddr ?_; (refine SXl.v (OpW.indexAddr (by omega) rfl rfl) rfl ?_ ?_ ?_); rfl; rfl) | refine SQ.blockNormal ?_)
      refine SQ.roundi (k + 1) (by omega) (by omega) ?_ (fun _ hl => hl)
      (repeat (first | exact subF_nil _ | (refine subF_cons rfl ?_) | (refine subF_consv rfl (by simp only [hS, Nat.add_zero, Nat.zero_add]) ?_)))
    · repeat (first | refine SX.seq ?_ | refine SXl.nil ?_ | refine SX.region ?_ | refine SQ.thenNormal ?_ | refine SX.block ?_ | refine SX.skip ?_ | refine SX.condT rfl ?_ | refine SX.condF rfl ?_ | (refine l_load ?_; (refine SXl.v (OpW.loadOld rfl (by assumption) (fun h => h)) rfl ?_ ?_ ?_); rfl; rfl) | (refine l_fieldAddr ?_; (refine SXl.v (OpW.fieldAddr rfl) rfl ?_ ?_ ?_); rfl; rfl) | (refine l_move ?_; (refine SXl.v (OpW.move rfl) rfl ?_ ?_ ?_); rfl; rfl) | (refine l_assign ?_; (refine SXl.v (OpW.assign rfl) rfl ?_ ?_ ?_); rfl; rfl) | (refine l_len ?_; (refine SXl.v (OpW.len rfl) rfl ?_ ?_ ?_); rfl; rfl) | (refine l_add ?_; (refine SXl.v (OpW.succ rfl rfl (by omega)) rfl ?_ ?_ ?_); rfl; rfl) | (refine l_lss ?_; (refine SXl.v (OpW.lssT rfl rfl (by omega)) rfl ?_ ?_ ?_); rfl; rfl) | (refine l_indexAddr ?_; (refine SXl.v (OpW.indexAddr (by omega) rfl rfl) rfl ?_ ?_ ?_); rfl; rfl) | refine SQ.blockNormal ?_)
      refine SQ.roundi (k + 1) (by omega) (by omega) ?_ (fun _ hl => hl)
      (repeat (first | exact subF_nil _ | (refine subF_cons rfl ?_) | (refine subF_consv rfl (by simp only [hS, Nat.add_zero, Nat.zero_add]) ?_)))
    · repeat (first | refine SX.seq ?_ | refine SXl.nil ?_ | refine SX.region ?_ | refine SQ.thenNormal ?_ | refine SX.block ?_ | refine SX.skip ?_ | refine SX.condT rfl ?_ | (refine l_load ?_; (refine SXl.v (OpW.loadOld rfl (by assumption) (fun h => h)) rfl ?_ ?_ ?_); rfl; rfl) | (refine l_fieldAddr ?_; (refine SXl.v (OpW.fieldAddr rfl) rfl ?_ ?_ ?_); rfl; rfl) | (refine l_move ?_; (refine SXl.v (OpW.move rfl) rfl ?_ ?_ ?_); rfl; rfl) | (refine l_assign ?_; (refine SXl.v (OpW.assign rfl) rfl ?_ ?_ ?_); rfl; rfl) | (refine l_len ?_; (refine SXl.v (OpW.len rfl) rfl ?_ ?_ ?_); rfl; rfl) | (refine l_add ?_; (refine SXl.v (OpW.succ rfl rfl (by omega)) rfl ?_ ?_ ?_); rfl; rfl) | (refine l_lss ?_; (refine SXl.v (OpW.lssT rfl rfl (by omega)) rfl ?_ ?_ ?_); rfl; rfl) | (refine l_indexAddr ?_; (refine SXl.v (OpW.indexAddr (by omega) rfl rfl) rfl ?_ ?_ ?_); rfl; rfl) | refine SQ.blockNormal ?_)
      refine SQ.roundi (k + 1) (by omega) (by omega) ?_ (fun _ hl => hl)
      (repeat (first | exact subF_nil _ | (refine subF_cons rfl ?_) | (refine subF_consv rfl (by simp only [hS, Nat.add_zero, Nat.zero_add]) ?_)))
  obtain rfl : k = l.length := by omega
  rw [List.take_length] at *
  repeat (first | refine SX.seq ?_ | refine SXl.nil ?_ | refine SX.region ?_ | refine SQ.thenNormal ?_ | refine SX.condF rfl ?_ | (refine l_move ?_; (refine SXl.v (OpW.move rfl) rfl ?_ ?_ ?_); rfl; rfl) | (refine l_assign ?_; (refine SXl.v (OpW.assign rfl) rfl ?_ ?_ ?_); rfl; rfl) | (refine l_len ?_; (refine SXl.v (OpW.len rfl) rfl ?_ ?_ ?_); rfl; rfl) | (refine l_lss ?_; (refine SXl.v (OpW.lssF rfl rfl (by omega)) rfl ?_ ?_ ?_); rfl; rfl) | refine SX.ret ?_ | refine SX.exit ?_ | refine SQ.thenExit ?_ | refine SQ.blockExit ?_)
  refine SQ.body1 rfl rfl (fun w' hl => ⟨rfl, hl.mod⟩)
set_option maxRecDepth 100000 in
set_option maxHeartbeats 4000000 in
theorem sfreeOf_any (l : List Item) (s : List Int) (gap inner : Int) (a b : Option Addr) (c d : Nat) (R S : Nat → Prop) (w : World) (hlen : l.length ≤ 1048576) (hslen : s.length ≤ 1048576) (hf : ∀ x ∈ l, x.Fits) (hn : Near 2147483648 s) (hg : -2147483648 ≤ gap ∧ gap ≤ 2147483648) (hi : -9007199254740992 ≤ inner ∧ inner ≤ 9007199254740992) (h : ItemSlice R w a l) (h' : IntSlice S w b s) :
    Calls Try.prog 38 #[.slice a l.length c, .slice b s.length d, .int .i64 gap, .int .i64 inner] w fun e w' => e = .returned (.int .i64 (inner - outerOf l s gap)) ∧ Mod (fun _ => False) w w' := by
  refine calls_sx Try.func38 rfl rfl (fun a h1 h2 h3 => ((((Fr.nil h1 h2).arg (h3 3 _ rfl)).arg (h3 2 _ rfl)).arg (h3 1 _ rfl)).arg (h3 0 _ rfl)) ?_
  have hb := outer_bd hf hn hlen hslen hg
  have hU := fun (w' : World) (hm : Mod (fun _ => False) w w') => souterOf_any l s gap a b c d R S w' hlen hslen hf hn hg (h.flatKeep hm) (SliceAt.flatKeep h' hm)
  generalize outerOf l s gap = V at *
  repeat (first | refine SX.seq ?_ | refine SXl.nil ?_ | refine SX.region ?_ | refine SQ.thenNormal ?_ | (refine l_call ?_; (refine SXl.v (OpW.call rfl (fun w hl => hU _ hl.mod)) rfl ?_ ?_ ?_); rfl; rfl) | (refine l_move ?_; (refine SXl.v (OpW.move rfl) rfl ?_ ?_ ?_); rfl; rfl) | (refine l_assign ?_; (refine SXl.v (OpW.assign rfl) rfl ?_ ?_ ?_); rfl; rfl) | (refine l_sub ?_; (refine SXl.v (OpW.subi rfl rfl (by omega) (by omega)) rfl ?_ ?_ ?_); rfl; rfl) | refine SX.ret ?_)
  refine SQ.body1 rfl rfl (fun w' hl => ⟨rfl, hl.mod⟩)
theorem all_nextI {l : List Int} {k : Nat} {y : Int} {p : Int → Bool} (h : l[k]? = some y) (ha : (l.take k).all p = true) (hy : p y = true) : (l.take (k + 1)).all p = true := by
  rw [List.take_add_one, h, List.all_append, ha]
  simp [hy]
theorem all_noI {l : List Int} {k : Nat} {y : Int} {p : Int → Bool} (h : l[k]? = some y) (hy : p y = false) : l.all p = false := by
  rw [← Bool.not_eq_true]
  intro hc
  have := List.all_eq_true.1 hc y (List.mem_of_getElem? h)
  rw [hy] at this
  cases this
set_option maxRecDepth 100000 in
set_option maxHeartbeats 4000000 in
theorem l15Ok_any (l : List Item) (s : List Int) (gap inner : Int) (a b : Option Addr) (c d : Nat) (R S : Nat → Prop) (w : World) (hlen : l.length ≤ 1048576) (hslen : s.length ≤ 1048576) (h : ItemSlice R w a l) (h' : IntSlice S w b s) :
    Calls Try.prog 103 #[.slice a l.length c, .slice b s.length d, .int .i64 gap, .int .i64 inner] w fun e w' => e = .returned (.bool (alongOk l s gap inner)) ∧ Mod (fun _ => False) w w' := by
  refine calls_sx Try.func103 rfl rfl (fun a h1 h2 h3 => ((((Fr.nil h1 h2).arg (h3 3 _ rfl)).arg (h3 2 _ rfl)).arg (h3 1 _ rfl)).arg (h3 0 _ rfl)) ?_
  have hO := fun (w' : World) (hm : Mod (fun _ => False) w w') => sitemsOk_any l a c R w' hlen (h.flatKeep hm)
  repeat (first | refine SX.seq ?_ | refine SXl.nil ?_ | refine SX.region ?_ | refine SQ.thenNormal ?_ | refine SX.block ?_ | (refine l_assign ?_; (refine SXl.v (OpW.assign rfl) rfl ?_ ?_ ?_); rfl; rfl))
  refine SX.loopi (fun k : Nat => k ≤ s.length ∧ (s.take k).all (fun y => inB y 0 1048576) = true) (fun k => s.length - k) (fun _ => []) (fun _ => []) (fun _ => []) (fun k => [(0, .slice a l.length c), (1, .slice b s.length d), (2, .int .i64 gap), (3, .int .i64 inner), (9, .int .i64 k)]) 0 ⟨Nat.zero_le _, rfl⟩ ?_ (fun _ hl => hl) ?_
  · (repeat (first | exact subF_nil _ | (refine subF_cons rfl ?_) | (refine subF_consv rfl (by rfl) ?_)))
  rintro k ⟨hk, ha⟩
  by_cases hlt : k < s.length
  · obtain ⟨b1, o1, y, e1, hR1, hb1, hyk, hc1⟩ := IntSlice.get h' hlt
    subst e1
    cases hy : inB y 0 1048576
    · have e : alongOk l s gap inner = false := by unfold alongOk; rw [all_noI hyk.out hy, Bool.and_false]
      rw [e]
      repeat (first | refine SX.seq ?_ | refine SXl.nil ?_ | refine SX.region ?_ | refine SQ.thenNormal ?_ | refine SX.block ?_ | refine SX.skip ?_ | refine SX.condT rfl ?_ | (refine l_call ?_; (refine SXl.v (OpW.calls rfl (fun w _ => l01In_any _ _ _ _)) rfl ?_ ?_ ?_); rfl; rfl) | (refine l_load ?_; (refine SXl.v (OpW.loadOld rfl (by assumption) (fun h => h)) rfl ?_ ?_ ?_); rfl; rfl) | (refine l_move ?_; (refine SXl.v (OpW.move rfl) rfl ?_ ?_ ?_); rfl; rfl) | (refine l_assign ?_; (refine SXl.v (OpW.assign rfl) rfl ?_ ?_ ?_); rfl; rfl) | (refine l_len ?_; (refine SXl.v (OpW.len rfl) rfl ?_ ?_ ?_); rfl; rfl) | (refine l_lss ?_; (refine SXl.v (OpW.lssT rfl rfl (by omega)) rfl ?_ ?_ ?_); rfl; rfl) | (refine l_not ?_; (refine SXl.v (OpW.not rfl) rfl ?_ ?_ ?_); rfl; rfl) | (refine l_indexAddr ?_; (refine SXl.v (OpW.indexAddr1 (by omega) rfl rfl) rfl ?_ ?_ ?_); rfl; rfl) | (rw [hy]) | refine SX.ret ?_ | refine SQ.thenRet ?_ | refine SQ.blockRet ?_)
      refine SQ.body1 rfl rfl (fun w' hl => ⟨rfl, hl.mod⟩)
    · repeat (first | refine SX.seq ?_ | refine SXl.nil ?_ | refine SX.region ?_ | refine SQ.thenNormal ?_ | refine SX.block ?_ | refine SX.skip ?_ | refine SX.condT rfl ?_ | refine SX.condF rfl ?_ | (refine l_call ?_; (refine SXl.v (OpW.calls rfl (fun w _ => l01In_any _ _ _ _)) rfl ?_ ?_ ?_); rfl; rfl) | (refine l_load ?_; (refine SXl.v (OpW.loadOld rfl (by assumption) (fun h => h)) rfl ?_ ?_ ?_); rfl; rfl) | (refine l_move ?_; (refine SXl.v (OpW.move rfl) rfl ?_ ?_ ?_); rfl; rfl) | (refine l_assign ?_; (refine SXl.v (OpW.assign rfl) rfl ?_ ?_ ?_); rfl; rfl) | (refine l_len ?_; (refine SXl.v (OpW.len rfl) rfl ?_ ?_ ?_); rfl; rfl) | (refine l_add ?_; (refine SXl.v (OpW.succ rfl rfl (by omega)) rfl ?_ ?_ ?_); rfl; rfl) | (refine l_lss ?_; (refine SXl.v (OpW.lssT rfl rfl (by omega)) rfl ?_ ?_ ?_); rfl; rfl) | (refine l_not ?_; (refine SXl.v (OpW.not rfl) rfl ?_ ?_ ?_); rfl; rfl) | (refine l_indexAddr ?_; (refine SXl.v (OpW.indexAddr1 (by omega) rfl rfl) rfl ?_ ?_ ?_); rfl; rfl) | (rw [hy]) | refine SQ.blockNormal ?_)
      refine SQ.roundi (k + 1) ⟨by omega, all_nextI (p := fun y => inB y 0 1048576) hyk.out ha hy⟩ (by omega) ?_ (fun _ hl => hl)
      (repeat (first | exact subF_nil _ | (refine subF_cons rfl ?_) | (refine subF_consv rfl (by rfl) ?_)))
  obtain rfl : k = s.length := by omega
  rw [List.take_length] at ha
  unfold alongOk
  rw [ha]
  cases h1 : itemsOk l
  · rw [h1] at hO
    repeat (first | refine SX.seq ?_ | refine SXl.nil ?_ | refine SX.region ?_ | refine SQ.thenNormal ?_ | refine SX.condF rfl ?_ | (refine SXl.no rfl rfl rfl ?_) | (refine l_call ?_; (refine SXl.v (OpW.call rfl (fun w hl => hO _ hl.mod)) rfl ?_ ?_ ?_); rfl; rfl) | (refine l_move ?_; (refine SXl.v (OpW.move rfl) rfl ?_ ?_ ?_); rfl; rfl) | (refine l_assign ?_; (refine SXl.v (OpW.assign rfl) rfl ?_ ?_ ?_); rfl; rfl) | (refine l_len ?_; (refine SXl.v (OpW.len rfl) rfl ?_ ?_ ?_); rfl; rfl) | (refine l_lss ?_; (refine SXl.v (OpW.lssF rfl rfl (by omega)) rfl ?_ ?_ ?_); rfl; rfl) | (refine l_pick ?_; (refine SXl.v (OpW.pick rfl rfl rfl) rfl ?_ ?_ ?_); rfl; rfl) | refine SX.ret ?_ | refine SX.exit ?_ | refine SQ.thenExit ?_ | refine SQ.blockExit ?_)
    refine SQ.body1 rfl rfl (fun w' hl => ⟨rfl, hl.mod⟩)
  rw [h1] at hO
  by_cases h2 : s.length = l.length
  · rw [decide_eq_true h2]
    cases h3 : inB gap 0 1048576
    · repeat (first | refine SX.seq ?_ | refine SXl.nil ?_ | refine SX.region ?_ | refine SQ.thenNormal ?_ | refine SX.condF rfl ?_ | (refine SXl.no rfl rfl rfl ?_) | (refine l_call ?_; (first | refine SXl.v (OpW.call rfl (fun w hl => hO _ hl.mod)) rfl ?_ ?_ ?_ | refine SXl.v (OpW.calls rfl (fun w _ => l01In_any _ _ _ _)) rfl ?_ ?_ ?_); rfl; rfl) | (refine l_move ?_; (refine SXl.v (OpW.move rfl) rfl ?_ ?_ ?_); rfl; rfl) | (refine l_assign ?_; (refine SXl.v (OpW.assign rfl) rfl ?_ ?_ ?_); rfl; rfl) | (refine l_len ?_; (refine SXl.v (OpW.len rfl) rfl ?_ ?_ ?_); rfl; rfl) | (refine l_eql ?_; (refine SXl.v (OpW.eqlT rfl rfl (by omega)) rfl ?_ ?_ ?_); rfl; rfl) | (refine l_lss ?_; (refine SXl.v (OpW.lssF rfl rfl (by omega)) rfl ?_ ?_ ?_); rfl; rfl) | (refine l_pick ?_; (refine SXl.v (OpW.pick rfl rfl rfl) rfl ?_ ?_ ?_); rfl; rfl) | (rw [h3]) | refine SX.ret ?_ | refine SX.exit ?_ | refine SQ.thenExit ?_ | refine SQ.blockExit ?_)
      refine SQ.body1 rfl rfl (fun w' hl => ⟨rfl, hl.mod⟩)
    cases h4 : inB inner 0 1048576
    · repeat (first | refine SX.seq ?_ | refine SXl.nil ?_ | refine SX.region ?_ | refine SQ.thenNormal ?_ | refine SX.condF rfl ?_ | (refine l_call ?_; (first | refine SXl.v (OpW.call rfl (fun w hl => hO _ hl.mod)) rfl ?_ ?_ ?_ | refine SXl.v (OpW.calls rfl (fun w _ => l01In_any _ _ _ _)) rfl ?_ ?_ ?_); rfl; rfl) | (refine l_move ?_; (refine SXl.v (OpW.move rfl) rfl ?_ ?_ ?_); rfl; rfl) | (refine l_assign ?_; (refine SXl.v (OpW.assign rfl) rfl ?_ ?_ ?_); rfl; rfl) | (refine l_len ?_; (refine SXl.v (OpW.len rfl) rfl ?_ ?_ ?_); rfl; rfl) | (refine l_eql ?_; (refine SXl.v (OpW.eqlT rfl rfl (by omega)) rfl ?_ ?_ ?_); rfl; rfl) | (refine l_lss ?_; (refine SXl.v (OpW.lssF rfl rfl (by omega)) rfl ?_ ?_ ?_); rfl; rfl) | (refine l_pick ?_; (refine SXl.v (OpW.pick rfl rfl rfl) rfl ?_ ?_ ?_); rfl; rfl) | (rw [h3]) | (rw [h4]) | refine SX.ret ?_ | refine SX.exit ?_ | refine SQ.thenExit ?_ | refine SQ.blockExit ?_)
      refine SQ.body1 rfl rfl (fun w' hl => ⟨rfl, hl.mod⟩)
    · repeat (first | refine SX.seq ?_ | refine SXl.nil ?_ | refine SX.region ?_ | refine SQ.thenNormal ?_ | refine SX.condF rfl ?_ | (refine l_call ?_; (first | refine SXl.v (OpW.call rfl (fun w hl => hO _ hl.mod)) rfl ?_ ?_ ?_ | refine SXl.v (OpW.calls rfl (fun w _ => l01In_any _ _ _ _)) rfl ?_ ?_ ?_); rfl; rfl) | (refine l_move ?_; (refine SXl.v (OpW.move rfl) rfl ?_ ?_ ?_); rfl; rfl) | (refine l_assign ?_; (refine SXl.v (OpW.assign rfl) rfl ?_ ?_ ?_); rfl; rfl) | (refine l_len ?_; (refine SXl.v (OpW.len rfl) rfl ?_ ?_ ?_); rfl; rfl) | (refine l_eql ?_; (refine SXl.v (OpW.eqlT rfl rfl (by omega)) rfl ?_ ?_ ?_); rfl; rfl) | (refine l_lss ?_; (refine SXl.v (OpW.lssF rfl rfl (by omega)) rfl ?_ ?_ ?_); rfl; rfl) | (refine l_pick ?_; (refine SXl.v (OpW.pick rfl rfl rfl) rfl ?_ ?_ ?_); rfl; rfl) | (rw [h3]) | (rw [h4]) | refine SX.ret ?_ | refine SX.exit ?_ | refine SQ.thenExit ?_ | refine SQ.blockExit ?_)
      refine SQ.body1 rfl rfl (fun w' hl => ⟨rfl, hl.mod⟩)
  · rw [decide_eq_false h2]
    repeat (first | refine SX.seq ?_ | refine SXl.nil ?_ | refine SX.region ?_ | refine SQ.thenNormal ?_ | refine SX.condF rfl ?_ | (refine SXl.no rfl rfl rfl ?_) | (refine l_call ?_; (refine SXl.v (OpW.call rfl (fun w hl => hO _ hl.mod)) rfl ?_ ?_ ?_); rfl; rfl) | (refine l_move ?_; (refine SXl.v (OpW.move rfl) rfl ?_ ?_ ?_); rfl; rfl) | (refine l_assign ?_; (refine SXl.v (OpW.assign rfl) rfl ?_ ?_ ?_); rfl; rfl) | (refine l_len ?_; (refine SXl.v (OpW.len rfl) rfl ?_ ?_ ?_); rfl; rfl) | (refine l_eql ?_; (refine SXl.v (OpW.eqlF rfl rfl (by omega)) rfl ?_ ?_ ?_); rfl; rfl) | (refine l_lss ?_; (refine SXl.v (OpW.lssF rfl rfl (by omega)) rfl ?_ ?_ ?_); rfl; rfl) | (refine l_pick ?_; (refine SXl.v (OpW.pick rfl rfl rfl) rfl ?_ ?_ ?_); rfl; rfl) | refine SX.ret ?_ | refine SX.exit ?_ | refine SQ.thenExit ?_ | refine SQ.blockExit ?_)
    refine SQ.body1 rfl rfl (fun w' hl => ⟨rfl, hl.mod⟩)
end Go.Proofs.Ytdohglcjjlmhhaa
