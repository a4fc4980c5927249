/-
  PROVED: contracts of functions and words on memory, several texts put together: what each says stands at its theorems. Conditions: as told there.
-/
import Derived.Test.YtdohglcjjlmhhaaMYd
import Derived.Test.YtdohglcjjlmhhaaChecked
import Derived.ProofKit
set_option linter.unusedVariables false
set_option linter.unusedSimpArgs false
namespace Go.Proofs.Ytdohglcjjlmhhaa
open Go.RowKit

theorem Style.len (s : Style) : s.cells.length = 60 := rfl
theorem Style.ones (s : Style) : s.cells.toArray.all (·.oneCell') = true := by simp [Style.cells, Value.oneCell']
@[go_sem] theorem Style.set54 (s : Style) (v : Int) : s.cells.set 54 (.int .i64 v) = Style.cells { s with border := { s.border with left := v } } := rfl
@[go_sem] theorem Style.set55 (s : Style) (v : Int) : s.cells.set 55 (.int .i64 v) = Style.cells { s with border := { s.border with top := v } } := rfl
@[go_sem] theorem Style.set56 (s : Style) (v : Int) : s.cells.set 56 (.int .i64 v) = Style.cells { s with border := { s.border with right := v } } := rfl
@[go_sem] theorem Style.set57 (s : Style) (v : Int) : s.cells.set 57 (.int .i64 v) = Style.cells { s with border := { s.border with bottom := v } } := rfl
@[go_sem] theorem Style.set58 (s : Style) (v : Int) : s.cells.set 58 (.int .i64 v) = Style.cells { s with rowGap := v } := rfl
@[go_sem] theorem Style.set59 (s : Style) (v : Int) : s.cells.set 59 (.int .i64 v) = Style.cells { s with colGap := v } := rfl
@[go_sem ↓] theorem exec_load_lStyle (ρ : Operand → Value) (d : Option Tmp) (x : Operand) (ty : TypeId) (pos : String) (af : Array Edge) (g : Option (Nat × Bool)) (w : World) :
    (execOp ρ { dst := d, op := .load 168 x, type := ty, pos, after := af, guard := g }).run Try.prog w = LoadS Try.prog 168 (ρ x) w := rfl
@[go_sem ↓] theorem exec_load_iStyle (ρ : Operand → Value) (d : Option Tmp) (x : Operand) (ty : TypeId) (pos : String) (af : Array Edge) (g : Option (Nat × Bool)) (w : World) :
    (execOp ρ { dst := d, op := .load 186 x, type := ty, pos, after := af, guard := g }).run Try.prog w = LoadS Try.prog 186 (ρ x) w := rfl
@[go_sem ↓] theorem exec_store_iStyle (ρ : Operand → Value) (d : Option Tmp) (x y : Operand) (ty : TypeId) (pos : String) (af : Array Edge) (g : Option (Nat × Bool)) (w : World) :
    (execOp ρ { dst := d, op := .store 186 x y, type := ty, pos, after := af, guard := g }).run Try.prog w = StoreS Try.prog 186 (ρ x) (ρ y) w := rfl
@[go_sem] theorem LoadS_lStyle {w : World} {b o : Nat} (h : hasRow w b o 60 = true) : LoadS Try.prog 168 (.pointer (some ⟨b, o, none⟩)) w = .ok (.value (.agg (rowOf w b o 60))) w := LoadS_row Try.underlying168 rfl (by kernel_rfl) h
@[go_sem] theorem LoadS_iStyle {w : World} {b o : Nat} (h : hasRow w b o 60 = true) : LoadS Try.prog 186 (.pointer (some ⟨b, o, none⟩)) w = .ok (.value (.agg (rowOf w b o 60))) w := LoadS_row Try.underlying186 rfl (by kernel_rfl) h
@[go_sem] theorem StoreS_iStyle {w : World} {b o : Nat} {s : Style} (h : hasRow w b o 60 = true) (hz : openRow w b = true) : StoreS Try.prog 186 (.pointer (some ⟨b, o, none⟩)) (.agg s.cells.toArray) w = .ok .skip (w.setCells b o s.cells) := StoreS_row (by kernel_rfl) h hz rfl (Style.ones s)

end Go.Proofs.Ytdohglcjjlmhhaa
namespace Go.Proofs.Ytdohglcjjlmhhaa
open Go.RowKit

end Go.Proofs.Ytdohglcjjlmhhaa
namespace Go.Proofs.Ytdohglcjjlmhhaa
open Go.RowKit

/-- The cells cs read as a datum of type t. -/
def Rd (P : Program) (w : World) (t : TypeId) (cs : List Value) : Prop :=
  ∃ (H : Type) (enc : TypeId × Value → H) (fuel : Nat) (x : DataW H × List MemPlace), DataW.trod enc P w 0 (fun _ => true) true fuel t cs = some x

section
variable {P : Program} {w : World} {t e : TypeId} {cs : List Value}
theorem Rd.int {k : IntKind} (h : Rd P w t cs) (hu : P.underlying t = some (.int k)) : ∃ n, cs = [.int k n] ∧ (Lit.int k n).wf = true := by
  obtain ⟨H, enc, fuel, x, h⟩ := h
  obtain ⟨n, h1, _, h2⟩ := DataW.trod_int hu h
  exact ⟨n, h1, h2⟩
theorem Rd.bool (h : Rd P w t cs) (hu : P.underlying t = some .bool) : ∃ b, cs = [.bool b] := by
  obtain ⟨H, enc, fuel, x, h⟩ := h
  obtain ⟨n, h1, _⟩ := DataW.trod_bool hu h
  exact ⟨n, h1⟩
theorem Rd.string (h : Rd P w t cs) (hu : P.underlying t = some .string) : ∃ s : ByteArray, cs = [.string s] ∧ s.size ≤ maxLen := by
  obtain ⟨H, enc, fuel, x, h⟩ := h
  obtain ⟨n, h1, _, h2⟩ := DataW.trod_string hu h
  exact ⟨n, h1, h2⟩
theorem Rd.struct {fs : Array Field} (h : Rd P w t cs) (hu : P.underlying t = some (.struct fs)) :
    cs.length = P.cellsOf t ∧ ∀ (i : Nat) (f : Field), fs[i]? = some f → Rd P w f.type ((cs.drop f.offset).take (P.cellsOf f.type)) := by
  obtain ⟨H, enc, fuel, x, h⟩ := h
  obtain ⟨xs, n, _, _, hl, hxl, hf⟩ := DataW.trod_struct hu h
  refine ⟨hl, fun i f hi => ?_⟩
  have h1 := hf i f hi
  have hil : i < xs.length := by rw [hxl]; exact (Array.getElem?_eq_some_iff.1 hi).1
  rw [List.getElem?_eq_getElem hil] at h1
  exact ⟨H, enc, n, _, h1⟩
theorem Rd.slice (h : Rd P w t cs) (hu : P.underlying t = some (.slice e)) (hc : 0 < P.cellsOf e) :
    ∃ (a : Option Addr) (len cap : Nat), cs = [.slice a len cap] ∧ len ≤ cap ∧ cap ≤ maxLen ∧
      (len = 0 ∨ ∃ b o, a = some ⟨b, o, none⟩ ∧ b < w.heap.size ∧ ∀ i, i < len → ∃ cs', (cs'.length = P.cellsOf e ∧ ∀ (j : Nat) (v : Value), cs'[j]? = some v → w.cell? ⟨b, o + i * P.cellsOf e + j, none⟩ = some v) ∧ Rd P w e cs') := by
  obtain ⟨H, enc, fuel, x, h⟩ := h
  rcases DataW.trod_slice hu h with ⟨h1, _⟩ | ⟨a, len, cap, elems, rest, n, _, h1, _, _, hl, hm, hlen, hel, _⟩
  · exact ⟨_, _, _, h1, Nat.le_refl _, Nat.zero_le _, .inl rfl⟩
  · refine ⟨some a, len, cap, h1, hl, hm, ?_⟩
    by_cases h0 : len = 0
    · exact .inl h0
    · have rows : ∀ i, i < len → ∃ cs', (cs'.length = P.cellsOf e ∧ ∀ (j : Nat), j < P.cellsOf e → w.cell? ((a.add (i * P.cellsOf e)).add j) = cs'[j]?) ∧ Rd P w e cs' := by
        intro i hi
        have h2 := hel i hi
        rw [List.getElem?_eq_getElem (by omega)] at h2
        obtain ⟨cs', h3, h4⟩ := Option.bind_eq_some_iff.1 h2
        obtain ⟨_, h5, h6⟩ := World.cells?_some h3
        exact ⟨cs', ⟨h5, h6⟩, H, enc, n, _, h4⟩
      obtain ⟨b, o, s⟩ := a
      have hs : s = none := by
        obtain ⟨cs', ⟨h5, h6⟩, _⟩ := rows 0 (by omega)
        have h7 := h6 0 hc
        rw [List.getElem?_eq_getElem (by omega)] at h7
        simpa [Addr.add] using World.cell?_spot h7
      subst hs
      have ea : ∀ p q r : Nat, ((⟨p, q, none⟩ : Addr).add r) = ⟨p, q + r, none⟩ := by intro p q r; unfold Addr.add; split <;> simp_all
      have hb : b < w.heap.size := by
        obtain ⟨cs', ⟨h5, h6⟩, _⟩ := rows 0 (by omega)
        have h7 := h6 0 hc
        rw [List.getElem?_eq_getElem (by omega), ea, ea] at h7
        exact World.block_lt_of_cell? w ⟨b, _, none⟩ h7
      refine .inr ⟨b, o, rfl, hb, fun i hi => ?_⟩
      obtain ⟨cs', ⟨h5, h6⟩, h7⟩ := rows i hi
      refine ⟨cs', ⟨h5, fun j v hj => ?_⟩, h7⟩
      have h8 := h6 j (by have := (List.getElem?_eq_some_iff.1 hj).1; omega)
      rw [ea, ea] at h8
      rw [h8, hj]
end

theorem rd_list {α : Type} {rep : List Value → α → Prop} {Q : Nat → List Value → Prop} (n : Nat) (h : ∀ i, i < n → ∃ cs, Q i cs ∧ ∃ x, rep cs x) :
    ∃ (rows : List (List Value)) (l : List α), rows.length = n ∧ l.length = n ∧ (∀ (i : Nat) (r : List Value), rows[i]? = some r → Q i r) ∧ ∀ (i : Nat) (r : List Value) (x : α), rows[i]? = some r → l[i]? = some x → rep r x := by
  induction n with
  | zero => exact ⟨[], [], rfl, rfl, fun i r h => by simp at h, fun i r x h => by simp at h⟩
  | succ n ih =>
    obtain ⟨rows, l, h1, h2, h3, h4⟩ := ih fun i hi => h i (by omega)
    obtain ⟨cs, hQ, x, hr⟩ := h n (by omega)
    refine ⟨rows ++ [cs], l ++ [x], by simp [h1], by simp [h2], fun i r hi => ?_, fun i r y hi hl => ?_⟩
    · by_cases e : i < rows.length
      · rw [List.getElem?_append_left e] at hi
        exact h3 i r hi
      · rw [List.getElem?_append_right (by omega)] at hi
        have : i = n := by
          have := (List.getElem?_eq_some_iff.1 hi).1
          simp at this
          omega
        subst this
        rw [h1, Nat.sub_self] at hi
        simp at hi
        subst hi
        exact hQ
    · by_cases e : i < rows.length
      · rw [List.getElem?_append_left e] at hi
        rw [List.getElem?_append_left (by omega)] at hl
        exact h4 i r y hi hl
      · rw [List.getElem?_append_right (by omega)] at hi
        rw [List.getElem?_append_right (by omega)] at hl
        have : i = n := by
          have := (List.getElem?_eq_some_iff.1 hi).1
          simp at this
          omega
        subst this
        rw [h1, Nat.sub_self] at hi
        rw [h2, Nat.sub_self] at hl
        simp at hi hl
        subst hi; subst hl
        exact hr

/-- A slice argument reads as a list. -/
theorem Rd.list {P : Program} {w : World} {t e : TypeId} {cs : List Value} {α : Type} {rep : World → List Value → α → Prop} {sz : Nat} (h : Rd P w t cs) (hu : P.underlying t = some (.slice e)) (hsz : P.cellsOf e = sz) (hp : 0 < sz)
    (hr : ∀ cs', Rd P w e cs' → ∃ x, rep w cs' x) :
    ∃ (a : Option Addr) (l : List α) (cap : Nat), cs = [.slice a l.length cap] ∧ l.length ≤ cap ∧ cap ≤ maxLen ∧ SliceAt rep sz (fun k => k < w.heap.size) w a l := by
  obtain ⟨a, len, cap, hcs, hl, hm, hrest⟩ := h.slice hu (by omega)
  rw [hsz] at hrest
  rcases hrest with h0 | ⟨b, o, rfl, hb, hrows⟩
  · subst h0
    exact ⟨a, [], cap, hcs, hl, hm, SliceAt.nil⟩
  · obtain ⟨rows, l, h1, h2, h3, h4⟩ := rd_list (rep := rep w) (Q := fun i cs' => cs'.length = sz ∧ ∀ (j : Nat) (v : Value), cs'[j]? = some v → w.cell? ⟨b, o + i * sz + j, none⟩ = some v) len
      fun i hi => by
        obtain ⟨cs', hQ, hrd⟩ := hrows i hi
        exact ⟨cs', hQ, hr cs' hrd⟩
    subst h2
    exact ⟨_, l, cap, hcs, hl, hm, rows, .inr ⟨b, o, rfl, hb, hb, h3⟩, h1, h4⟩

/-- A reading with a property of each element: the reading, and the property of all. -/
theorem SliceAt.split {α : Type} {cells : α → List Value} {p : α → Prop} {sz : Nat} {R : Nat → Prop} {w : World} {a : Option Addr} {l : List α} (h : SliceAt (fun _ r x => r = cells x ∧ p x) sz R w a l) :
    SliceAt (Flat cells) sz R w a l ∧ ∀ x ∈ l, p x := by
  obtain ⟨rows, h1, h2, h3⟩ := h
  refine ⟨⟨rows, h1, h2, fun i r x hr hx => (h3 i r x hr hx).1⟩, fun x hx => ?_⟩
  obtain ⟨i, hi, rfl⟩ := List.mem_iff_getElem.1 hx
  have hr : rows[i]? = some (rows[i]'(by omega)) := List.getElem?_eq_getElem (by omega)
  exact (h3 i _ _ hr (List.getElem?_eq_getElem hi)).2

end Go.Proofs.Ytdohglcjjlmhhaa
namespace Go.Proofs.Ytdohglcjjlmhhaa
open Go.RowKit

theorem tooBig_any (a : Option Addr) (len cap : Nat) (h : len ≤ 9223372036854775807) (w : World) : Calls Try.prog 8 #[.slice a len cap] w fun e w' => e = .returned (.bool (decide (1048576 < len))) ∧ w = w' := by
  by_cases hl : 1048576 < len
  · go_enter Try.func8, Try.ntmps8
    go_wp2
    go_ret
    exact ⟨ret_bool (by simp; omega), rfl⟩
  · go_enter Try.func8, Try.ntmps8
    go_wp2
    go_ret
    exact ⟨ret_bool (by simp; omega), rfl⟩

end Go.Proofs.Ytdohglcjjlmhhaa
namespace Go.Proofs.Ytdohglcjjlmhhaa
open Go.RowKit
set_option linter.unusedVariables false
set_option linter.unusedSimpArgs false

theorem bigT (a : Option Addr) {len : Nat} (cap : Nat) (hl : len ≤ maxLen) (h : 1048576 < len) (w : World) : Calls Try.prog 8 #[.slice a len cap] w fun e w' => e = .returned (.bool true) ∧ Mod (fun _ => False) w w' :=
  (tooBig_any a len cap (by unfold maxLen at hl; omega) w).mono fun e w' ⟨h1, h2⟩ => ⟨by rw [h1, decide_eq_true h], h2 ▸ Mod.refl _ _⟩
theorem bigF (a : Option Addr) {len : Nat} (cap : Nat) (hl : len ≤ maxLen) (h : ¬ 1048576 < len) (w : World) : Calls Try.prog 8 #[.slice a len cap] w fun e w' => e = .returned (.bool false) ∧ Mod (fun _ => False) w w' :=
  (tooBig_any a len cap (by unfold maxLen at hl; omega) w).mono fun e w' ⟨h1, h2⟩ => ⟨by rw [h1, decide_eq_false h], h2 ▸ Mod.refl _ _⟩
/-- A fact of no memory. -/
def factRes (K : Prop) : Res where
  foot := fun _ => False
  says := fun _ => K
  stable := fun _ _ _ h _ _ => h
theorem SXl.fact {P : Program} {n : Nat} {W : World} {R : Rg W} {L : List Blk} {O : List Own} {E : List Res} {f : List (Nat × Value)} {Q : Exit → Go.Act → World → Prop} {ops : Array Oper} {rest : List Oper} {K : Prop} (h : K → SXl P n W R ops L O E f rest Q) : SXl P n W R ops L O (factRes K :: E) f rest Q := ⟨fun a w hf hl => (h (hl.res _ (.head _)).1).run a w hf (hl.dropE)⟩

/-- The bytes of an argument, later. -/
theorem bytes_loc {W : World} {R : Rg W} {L : List Blk} {O : List Own} {E : List Res} {w : World} {a : Option Addr} {len : Nat} (hy : Bytes W.heap.size W a len) (hR : ∀ k, k < W.heap.size → ¬ R.p k) (hl : Loc W R L O E w) : Bytes w.heap.size w a len := by
  have := hy.same (w' := w) fun k hk => hl.mod.block k hk (hR k hk)
  rcases this with h | ⟨b, o, h1, h2, h3⟩
  · exact .inl h
  · exact .inr ⟨b, o, h1, Nat.lt_of_lt_of_le h2 hl.mod.size, h3⟩
end Go.Proofs.Ytdohglcjjlmhhaa
namespace Go.Proofs.Ytdohglcjjlmhhaa
open Go.RowKit
set_option linter.unusedVariables false
set_option linter.unusedSimpArgs false

theorem pick_e {W : World} {gc b : Nat} {L : List Blk} {O : List Own} {E : List Res} {w : World} {l : List Int} (hl : Loc W (Rg.none W) L O E w) (hc : Cur W.heap.size 116 w gc) (hE : curRes 116 W gc ∈ E) (hm : (⟨b, l.map (.int .i64), 3⟩ : Blk) ∈ L) (h0 : 0 < l.length) (h1 : l.length ≤ 1000) :
    Calls Try.prog 65 #[.pointer (some ⟨gc, 0, none⟩), .slice (some ⟨b, 0, none⟩) l.length l.length] w (DrewV 116 W.heap.size gc w (fun x : Int => .int .i64 x) (fun x => x ∈ l)) := by
  obtain ⟨hb, hcell⟩ := hl.blk _ hm
  have hne : b ≠ gc := fun e => (hl.res _ hE).2.2.1 _ hm (by simp only [e]; rfl)
  refine (l01PickInt_any W.heap.size gc w hc b l.length l (fun i hi => ?_) h0 h1 hne).mono fun e w' h => Drew.v h
  have := blk_cell (j := i) (v := .int .i64 (l.getD i 0)) hcell (by simp [List.getElem?_eq_getElem hi, List.getD, hi])
  rw [Nat.zero_add]
  exact this
abbrev FlexArgs := ItemsQ × Int × Int
def FlexArgs.v (q : FlexArgs) : Value := .tuple #[q.1.v, .int .i64 q.2.1, .int .i64 q.2.2]
def FlexArgs.ok (q : FlexArgs) : Prop := FitItems 13 q.1.xs ∧ (-1 ≤ q.2.1 ∧ q.2.1 ≤ 1048577) ∧ -9007199254740992 ≤ q.2.2 ∧ q.2.2 ≤ 9007199254740992
set_option maxRecDepth 100000 in
set_option maxHeartbeats 8000000 in
theorem drawLineSizes_o (a : Option Addr) (len cap : Nat) (w : World) (hlen : len ≤ 1048576) (hy : Bytes w.heap.size w a len) :
    Calls Try.prog 31 #[.slice a len cap] w (NewO (LineArgs × Int) (fun q => .tuple #[q.1.1.v, .int .i64 q.1.2.1, .int .i64 q.1.2.2.1, .bool q.1.2.2.2, .int .i64 q.2]) (fun q => q.1.1.os) (fun q => q.1.ok ∧ -1 ≤ q.2 ∧ q.2 ≤ 3333) w) := by
  refine calls_sx Try.func31 rfl rfl (fun a h1 h2 h3 => ((Fr.nil h1 h2).arg (h3 0 _ rfl))) ?_
  repeat (first | refine SX.seq ?_ | refine SXl.nil ?_ | refine SX.region ?_ | refine SQ.thenNormal ?_ | (refine l_move ?_; (refine SXl.v (OpW.move rfl) rfl ?_ ?_ ?_); rfl; rfl) | (refine l_assign ?_; (refine SXl.v (OpW.assign rfl) rfl ?_ ?_ ?_); rfl; rfl))
  refine l_call ?_
  refine SXl.newCur rfl rfl rfl (fun w hl => l01New_loc hlen hy hl) (fun gc => ?_)
  repeat (first | refine SX.seq ?_ | refine SXl.nil ?_ | refine SX.region ?_ | refine SQ.thenNormal ?_ | (refine l_move ?_; (refine SXl.v (OpW.move rfl) rfl ?_ ?_ ?_); rfl; rfl) | (refine l_assign ?_; (refine SXl.v (OpW.assign rfl) rfl ?_ ?_ ?_); rfl; rfl))
  refine l_call ?_
  refine SXl.drawO 0 rfl rfl rfl rfl (fun w hl hc => l14Case_d _ _ w hc) (fun q hq => ?_)
  rw [List.append_nil]
  obtain ⟨q, gap, room, b⟩ := q
  simp only [LineArgs.v]
  repeat (first | refine SX.seq ?_ | refine SXl.nil ?_ | refine SX.region ?_ | refine SQ.thenNormal ?_ | (refine l_move ?_; (refine SXl.v (OpW.move rfl) rfl ?_ ?_ ?_); rfl; rfl) | (refine l_assign ?_; (refine SXl.v (OpW.assign rfl) rfl ?_ ?_ ?_); rfl; rfl) | (refine l_extract ?_; (refine SXl.v (OpW.extract rfl rfl) rfl ?_ ?_ ?_); rfl; rfl))
  refine l_buildSlice ?_
  refine SXl.lit (cells := ([640, 1000, 3333, -1] : List Int).map (.int .i64)) (z := .int .i64 0) ?_ ?_ rfl (by decide) (by kernel_rfl) rfl (fun gl => ?_)
  rfl; rfl
  skip
  refine l_call ?_
  refine SXl.drawC (ξ := Int) (v := fun x : Int => .int .i64 x) 0 rfl rfl rfl rfl (fun x => x ∈ ([640, 1000, 3333, -1] : List Int)) (fun w hl hc => pick_e (l := [640, 1000, 3333, -1]) hl hc (.head _) (.head _) (by simp) (by simp)) (fun inner hi => ?_)
  have hi2 : -1 ≤ inner ∧ inner ≤ 3333 := by simp at hi; omega
  repeat (first | refine SXl.nil ?_ | refine SQ.thenNormal ?_ | (refine l_assign ?_; (refine SXl.v (OpW.assign rfl) rfl ?_ ?_ ?_); rfl; rfl) | refine SX.ret ?_)
  refine SQ.bodyT5 rfl rfl rfl rfl rfl rfl (fun w' hl => ⟨((q, gap, room, b), inner), rfl, ⟨hq, hi2⟩, hl.owns, hl.mod⟩)
end Go.Proofs.Ytdohglcjjlmhhaa
namespace Go.Proofs.Ytdohglcjjlmhhaa
open Go.RowKit

theorem flexEnd_items (l : List Item) (gap inner : Int) : (flexEnd l gap inner).1.map (·.1) = l := by
  unfold flexEnd
  rw [flexRun_items, start_items]
theorem flexSizes_len (l : List Item) (gap inner : Int) : (flexSizes l gap inner).length = l.length := by
  unfold flexSizes
  split
  · rw [sizes_len, ← List.length_map (f := (·.1)), flexEnd_items]
  · exact List.length_map _
def sixty : Item := ⟨60, 0, -1, 1, 0, 0, 0, false, false⟩
end Go.Proofs.Ytdohglcjjlmhhaa
namespace Go.Proofs.Ytdohglcjjlmhhaa
open Go.RowKit
set_option linter.unusedVariables false
set_option linter.unusedSimpArgs false

theorem line_app (l m : List Int) (a : Option Addr) (c : Nat) : (⟨.slice a (l.length + m.length) c, 3, 1, l.length + m.length, (l.map icell).flatten ++ (m.map icell).flatten⟩ : Own) = lineO (l ++ m, (a, c)) := by
  unfold lineO lineV
  simp
/-- The sizes of the first k lines. -/
def sizesTo (l : List Item) (gap inner : Int) (ls : List (List Int)) (k : Nat) : List Int := ((ls.take k).map fun ln => flexSizes (lineIt l ln) gap inner).flatten
theorem sizesTo_next {l : List Item} {gap inner : Int} {ls : List (List Int)} {k : Nat} {ln : List Int} (h : ls[k]? = some ln) : sizesTo l gap inner ls (k + 1) = sizesTo l gap inner ls k ++ flexSizes (lineIt l ln) gap inner := by
  unfold sizesTo
  rw [List.take_add_one, h, List.map_append, List.flatten_append]
  simp
theorem sizesTo_len (l : List Item) (gap inner : Int) : ∀ ls : List (List Int), ∀ k, (sizesTo l gap inner ls k).length ≤ ls.flatten.length
  | [], k => by simp [sizesTo]
  | ln :: t, 0 => by simp [sizesTo]
  | ln :: t, k + 1 => by
    have ih := sizesTo_len l gap inner t k
    have h1 := lineIt_len l ln
    have h2 := flexSizes_len (lineIt l ln) gap inner
    unfold sizesTo at *
    rw [List.take_succ_cons, List.map_cons, List.flatten_cons, List.flatten_cons, List.length_append, List.length_append]
    omega
theorem lineIt_all {l : List Item} : ∀ {ln : List Int}, (∀ i ∈ ln, 0 ≤ i ∧ i < l.length) → (lineIt l ln).length = ln.length
  | [], _ => rfl
  | i :: t, h => by
    have ih := lineIt_all (l := l) (ln := t) fun j hj => h j (List.mem_cons_of_mem _ hj)
    have hi := h i List.mem_cons_self
    unfold lineIt at *
    rw [List.filterMap_cons, if_pos hi]
    have hlt : i.toNat < l.length := by omega
    rw [List.getElem?_eq_getElem hlt]
    simp [ih]
/-- As many sizes as items. -/
theorem sizes_all {l : List Item} {gap inner : Int} : ∀ {ls : List (List Int)}, (∀ ln ∈ ls, ∀ i ∈ ln, 0 ≤ i ∧ i < l.length) → (sizesTo l gap inner ls ls.length).length = ls.flatten.length
  | [], _ => rfl
  | ln :: t, h => by
    have ih := sizes_all (l := l) (gap := gap) (inner := inner) (ls := t) fun m hm => h m (List.mem_cons_of_mem _ hm)
    have h1 := lineIt_all (h ln List.mem_cons_self)
    have h2 := flexSizes_len (lineIt l ln) gap inner
    unfold sizesTo at *
    rw [List.take_length] at *
    rw [List.map_cons, List.flatten_cons, List.flatten_cons, List.length_append, List.length_append]
    omega
theorem linesTo_in {list : List Item} {gap room : Int} {one : Bool} {n : Nat} {ln : List Int} (h : ln ∈ linesTo list gap room one n) : ∀ i ∈ ln, 0 ≤ i ∧ i < n := fun i hi => by
  have h1 : i ∈ (linesTo list gap room one n).flatten := List.mem_flatten.2 ⟨ln, h, hi⟩
  rw [lines_flat] at h1
  obtain ⟨k, hk, rfl⟩ := List.mem_map.1 h1
  rw [List.mem_range] at hk
  omega
theorem items_res {l : List Item} {q : SlP} {w : World} (h : (ownRes Item.cells 36 9 l q).says w) : ItemSlice (fun k => (ownRes Item.cells 36 9 l q).foot k) w q.a l := by
  have h1 : w.ownsRow q.lo 36 9 (.slice q.a l.length q.c) l.length (l.map Item.cells).flatten := h
  obtain ⟨rows, h2, h3, h4⟩ := own_slice h1 Item.cells_len (by decide)
  refine ⟨rows, ?_, h3, h4⟩
  rcases h2 with h2 | ⟨b, o, e, hb, hlt, hc⟩
  · exact .inl h2
  · refine .inr ⟨b, o, e, ?_, hlt, hc⟩
    show (Value.slice q.a l.length q.c).ownBlock = some b
    rw [e]; rfl
set_option maxRecDepth 100000 in
set_option maxHeartbeats 8000000 in
theorem lineSizes_any (l : List Item) (gap room inner : Int) (wraps : Bool) (a : Option Addr) (c : Nat) (R : Nat → Prop) (w : World) (hlen : l.length ≤ 1048570) (hf : ∀ x ∈ l, x.Fits) (hg : -2147483648 ≤ gap ∧ gap ≤ 2147483648) (h : ItemSlice R w a l) (hlow : ∀ k, R k → k < w.heap.size) :
    Calls Try.prog 32 #[.slice a l.length c, .int .i64 gap, .int .i64 room, .bool wraps, .int .i64 inner] w (NewO (Option Addr × Nat) (fun q => lineV (sizesTo l gap inner (linesTo l gap room (oneLine l room wraps) l.length) (linesTo l gap room (oneLine l room wraps) l.length).length, q)) (fun q => [lineO (sizesTo l gap inner (linesTo l gap room (oneLine l room wraps) l.length) (linesTo l gap room (oneLine l room wraps) l.length).length, q)]) (fun _ => True) w) := by
  refine calls_sx Try.func32 rfl rfl (fun a h1 h2 h3 => (((((Fr.nil h1 h2).arg (h3 4 _ rfl)).arg (h3 3 _ rfl)).arg (h3 2 _ rfl)).arg (h3 1 _ rfl)).arg (h3 0 _ rfl)) ?_
  have hL := fun (w' : World) (hm : Mod (fun _ => False) w w') => linesOf_any l gap room wraps a c R w' hlen hf hg (h.flatKeep hm)
  have hm := fun (ln : List Int) (hx : ln ∈ linesTo l gap room (oneLine l room wraps) l.length) => linesTo_mem_len hx
  have hn := linesTo_len (list := l) (gap := gap) (room := room) (one := oneLine l room wraps) l.length
  have hsl := sizesTo_len l gap inner (linesTo l gap room (oneLine l room wraps) l.length)
  rw [lines_flat, List.length_map, List.length_range] at hsl
  generalize linesTo l gap room (oneLine l room wraps) l.length = ls at *
  refine SX.ownNil 3 1 ?_
  repeat (first | refine SX.seq ?_ | refine SXl.nil ?_ | refine SX.region ?_ | refine SQ.thenNormal ?_ | (refine l_move ?_; (refine SXl.v (OpW.move rfl) rfl ?_ ?_ ?_); rfl; rfl) | (refine l_assign ?_; (refine SXl.v (OpW.assign rfl) rfl ?_ ?_ ?_); rfl; rfl))
  refine l_call ?_
  refine SXl.callO rfl rfl rfl (fun w' hl => hL w' hl.mod) (fun q hq => ?_)
  obtain ⟨ps, qa, qc⟩ := q
  simp only at hq
  simp only [LinesQ.v, LinesQ.os]
  have hpl : ps.length = ls.length := by rw [← hq, List.length_map]
  repeat (first | refine SXl.nil ?_ | refine SQ.thenNormal ?_ | refine SX.block ?_ | (refine l_move ?_; (refine SXl.v (OpW.move rfl) rfl ?_ ?_ ?_); rfl; rfl) | (refine l_len ?_; (refine SXl.v (OpW.len rfl) rfl ?_ ?_ ?_); rfl; rfl))
  refine SX.loop3 (fun (k : Nat) (_ : Option Addr × Nat) (_ : Unit) => k ≤ ps.length) (fun k _ _ => ps.length - k) (fun _ _ _ => []) (fun k q _ => lineO (sizesTo l gap inner ls k, q) :: rowsO ps qa qc :: ps.map lineO) (fun _ _ _ => []) (fun k q _ => [(0, .slice a l.length c), (1, .int .i64 gap), (4, .int .i64 inner), (11, lineV (sizesTo l gap inner ls k, q)), (18, .slice qa ps.length qc), (19, .int .i64 ps.length), (20, .int .i64 k)]) 0 (none, 0) () (Nat.zero_le _) ?_ (fun w' hl => hl.ownPerm (List.perm_append_singleton _ _).symm) ?_
  · (repeat (first | exact subF_nil _ | (refine subF_cons rfl ?_) | (refine subF_consv rfl (by rfl) ?_)))
  rintro k ⟨sa, sc⟩ _ hk
  have hsk := hsl k
  have hsk1 := hsl (k + 1)
  by_cases hlt : k < ps.length
  rotate_left
  · obtain rfl : k = ps.length := by omega
    rw [hpl] at *
    repeat (first | refine SX.seq ?_ | refine SXl.nil ?_ | refine SX.region ?_ | refine SQ.thenNormal ?_ | refine SX.condF rfl ?_ | (refine l_move ?_; (refine SXl.v (OpW.move rfl) rfl ?_ ?_ ?_); rfl; rfl) | (refine l_assign ?_; (refine SXl.v (OpW.assign rfl) rfl ?_ ?_ ?_); rfl; rfl) | (refine l_lss ?_; (refine SXl.v (OpW.lssF rfl rfl (by omega)) rfl ?_ ?_ ?_); rfl; rfl) | refine SX.ret ?_ | refine SX.exit ?_ | refine SQ.thenExit ?_ | refine SQ.blockExit ?_)
    refine SQ.body1 rfl rfl (fun w' hl => ⟨(sa, sc), rfl, trivial, (hl.ownSub (List.cons_sublist_cons.2 (List.nil_sublist _))).owns, hl.mod⟩)
  obtain ⟨p, hp⟩ : ∃ p, ps[k]? = some p := ⟨_, List.getElem?_eq_getElem hlt⟩
  have hpm := List.mem_of_getElem? hp
  have hp1 := map_at hq hp
  have hpn := hm p.1 (List.mem_of_getElem? hp1)
  have hS := sizesTo_next (l := l) (gap := gap) (inner := inner) hp1
  refine SX.knowI (fun w hl => rows_addr (hl.owns) (.tail _ (.head _)) (by omega)) (fun ⟨gq, hgq⟩ => ?_)
  subst hgq
  have hv : (ps.map lineV)[0 + k]? = some (lineV p) := by rw [Nat.zero_add, List.getElem?_map, hp]; rfl
  have hll := lineIt_len l p.1
  have hlf := lineIt_fits (ln := p.1) hf
  have hfl := flexSizes_len (lineIt l p.1) gap inner
  have hI := fun (S : Nat → Prop) (w' : World) (hm : Mod (fun _ => False) w w') => lineItems_any l p.1 a p.2.1 c p.2.2 R S w' (by omega) (by omega) (h.flatKeep hm)
  have hF := fun (b : Option Addr) (d : Nat) (S : Nat → Prop) (w' : World) => flexLine_any (lineIt l p.1) gap inner b d S w' (by omega) hlf
  generalize hFS : flexSizes (lineIt l p.1) gap inner = FS at *
  generalize lineIt l p.1 = li at *
  repeat (first | refine SX.seq ?_ | refine SXl.nil ?_ | refine SX.region ?_ | refine SQ.thenNormal ?_ | refine SX.block ?_ | refine SX.skip ?_ | refine SX.condT rfl ?_ | (refine l_load ?_; (refine SXl.v (OpW.loadOwn (xs := ps.map lineV) 1 rfl rfl hv) rfl ?_ ?_ ?_); rfl; rfl) | (refine l_move ?_; (refine SXl.v (OpW.move rfl) rfl ?_ ?_ ?_); rfl; rfl) | (refine l_assign ?_; (refine SXl.v (OpW.assign rfl) rfl ?_ ?_ ?_); rfl; rfl) | (refine l_lss ?_; (refine SXl.v (OpW.lssT rfl rfl (by omega)) rfl ?_ ?_ ?_); rfl; rfl) | (refine l_indexAddr ?_; (refine SXl.v (OpW.indexAddr1 (by omega) rfl rfl) rfl ?_ ?_ ?_); rfl; rfl))
  refine l_call ?_
  refine SXl.calln1 (v := fun q => .slice q.a li.length q.c) (F1 := ownRes Item.cells 36 9 li) rfl rfl rfl (fun w' hl => (hI _ w' hl.mod (lineO_slice hl.owns (List.mem_cons_of_mem _ (List.mem_cons_of_mem _ (List.mem_map.2 ⟨p, hpm, rfl⟩))))).mono fun _ _ h => new_own h) (fun q1 => ?_)
  repeat ((refine l_move ?_; (refine SXl.v (OpW.move rfl) rfl ?_ ?_ ?_); rfl; rfl))
  refine l_call ?_
  refine SXl.callO rfl rfl rfl (fun w' hl => hF _ _ _ w' (items_res (hl.res _ (.head _)).1) (fun k hk => (hl.res _ (.head _)).2.1 k hk)) (fun q2 _ => ?_)
  simp only [List.cons_append, List.nil_append]
  skip
  refine l_append ?_
  refine SXl.appendS (cs := icell) (n0 := (sizesTo l gap inner ls k).length) (xs := ((sizesTo l gap inner ls k).map icell).flatten) 1 FS rfl rfl rfl rfl rfl rfl (fun _ => rfl) icell_one0 (fun w' hl => ⟨_, lineO_slice (p := (FS, q2)) hl.owns (.head _)⟩) (by omega) (by omega) (fun a0 c0 => ?_)
  simp only [List.set_cons_zero, List.set_cons_succ]
  rw [line_app]
  repeat (first | refine SXl.nil ?_ | refine SX.region ?_ | refine SQ.thenNormal ?_ | (refine l_move ?_; (refine SXl.v (OpW.move rfl) rfl ?_ ?_ ?_); rfl; rfl) | (refine l_assign ?_; (refine SXl.v (OpW.assign rfl) rfl ?_ ?_ ?_); rfl; rfl) | (refine l_add ?_; (refine SXl.v (OpW.succ rfl rfl (by omega)) rfl ?_ ?_ ?_); rfl; rfl) | refine SQ.blockNormal ?_)
  refine SQ.round3 (k + 1) (a0, c0) () (by omega) (by omega) ?_ (fun w hl => by rw [hS]; exact hl.dropE.dropO)
  (repeat (first | exact subF_nil _ | (refine subF_cons rfl ?_) | (refine subF_consv rfl (by simp [lineV, hS]) ?_)))
end Go.Proofs.Ytdohglcjjlmhhaa
namespace Go.Proofs.Ytdohglcjjlmhhaa
open Go.RowKit

set_option maxRecDepth 100000 in
theorem lsameInts_any (x y : List Int) (a b : Option Addr) (c c' : Nat) (R S : Nat → Prop) (w : World) (hx : x.length ≤ 1048576) (hy : y.length ≤ 1048576) (h : IntSlice R w a x) (h' : IntSlice S w b y) :
    Calls Try.prog 13 #[.slice a x.length c, .slice b y.length c'] w fun e w' => e = .returned (.bool (decide (x = y))) ∧ Mod (fun _ => False) w w' := by
  refine calls_sx Try.func13 rfl rfl (fun a h1 h2 h3 => ((Fr.nil h1 h2).arg (h3 1 _ rfl)).arg (h3 0 _ rfl)) ?_
  repeat (first | refine SX.seq ?_ | refine SXl.nil ?_ | refine SX.region ?_ | refine SQ.thenNormal ?_ | (refine l_move ?_; (refine SXl.v (OpW.move rfl) rfl ?_ ?_ ?_); rfl; rfl) | (refine l_assign ?_; (refine SXl.v (OpW.assign rfl) rfl ?_ ?_ ?_); rfl; rfl) | (refine l_len ?_; (refine SXl.v (OpW.len rfl) rfl ?_ ?_ ?_); rfl; rfl) | (refine l_neq ?_; (refine SXl.v (OpW.neq rfl rfl) rfl ?_ ?_ ?_); rfl; rfl))
  refine SX.cond rfl (fun hc => ?_) (fun hc => ?_)
  · (try simp only [Bool.not_eq_true', Bool.not_eq_false', decide_eq_true_eq, decide_eq_false_iff_not, Bool.and_eq_true, Bool.or_eq_true, Bool.or_eq_false_iff, Bool.and_eq_false_iff, Int.ofNat_inj, Int.ofNat_lt, Int.ofNat_le] at hc)
    repeat (first | refine SX.seq ?_ | refine SXl.nil ?_ | refine SX.region ?_ | refine SQ.thenNormal ?_ | (refine l_assign ?_; (refine SXl.v (OpW.assign rfl) rfl ?_ ?_ ?_); rfl; rfl) | refine SX.ret ?_ | refine SQ.thenRet ?_)
    refine SQ.body1 rfl rfl (fun w' hl => ⟨ret_bool (by symm; simp; rintro rfl; exact hc rfl), hl.mod⟩)
  · (try simp only [Bool.not_eq_true', Bool.not_eq_false', decide_eq_true_eq, decide_eq_false_iff_not, Bool.and_eq_true, Bool.or_eq_true, Bool.or_eq_false_iff, Bool.and_eq_false_iff, Int.ofNat_inj, Int.ofNat_lt, Int.ofNat_le] at hc)
    repeat (first | refine SX.seq ?_ | refine SXl.nil ?_ | refine SX.region ?_ | refine SQ.thenNormal ?_ | refine SX.block ?_ | refine SX.skip ?_ | (refine l_assign ?_; (refine SXl.v (OpW.assign rfl) rfl ?_ ?_ ?_); rfl; rfl))
    refine SX.loopi (fun k : Nat => k ≤ x.length ∧ SameTo x y k) (fun k => x.length - k) (fun _ => []) (fun _ => []) (fun _ => []) (fun k => [(0, .slice a x.length c), (1, .slice b y.length c'), (5, .int .i64 k)]) 0 ⟨Nat.zero_le _, rfl⟩ ?_ (fun _ hl => hl) ?_
    · (repeat (first | exact subF_nil _ | (refine subF_cons rfl ?_) | (refine subF_consv rfl (by rfl) ?_)))
    · rintro k ⟨hk, hs⟩
      by_cases hlt : k < x.length
      · obtain ⟨b1, o1, u, rfl, _, _, hxk, hc1⟩ := IntSlice.get h hlt
        obtain ⟨b2, o2, v, rfl, _, _, hyk, hc2⟩ := IntSlice.get h' (hc ▸ hlt)
        repeat (first | refine SX.seq ?_ | refine SXl.nil ?_ | refine SX.region ?_ | refine SQ.thenNormal ?_ | refine SX.block ?_ | refine SX.skip ?_ | refine SX.condT rfl ?_ | (refine l_move ?_; (refine SXl.v (OpW.move rfl) rfl ?_ ?_ ?_); rfl; rfl) | (refine l_len ?_; (refine SXl.v (OpW.len rfl) rfl ?_ ?_ ?_); rfl; rfl) | (refine l_lss ?_; (refine SXl.v (OpW.lssT rfl rfl (by omega)) rfl ?_ ?_ ?_); rfl; rfl) | refine SX.drawn (by kernel_rfl) (by kernel_rfl) ?_ | refine SXr.nil ?_ | (refine r_load ?_; (refine SXr.v (OpW.loadOld rfl (by assumption) (fun h => h)) rfl ?_ ?_ ?_); rfl; rfl) | (refine r_move ?_; (refine SXr.v (OpW.move rfl) rfl ?_ ?_ ?_); rfl; rfl) | (refine r_neq ?_; (refine SXr.v (OpW.neq rfl rfl) rfl ?_ ?_ ?_); rfl; rfl) | (refine r_indexAddr ?_; (refine SXr.v (OpW.indexAddr1 (by omega) rfl rfl) rfl ?_ ?_ ?_); rfl; rfl))
        refine SX.cond rfl (fun hq => ?_) (fun hq => ?_)
        · (try simp only [Bool.not_eq_true', Bool.not_eq_false', decide_eq_true_eq, decide_eq_false_iff_not, Bool.and_eq_true, Bool.or_eq_true, Bool.or_eq_false_iff, Bool.and_eq_false_iff, Int.ofNat_inj, Int.ofNat_lt, Int.ofNat_le] at hq)
          repeat (first | refine SX.seq ?_ | refine SXl.nil ?_ | refine SX.region ?_ | refine SQ.thenNormal ?_ | (refine l_assign ?_; (refine SXl.v (OpW.assign rfl) rfl ?_ ?_ ?_); rfl; rfl) | refine SX.ret ?_ | refine SQ.thenRet ?_ | refine SQ.blockRet ?_)
          refine SQ.body1 rfl rfl (fun w' hl => ⟨ret_bool (by symm; simp; exact ne_at hxk hyk hq), hl.mod⟩)
        · (try simp only [Bool.not_eq_true', Bool.not_eq_false', decide_eq_true_eq, decide_eq_false_iff_not, Bool.and_eq_true, Bool.or_eq_true, Bool.or_eq_false_iff, Bool.and_eq_false_iff, Int.ofNat_inj, Int.ofNat_lt, Int.ofNat_le] at hq)
          repeat (first | refine SXl.nil ?_ | refine SX.region ?_ | refine SQ.thenNormal ?_ | refine SX.skip ?_ | (refine l_move ?_; (refine SXl.v (OpW.move rfl) rfl ?_ ?_ ?_); rfl; rfl) | (refine l_assign ?_; (refine SXl.v (OpW.assign rfl) rfl ?_ ?_ ?_); rfl; rfl) | (refine l_add ?_; (refine SXl.v (OpW.succ rfl rfl (by omega)) rfl ?_ ?_ ?_); rfl; rfl) | refine SQ.blockNormal ?_)
          refine SQ.roundi (k + 1) ⟨by omega, hs.succ hxk (hq ▸ hyk)⟩ (by omega) ?_ (fun _ hl => hl)
          (repeat (first | exact subF_nil _ | (refine subF_cons rfl ?_) | (refine subF_consv rfl (by rfl) ?_)))
      · repeat (first | refine SX.seq ?_ | refine SXl.nil ?_ | refine SX.region ?_ | refine SQ.thenNormal ?_ | refine SX.condF rfl ?_ | (refine l_move ?_; (refine SXl.v (OpW.move rfl) rfl ?_ ?_ ?_); rfl; rfl) | (refine l_assign ?_; (refine SXl.v (OpW.assign rfl) rfl ?_ ?_ ?_); rfl; rfl) | (refine l_len ?_; (refine SXl.v (OpW.len rfl) rfl ?_ ?_ ?_); rfl; rfl) | (refine l_lss ?_; (refine SXl.v (OpW.lssF rfl rfl (by omega)) rfl ?_ ?_ ?_); rfl; rfl) | refine SX.ret ?_ | refine SX.exit ?_ | refine SQ.thenExit ?_ | refine SQ.blockExit ?_)
        refine SQ.body1 rfl rfl (fun w' hl => ⟨ret_bool (by symm; simp; exact hs.all (by omega) (by omega)), hl.mod⟩)

end Go.Proofs.Ytdohglcjjlmhhaa
