/-
  PROVED: contracts of the exact laws' functions at tables: count, reading. No condition but a bound on the length.
-/
import Derived.Test.YtcolkidnjojlmaaActCodec
import Derived.Test.YtcolkidnjojlmaaRd
namespace Go.Proofs.Ytcolkidnjojlmaa
open Go.RowKit

theorem szTable_any (n c : Nat) (a : Option Addr) (left : Int) (h0 : 0 ≤ left) (h1 : left ≤ 1048576) (hn : n ≤ 9223372036854775807) (w : World) : Calls Try.prog 159 #[.agg #[.slice a n c], .int .i64 left] w fun e w' => e = .returned (.int .i64 (if left < n then -1 else left - n)) ∧ Mod (fun _ => False) w w' := by
  by_cases h : left < n
  · rw [if_pos h]
    go_enter Try.func159, Try.ntmps159
    go_wp2_with fail
    refine (szRuleS_any _ _ _ _ h0 h1 hn _).mono ?_
    rintro e w' ⟨rfl, rfl⟩
    rw [if_pos h]
    go_wp2
    go_ret
    exact ⟨rfl, by (repeat (first | with_reducible exact Mod.refl _ _ | with_reducible refine Mod.drewN ?_ _ | with_reducible refine Mod.drew ?_ | with_reducible refine Mod.alloc ?_ _ | ((with_reducible refine Mod.setNew ?_ ?_ _ _ _); (rotate_left; omega)) | with_reducible refine Mod.setAt ?_ _ _ _ ))⟩
  · rw [if_neg h]
    have h2 : 0 ≤ left - n := by omega
    go_enter Try.func159, Try.ntmps159
    go_wp2_with fail
    refine (szRuleS_any _ _ _ _ h0 h1 hn _).mono ?_
    rintro e w' ⟨rfl, rfl⟩
    rw [if_neg (by omega)]
    go_wp2
    go_ret
    exact ⟨rfl, by (repeat (first | with_reducible exact Mod.refl _ _ | with_reducible refine Mod.drewN ?_ _ | with_reducible refine Mod.drew ?_ | with_reducible refine Mod.alloc ?_ _ | ((with_reducible refine Mod.setNew ?_ ?_ _ _ _); (rotate_left; omega)) | with_reducible refine Mod.setAt ?_ _ _ _ ))⟩

set_option maxRecDepth 100000 in
theorem rd_Rule {w : World} {cs : List Value} (h : Rd Try.prog w 230 cs) : ∃ x : Rule, cs = x.cells := by
  obtain ⟨hl, hf⟩ := h.struct Try.underlying230
  have hl2 : cs.length = 3 := hl.trans (by kernel_rfl)
  have c1 : Try.prog.cellsOf 3 = 1 := by kernel_rfl
  match cs, hl2 with
  | [q0, q1, q2], _ =>
    obtain ⟨n0, e0, _⟩ := (hf 0 _ rfl).int Try.underlying3
    obtain ⟨n1, e1, _⟩ := (hf 1 _ rfl).int Try.underlying3
    obtain ⟨n2, e2, _⟩ := (hf 2 _ rfl).int Try.underlying3
    simp [c1] at e0 e1 e2
    exact ⟨⟨n0, n1, n2⟩, by simp [Rule.cells, e0, e1, e2]⟩
set_option maxRecDepth 100000 in
theorem rd_Table {w : World} {cs : List Value} (h : Rd Try.prog w 183 cs) : ∃ (a : Option Addr) (l : List Rule) (c : Nat), cs = [.slice a l.length c] ∧ l.length ≤ 9223372036854775807 ∧ SliceAt (Flat Rule.cells) 3 (fun k => k < w.heap.size) w a l := by
  obtain ⟨hl, hf⟩ := h.struct Try.underlying183
  have hl2 : cs.length = 1 := hl.trans (by kernel_rfl)
  have c1 : Try.prog.cellsOf 181 = 1 := by kernel_rfl
  match cs, hl2 with
  | [q0], _ =>
    obtain ⟨a, l, c, e, h1, h2, h3⟩ := (hf 0 _ rfl).list (rep := Flat Rule.cells) (sz := 3) Try.underlying181 (by kernel_rfl) (by decide) (fun cs h => rd_Rule h)
    simp [c1] at e
    unfold maxLen at h2
    exact ⟨a, l, c, by rw [e], by omega, h3⟩

/-- A table's value reads as its rules. -/
def TableAt (l : List Rule) (w : World) (v : Value) : Prop := ∃ a c, v = .agg #[.slice a l.length c] ∧ ∃ R, SliceAt (Flat Rule.cells) 3 R w a l
theorem TableAt.keep {l : List Rule} {w w' : World} {v : Value} (h : TableAt l w v) (hm : Mod (fun _ => False) w w') : TableAt l w' v := by
  obtain ⟨a, c, h1, R, h2⟩ := h
  exact ⟨a, c, h1, R, h2.flatKeep hm⟩
theorem NewTable.at {w w' : World} {l : List Rule} {en : Ending} (h : NewTable 208 w l.length (l.map Rule.cells).flatten en w') :
    ∃ v, en = .returned v ∧ TableAt l w' v ∧ Mod (fun _ => False) w w' := by
  obtain ⟨g, he, hg, hb, hm⟩ := h
  exact ⟨_, he, ⟨_, _, rfl, _, flat_of_blk hb (fun _ => rfl)⟩, hm⟩

end Go.Proofs.Ytcolkidnjojlmaa
