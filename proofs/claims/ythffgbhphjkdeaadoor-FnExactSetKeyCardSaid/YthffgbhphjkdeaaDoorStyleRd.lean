/-
  PROVED: an argument's reading of Value, Sides, Edges and Style: its cells are those of a plain structure. No condition.
-/
import Derived.Test.YthffgbhphjkdeaaDoorStyleT
import Derived.Test.YthffgbhphjkdeaaDoorRd
namespace Go.Proofs.YthffgbhphjkdeaaDoor
open Go.RowKit

theorem cut_at (cs : List Value) (o n m : Nat) (h : o + n = m) : cs.drop o = (cs.drop o).take n ++ cs.drop m := by
  subst h
  rw [← List.drop_drop, List.take_append_drop]

set_option maxRecDepth 100000 in
set_option maxHeartbeats 4000000 in
theorem rdA_Val {w : World} {cs : List Value} (h : Rd Tryd.prog w 23 cs) : ∃ x : Val, cs = x.cells := by
  obtain ⟨hl, hf⟩ := h.struct Tryd.underlying23
  have hl2 : cs.length = 2 := hl.trans (by kernel_rfl)
  have cz0 : Tryd.prog.cellsOf 3 = 1 := by kernel_rfl
  match cs, hl2 with
  | [q0, q1], _ =>
    obtain ⟨v0, e0, _⟩ := (hf 0 _ rfl).int Tryd.underlying3
    simp [cz0] at e0
    obtain ⟨v1, e1, _⟩ := (hf 1 _ rfl).int Tryd.underlying3
    simp [cz0] at e1
    exact ⟨⟨v0, v1⟩, by simp [Val.cells, e0, e1]⟩

set_option maxRecDepth 100000 in
set_option maxHeartbeats 4000000 in
theorem rdA_Sides {w : World} {cs : List Value} (h : Rd Tryd.prog w 25 cs) : ∃ x : Sides, cs = x.cells := by
  obtain ⟨hl, hf⟩ := h.struct Tryd.underlying25
  have hl2 : cs.length = 12 := hl.trans (by kernel_rfl)
  have cz0 : Tryd.prog.cellsOf 23 = 2 := by kernel_rfl
  match cs, hl2 with
  | [q0, q1, q2, q3, q4, q5, q6, q7, q8, q9, q10, q11], _ =>
    obtain ⟨v0, e0⟩ := rdA_Val (hf 0 _ rfl)
    simp [cz0, Val.cells] at e0
    obtain ⟨v1, e1⟩ := rdA_Val (hf 1 _ rfl)
    simp [cz0, Val.cells] at e1
    obtain ⟨v2, e2⟩ := rdA_Val (hf 2 _ rfl)
    simp [cz0, Val.cells] at e2
    obtain ⟨v3, e3⟩ := rdA_Val (hf 3 _ rfl)
    simp [cz0, Val.cells] at e3
    obtain ⟨v4, e4⟩ := rdA_Val (hf 4 _ rfl)
    simp [cz0, Val.cells] at e4
    obtain ⟨v5, e5⟩ := rdA_Val (hf 5 _ rfl)
    simp [cz0, Val.cells] at e5
    exact ⟨⟨v0, v1, v2, v3, v4, v5⟩, by simp [Sides.cells, e0, e1, e2, e3, e4, e5]⟩

set_option maxRecDepth 100000 in
set_option maxHeartbeats 4000000 in
theorem rdA_Edges {w : World} {cs : List Value} (h : Rd Tryd.prog w 27 cs) : ∃ x : Edges, cs = x.cells := by
  obtain ⟨hl, hf⟩ := h.struct Tryd.underlying27
  have hl2 : cs.length = 4 := hl.trans (by kernel_rfl)
  have cz0 : Tryd.prog.cellsOf 3 = 1 := by kernel_rfl
  match cs, hl2 with
  | [q0, q1, q2, q3], _ =>
    obtain ⟨v0, e0, _⟩ := (hf 0 _ rfl).int Tryd.underlying3
    simp [cz0] at e0
    obtain ⟨v1, e1, _⟩ := (hf 1 _ rfl).int Tryd.underlying3
    simp [cz0] at e1
    obtain ⟨v2, e2, _⟩ := (hf 2 _ rfl).int Tryd.underlying3
    simp [cz0] at e2
    obtain ⟨v3, e3, _⟩ := (hf 3 _ rfl).int Tryd.underlying3
    simp [cz0] at e3
    exact ⟨⟨v0, v1, v2, v3⟩, by simp [Edges.cells, e0, e1, e2, e3]⟩

set_option maxRecDepth 100000 in
set_option maxHeartbeats 4000000 in
theorem rdA_Style {w : World} {cs : List Value} (h : Rd Tryd.prog w 29 cs) : ∃ x : Style, cs = x.cells := by
  obtain ⟨hl, hf⟩ := h.struct Tryd.underlying29
  have hl2 : cs.length = 60 := hl.trans (by kernel_rfl)
  have cz0 : Tryd.prog.cellsOf 27 = 4 := by kernel_rfl
  have cz1 : Tryd.prog.cellsOf 25 = 12 := by kernel_rfl
  have cz2 : Tryd.prog.cellsOf 23 = 2 := by kernel_rfl
  have cz3 : Tryd.prog.cellsOf 4 = 1 := by kernel_rfl
  have cz4 : Tryd.prog.cellsOf 3 = 1 := by kernel_rfl
  obtain ⟨v0, e0, _⟩ := (hf 0 _ rfl).int Tryd.underlying3
  replace e0 : (cs.drop 0).take (Tryd.prog.cellsOf 3) = [.int .i64 v0] := e0
  rw [cz4] at e0
  obtain ⟨v1, e1, _⟩ := (hf 1 _ rfl).int Tryd.underlying3
  replace e1 : (cs.drop 1).take (Tryd.prog.cellsOf 3) = [.int .i64 v1] := e1
  rw [cz4] at e1
  obtain ⟨v2, e2, _⟩ := (hf 2 _ rfl).int Tryd.underlying3
  replace e2 : (cs.drop 2).take (Tryd.prog.cellsOf 3) = [.int .i64 v2] := e2
  rw [cz4] at e2
  obtain ⟨v3, e3, _⟩ := (hf 3 _ rfl).int Tryd.underlying3
  replace e3 : (cs.drop 3).take (Tryd.prog.cellsOf 3) = [.int .i64 v3] := e3
  rw [cz4] at e3
  obtain ⟨v4, e4, _⟩ := (hf 4 _ rfl).int Tryd.underlying3
  replace e4 : (cs.drop 4).take (Tryd.prog.cellsOf 3) = [.int .i64 v4] := e4
  rw [cz4] at e4
  obtain ⟨v5, e5, _⟩ := (hf 5 _ rfl).int Tryd.underlying3
  replace e5 : (cs.drop 5).take (Tryd.prog.cellsOf 3) = [.int .i64 v5] := e5
  rw [cz4] at e5
  obtain ⟨v6, e6⟩ := (hf 6 _ rfl).bool Tryd.underlying4
  replace e6 : (cs.drop 6).take (Tryd.prog.cellsOf 4) = [.bool v6] := e6
  rw [cz3] at e6
  obtain ⟨v7, e7⟩ := (hf 7 _ rfl).bool Tryd.underlying4
  replace e7 : (cs.drop 7).take (Tryd.prog.cellsOf 4) = [.bool v7] := e7
  rw [cz3] at e7
  obtain ⟨v8, e8, _⟩ := (hf 8 _ rfl).int Tryd.underlying3
  replace e8 : (cs.drop 8).take (Tryd.prog.cellsOf 3) = [.int .i64 v8] := e8
  rw [cz4] at e8
  obtain ⟨v9, e9, _⟩ := (hf 9 _ rfl).int Tryd.underlying3
  replace e9 : (cs.drop 9).take (Tryd.prog.cellsOf 3) = [.int .i64 v9] := e9
  rw [cz4] at e9
  obtain ⟨v10, e10, _⟩ := (hf 10 _ rfl).int Tryd.underlying3
  replace e10 : (cs.drop 10).take (Tryd.prog.cellsOf 3) = [.int .i64 v10] := e10
  rw [cz4] at e10
  obtain ⟨v11, e11⟩ := rdA_Val (hf 11 _ rfl)
  replace e11 : (cs.drop 11).take (Tryd.prog.cellsOf 23) = v11.cells := e11
  rw [cz2] at e11
  obtain ⟨v12, e12⟩ := rdA_Val (hf 12 _ rfl)
  replace e12 : (cs.drop 13).take (Tryd.prog.cellsOf 23) = v12.cells := e12
  rw [cz2] at e12
  obtain ⟨v13, e13⟩ := rdA_Val (hf 13 _ rfl)
  replace e13 : (cs.drop 15).take (Tryd.prog.cellsOf 23) = v13.cells := e13
  rw [cz2] at e13
  obtain ⟨v14, e14⟩ := rdA_Val (hf 14 _ rfl)
  replace e14 : (cs.drop 17).take (Tryd.prog.cellsOf 23) = v14.cells := e14
  rw [cz2] at e14
  obtain ⟨v15, e15⟩ := rdA_Val (hf 15 _ rfl)
  replace e15 : (cs.drop 19).take (Tryd.prog.cellsOf 23) = v15.cells := e15
  rw [cz2] at e15
  obtain ⟨v16, e16⟩ := rdA_Val (hf 16 _ rfl)
  replace e16 : (cs.drop 21).take (Tryd.prog.cellsOf 23) = v16.cells := e16
  rw [cz2] at e16
  obtain ⟨v17, e17⟩ := rdA_Val (hf 17 _ rfl)
  replace e17 : (cs.drop 23).take (Tryd.prog.cellsOf 23) = v17.cells := e17
  rw [cz2] at e17
  obtain ⟨v18, e18, _⟩ := (hf 18 _ rfl).int Tryd.underlying3
  replace e18 : (cs.drop 25).take (Tryd.prog.cellsOf 3) = [.int .i64 v18] := e18
  rw [cz4] at e18
  obtain ⟨v19, e19⟩ := rdA_Sides (hf 19 _ rfl)
  replace e19 : (cs.drop 26).take (Tryd.prog.cellsOf 25) = v19.cells := e19
  rw [cz1] at e19
  obtain ⟨v20, e20⟩ := rdA_Sides (hf 20 _ rfl)
  replace e20 : (cs.drop 38).take (Tryd.prog.cellsOf 25) = v20.cells := e20
  rw [cz1] at e20
  obtain ⟨v21, e21⟩ := rdA_Edges (hf 21 _ rfl)
  replace e21 : (cs.drop 50).take (Tryd.prog.cellsOf 27) = v21.cells := e21
  rw [cz0] at e21
  obtain ⟨v22, e22⟩ := rdA_Edges (hf 22 _ rfl)
  replace e22 : (cs.drop 54).take (Tryd.prog.cellsOf 27) = v22.cells := e22
  rw [cz0] at e22
  obtain ⟨v23, e23, _⟩ := (hf 23 _ rfl).int Tryd.underlying3
  replace e23 : (cs.drop 58).take (Tryd.prog.cellsOf 3) = [.int .i64 v23] := e23
  rw [cz4] at e23
  obtain ⟨v24, e24, _⟩ := (hf 24 _ rfl).int Tryd.underlying3
  replace e24 : (cs.drop 59).take (Tryd.prog.cellsOf 3) = [.int .i64 v24] := e24
  rw [cz4] at e24
  have hz : cs.drop 60 = [] := List.drop_eq_nil_of_le (by omega)
  clear hf hl hl2 h
  refine ⟨⟨v0, v1, v2, v3, v4, v5, v6, v7, v8, v9, v10, v11, v12, v13, v14, v15, v16, v17, v18, v19, v20, v21, v22, v23, v24⟩, ?_⟩
  show cs.drop 0 = _
  rw [cut_at cs 0 1 1 rfl, e0, cut_at cs 1 1 2 rfl, e1, cut_at cs 2 1 3 rfl, e2, cut_at cs 3 1 4 rfl, e3, cut_at cs 4 1 5 rfl, e4, cut_at cs 5 1 6 rfl, e5, cut_at cs 6 1 7 rfl, e6, cut_at cs 7 1 8 rfl, e7, cut_at cs 8 1 9 rfl, e8, cut_at cs 9 1 10 rfl, e9, cut_at cs 10 1 11 rfl, e10, cut_at cs 11 2 13 rfl, e11, cut_at cs 13 2 15 rfl, e12, cut_at cs 15 2 17 rfl, e13, cut_at cs 17 2 19 rfl, e14, cut_at cs 19 2 21 rfl, e15, cut_at cs 21 2 23 rfl, e16, cut_at cs 23 2 25 rfl, e17, cut_at cs 25 1 26 rfl, e18, cut_at cs 26 12 38 rfl, e19, cut_at cs 38 12 50 rfl, e20, cut_at cs 50 4 54 rfl, e21, cut_at cs 54 4 58 rfl, e22, cut_at cs 58 1 59 rfl, e23, cut_at cs 59 1 60 rfl, e24, hz]
  rfl

end Go.Proofs.YthffgbhphjkdeaaDoor
