/-
  PROVED: contracts of functions and words on memory, several texts put together: what each says stands at its theorems. Conditions: as told there.
-/
import Derived.Test.YthffgbhphjkdeaaMGb
import Derived.Test.YthffgbhphjkdeaaShelf
set_option linter.unusedVariables false
set_option linter.unusedSimpArgs false
namespace Go.Proofs.Ythffgbhphjkdeaa
open Go.RowKit
set_option linter.unusedVariables false
set_option linter.unusedSimpArgs false

def styleOk (x : Style) : Bool := (inB x.dir 1 4 && inB x.wrap 1 3 && inB x.justify 1 6 && inB x.items 1 5 && inB x.self 0 5 && inB x.content 1 6) && (inB x.order (-1000) 1000 && inB x.grow 0 1000 && inB x.shrink 0 1000 && inB x.ratio 0 6400) && (sizeOk x.basis && sizeOk x.width && sizeOk x.height && sizeOk x.minWidth && sizeOk x.minHeight && sizeOk x.maxWidth && sizeOk x.maxHeight) && (sidesOk x.margin && sidesOk x.inset && edgesOk x.pad && edgesOk x.border && inB x.rowGap 0 1048576 && inB x.colGap 0 1048576)
set_option maxRecDepth 100000 in
set_option maxHeartbeats 8000000 in
theorem sstyleOk_any (x : Style) (w : World) : Calls Try.prog 84 #[.agg #[.int .i64 x.dir, .int .i64 x.wrap, .int .i64 x.justify, .int .i64 x.items, .int .i64 x.self, .int .i64 x.content, .bool x.apart, .bool x.hidden, .int .i64 x.order, .int .i64 x.grow, .int .i64 x.shrink, .int .i64 x.basis.kind, .int .i64 x.basis.n, .int .i64 x.width.kind, .int .i64 x.width.n, .int .i64 x.height.kind, .int .i64 x.height.n, .int .i64 x.minWidth.kind, .int .i64 x.minWidth.n, .int .i64 x.minHeight.kind, .int .i64 x.minHeight.n, .int .i64 x.maxWidth.kind, .int .i64 x.maxWidth.n, .int .i64 x.maxHeight.kind, .int .i64 x.maxHeight.n, .int .i64 x.ratio, .int .i64 x.margin.left.kind, .int .i64 x.margin.left.n, .int .i64 x.margin.top.kind, .int .i64 x.margin.top.n, .int .i64 x.margin.right.kind, .int .i64 x.margin.right.n, .int .i64 x.margin.bottom.kind, .int .i64 x.margin.bottom.n, .int .i64 x.margin.start.kind, .int .i64 x.margin.start.n, .int .i64 x.margin.stop.kind, .int .i64 x.margin.stop.n, .int .i64 x.inset.left.kind, .int .i64 x.inset.left.n, .int .i64 x.inset.top.kind, .int .i64 x.inset.top.n, .int .i64 x.inset.right.kind, .int .i64 x.inset.right.n, .int .i64 x.inset.bottom.kind, .int .i64 x.inset.bottom.n, .int .i64 x.inset.start.kind, .int .i64 x.inset.start.n, .int .i64 x.inset.stop.kind, .int .i64 x.inset.stop.n, .int .i64 x.pad.left, .int .i64 x.pad.top, .int .i64 x.pad.right, .int .i64 x.pad.bottom, .int .i64 x.border.left, .int .i64 x.border.top, .int .i64 x.border.right, .int .i64 x.border.bottom, .int .i64 x.rowGap, .int .i64 x.colGap]] w fun e w' => e = .returned (.bool (styleOk x)) ∧ Mod (fun _ => False) w w' := by
  refine calls_sx Try.func84 rfl rfl (fun a h1 h2 h3 => ((Fr.nil h1 h2).arg (h3 0 _ rfl))) ?_
  cases q0 : inB x.dir 1 4
  · have hv : styleOk x = false := by simp [styleOk, q0]
    repeat (first | refine qan ?_ | refine qaj ?_ | refine qaf ?_ | refine qad ?_ | refine qaq rfl ?_ | (refine qaS rfl rfl rfl ?_) | (refine qat ?_; (refine qac (qaL rfl (fun w _ => l01In_any _ _ _ _)) rfl ?_ ?_ ?_); rfl; rfl) | (refine qau ?_; (refine qac (qaw 0 rfl rfl rfl) rfl ?_ ?_ ?_); rfl; rfl) | (refine qak ?_; (refine qac (qae rfl) rfl ?_ ?_ ?_); rfl; rfl) | (refine qao ?_; (refine qac (qai rfl) rfl ?_ ?_ ?_); rfl; rfl) | (refine qal ?_; (refine qac (qag rfl) rfl ?_ ?_ ?_); rfl; rfl) | (refine qaT ?_; (refine qac (OpW.not rfl) rfl ?_ ?_ ?_); rfl; rfl) | (refine qaE ?_; (refine qac (qav rfl rfl rfl) rfl ?_ ?_ ?_); rfl; rfl) | (refine l_box ?_; refine qaG ?_ ?_ rfl rfl (fun g => ?_); rfl; rfl) | (rw [q0]) | refine qaA ?_ | refine qax ?_)
    refine qaz rfl rfl (fun w' hl => ⟨ret_bool hv.symm, hl.mod⟩)
  cases q1 : inB x.wrap 1 3
  · have hv : styleOk x = false := by simp [styleOk, q1]
    repeat (first | refine qan ?_ | refine qaj ?_ | refine qaf ?_ | refine qad ?_ | refine qaq rfl ?_ | (refine qaS rfl rfl rfl ?_) | (refine qat ?_; (refine qac (qaL rfl (fun w _ => l01In_any _ _ _ _)) rfl ?_ ?_ ?_); rfl; rfl) | (refine qau ?_; (refine qac (qaw 0 rfl rfl rfl) rfl ?_ ?_ ?_); rfl; rfl) | (refine qak ?_; (refine qac (qae rfl) rfl ?_ ?_ ?_); rfl; rfl) | (refine qao ?_; (refine qac (qai rfl) rfl ?_ ?_ ?_); rfl; rfl) | (refine qal ?_; (refine qac (qag rfl) rfl ?_ ?_ ?_); rfl; rfl) | (refine qaT ?_; (refine qac (OpW.not rfl) rfl ?_ ?_ ?_); rfl; rfl) | (refine qaE ?_; (refine qac (qav rfl rfl rfl) rfl ?_ ?_ ?_); rfl; rfl) | (refine l_box ?_; refine qaG ?_ ?_ rfl rfl (fun g => ?_); rfl; rfl) | ((first | rw [q0] | rw [q1])) | refine qaA ?_ | refine qax ?_)
    refine qaz rfl rfl (fun w' hl => ⟨ret_bool hv.symm, hl.mod⟩)
  cases q2 : inB x.justify 1 6
  · have hv : styleOk x = false := by simp [styleOk, q2]
    repeat (first | refine qan ?_ | refine qaj ?_ | refine qaf ?_ | refine qad ?_ | refine qaq rfl ?_ | (refine qaS rfl rfl rfl ?_) | (refine qat ?_; (refine qac (qaL rfl (fun w _ => l01In_any _ _ _ _)) rfl ?_ ?_ ?_); rfl; rfl) | (refine qau ?_; (refine qac (qaw 0 rfl rfl rfl) rfl ?_ ?_ ?_); rfl; rfl) | (refine qak ?_; (refine qac (qae rfl) rfl ?_ ?_ ?_); rfl; rfl) | (refine qao ?_; (refine qac (qai rfl) rfl ?_ ?_ ?_); rfl; rfl) | (refine qal ?_; (refine qac (qag rfl) rfl ?_ ?_ ?_); rfl; rfl) | (refine qaT ?_; (refine qac (OpW.not rfl) rfl ?_ ?_ ?_); rfl; rfl) | (refine qaE ?_; (refine qac (qav rfl rfl rfl) rfl ?_ ?_ ?_); rfl; rfl) | (refine l_box ?_; refine qaG ?_ ?_ rfl rfl (fun g => ?_); rfl; rfl) | ((first | rw [q0] | rw [q1] | rw [q2])) | refine qaA ?_ | refine qax ?_)
    refine qaz rfl rfl (fun w' hl => ⟨ret_bool hv.symm, hl.mod⟩)
  cases q3 : inB x.items 1 5
  · have hv : styleOk x = false := by simp [styleOk, q3]
    repeat (first | refine qan ?_ | refine qaj ?_ | refine qaf ?_ | refine qad ?_ | refine qaq rfl ?_ | (refine qaS rfl rfl rfl ?_) | (refine qat ?_; (refine qac (qaL rfl (fun w _ => l01In_any _ _ _ _)) rfl ?_ ?_ ?_); rfl; rfl) | (refine qau ?_; (refine qac (qaw 0 rfl rfl rfl) rfl ?_ ?_ ?_); rfl; rfl) | (refine qak ?_; (refine qac (qae rfl) rfl ?_ ?_ ?_); rfl; rfl) | (refine qao ?_; (refine qac (qai rfl) rfl ?_ ?_ ?_); rfl; rfl) | (refine qal ?_; (refine qac (qag rfl) rfl ?_ ?_ ?_); rfl; rfl) | (refine qaT ?_; (refine qac (OpW.not rfl) rfl ?_ ?_ ?_); rfl; rfl) | (refine qaE ?_; (refine qac (qav rfl rfl rfl) rfl ?_ ?_ ?_); rfl; rfl) | (refine l_box ?_; refine qaG ?_ ?_ rfl rfl (fun g => ?_); rfl; rfl) | ((first | rw [q0] | rw [q1] | rw [q2] | rw [q3])) | refine qaA ?_ | refine qax ?_)
    refine qaz rfl rfl (fun w' hl => ⟨ret_bool hv.symm, hl.mod⟩)
  cases q4 : inB x.self 0 5
  · have hv : styleOk x = false := by simp [styleOk, q4]
    repeat (first | refine qan ?_ | refine qaj ?_ | refine qaf ?_ | refine qad ?_ | refine qaq rfl ?_ | (refine qaS rfl rfl rfl ?_) | (refine qat ?_; (refine qac (qaL rfl (fun w _ => l01In_any _ _ _ _)) rfl ?_ ?_ ?_); rfl; rfl) | (refine qau ?_; (refine qac (qaw 0 rfl rfl rfl) rfl ?_ ?_ ?_); rfl; rfl) | (refine qak ?_; (refine qac (qae rfl) rfl ?_ ?_ ?_); rfl; rfl) | (refine qao ?_; (refine qac (qai rfl) rfl ?_ ?_ ?_); rfl; rfl) | (refine qal ?_; (refine qac (qag rfl) rfl ?_ ?_ ?_); rfl; rfl) | (refine qaT ?_; (refine qac (OpW.not rfl) rfl ?_ ?_ ?_); rfl; rfl) | (refine qaE ?_; (refine qac (qav rfl rfl rfl) rfl ?_ ?_ ?_); rfl; rfl) | (refine l_box ?_; refine qaG ?_ ?_ rfl rfl (fun g => ?_); rfl; rfl) | ((first | rw [q0] | rw [q1] | rw [q2] | rw [q3] | rw [q4])) | refine qaA ?_ | refine qax ?_)
    refine qaz rfl rfl (fun w' hl => ⟨ret_bool hv.symm, hl.mod⟩)
  cases q5 : inB x.content 1 6
  · have hv : styleOk x = false := by simp [styleOk, q5]
    repeat (first | refine qan ?_ | refine qaj ?_ | refine qaf ?_ | refine qad ?_ | refine qaq rfl ?_ | (refine qat ?_; (refine qac (qaL rfl (fun w _ => l01In_any _ _ _ _)) rfl ?_ ?_ ?_); rfl; rfl) | (refine qau ?_; (refine qac (qaw 0 rfl rfl rfl) rfl ?_ ?_ ?_); rfl; rfl) | (refine qak ?_; (refine qac (qae rfl) rfl ?_ ?_ ?_); rfl; rfl) | (refine qao ?_; (refine qac (qai rfl) rfl ?_ ?_ ?_); rfl; rfl) | (refine qal ?_; (refine qac (qag rfl) rfl ?_ ?_ ?_); rfl; rfl) | (refine qaT ?_; (refine qac (OpW.not rfl) rfl ?_ ?_ ?_); rfl; rfl) | (refine qaE ?_; (refine qac (qav rfl rfl rfl) rfl ?_ ?_ ?_); rfl; rfl) | (refine l_box ?_; refine qaG ?_ ?_ rfl rfl (fun g => ?_); rfl; rfl) | ((first | rw [q0] | rw [q1] | rw [q2] | rw [q3] | rw [q4] | rw [q5])) | refine qaA ?_ | refine qax ?_)
    refine qaz rfl rfl (fun w' hl => ⟨ret_bool hv.symm, hl.mod⟩)
  cases q6 : inB x.order (-1000) 1000
  · have hv : styleOk x = false := by simp [styleOk, q6]
    repeat (first | refine qan ?_ | refine qaj ?_ | refine qaf ?_ | refine qad ?_ | refine qaC ?_ | refine qaq rfl ?_ | refine qas rfl ?_ | (refine qaS rfl rfl rfl ?_) | (refine qat ?_; (refine qac (qaL rfl (fun w _ => l01In_any _ _ _ _)) rfl ?_ ?_ ?_); rfl; rfl) | (refine qau ?_; (refine qac (qaw 0 rfl rfl rfl) rfl ?_ ?_ ?_); rfl; rfl) | (refine qak ?_; (refine qac (qae rfl) rfl ?_ ?_ ?_); rfl; rfl) | (refine qao ?_; (refine qac (qai rfl) rfl ?_ ?_ ?_); rfl; rfl) | (refine qal ?_; (refine qac (qag rfl) rfl ?_ ?_ ?_); rfl; rfl) | (refine qaT ?_; (refine qac (OpW.not rfl) rfl ?_ ?_ ?_); rfl; rfl) | (refine qaE ?_; (refine qac (qav rfl rfl rfl) rfl ?_ ?_ ?_); rfl; rfl) | (refine l_box ?_; refine qaG ?_ ?_ rfl rfl (fun g => ?_); rfl; rfl) | ((first | rw [q0] | rw [q1] | rw [q2] | rw [q3] | rw [q4] | rw [q5] | rw [q6])) | refine qaA ?_ | refine qax ?_)
    refine qaz rfl rfl (fun w' hl => ⟨ret_bool hv.symm, hl.mod⟩)
  cases q7 : inB x.grow 0 1000
  · have hv : styleOk x = false := by simp [styleOk, q7]
    repeat (first | refine qan ?_ | refine qaj ?_ | refine qaf ?_ | refine qad ?_ | refine qaC ?_ | refine qaq rfl ?_ | refine qas rfl ?_ | (refine qaS rfl rfl rfl ?_) | (refine qat ?_; (refine qac (qaL rfl (fun w _ => l01In_any _ _ _ _)) rfl ?_ ?_ ?_); rfl; rfl) | (refine qau ?_; (refine qac (qaw 0 rfl rfl rfl) rfl ?_ ?_ ?_); rfl; rfl) | (refine qak ?_; (refine qac (qae rfl) rfl ?_ ?_ ?_); rfl; rfl) | (refine qao ?_; (refine qac (qai rfl) rfl ?_ ?_ ?_); rfl; rfl) | (refine qal ?_; (refine qac (qag rfl) rfl ?_ ?_ ?_); rfl; rfl) | (refine qaT ?_; (refine qac (OpW.not rfl) rfl ?_ ?_ ?_); rfl; rfl) | (refine qaE ?_; (refine qac (qav rfl rfl rfl) rfl ?_ ?_ ?_); rfl; rfl) | (refine l_box ?_; refine qaG ?_ ?_ rfl rfl (fun g => ?_); rfl; rfl) | ((first | rw [q0] | rw [q1] | rw [q2] | rw [q3] | rw [q4] | rw [q5] | rw [q6] | rw [q7])) | refine qaA ?_ | refine qax ?_)
    refine qaz rfl rfl (fun w' hl => ⟨ret_bool hv.symm, hl.mod⟩)
  cases q8 : inB x.shrink 0 1000
  · have hv : styleOk x = false := by simp [styleOk, q8]
    repeat (first | refine qan ?_ | refine qaj ?_ | refine qaf ?_ | refine qad ?_ | refine qaC ?_ | refine qaq rfl ?_ | refine qas rfl ?_ | (refine qaS rfl rfl rfl ?_) | (refine qat ?_; (refine qac (qaL rfl (fun w _ => l01In_any _ _ _ _)) rfl ?_ ?_ ?_); rfl; rfl) | (refine qau ?_; (refine qac (qaw 0 rfl rfl rfl) rfl ?_ ?_ ?_); rfl; rfl) | (refine qak ?_; (refine qac (qae rfl) rfl ?_ ?_ ?_); rfl; rfl) | (refine qao ?_; (refine qac (qai rfl) rfl ?_ ?_ ?_); rfl; rfl) | (refine qal ?_; (refine qac (qag rfl) rfl ?_ ?_ ?_); rfl; rfl) | (refine qaT ?_; (refine qac (OpW.not rfl) rfl ?_ ?_ ?_); rfl; rfl) | (refine qaE ?_; (refine qac (qav rfl rfl rfl) rfl ?_ ?_ ?_); rfl; rfl) | (refine l_box ?_; refine qaG ?_ ?_ rfl rfl (fun g => ?_); rfl; rfl) | ((first | rw [q0] | rw [q1] | rw [q2] | rw [q3] | rw [q4] | rw [q5] | rw [q6] | rw [q7] | rw [q8])) | refine qaA ?_ | refine qax ?_)
    refine qaz rfl rfl (fun w' hl => ⟨ret_bool hv.symm, hl.mod⟩)
  cases q9 : inB x.ratio 0 6400
  · have hv : styleOk x = false := by simp [styleOk, q9]
    repeat (first | refine qan ?_ | refine qaj ?_ | refine qaf ?_ | refine qad ?_ | refine qaC ?_ | refine qaq rfl ?_ | refine qas rfl ?_ | (refine qat ?_; (refine qac (qaL rfl (fun w _ => l01In_any _ _ _ _)) rfl ?_ ?_ ?_); rfl; rfl) | (refine qau ?_; (refine qac (qaw 0 rfl rfl rfl) rfl ?_ ?_ ?_); rfl; rfl) | (refine qak ?_; (refine qac (qae rfl) rfl ?_ ?_ ?_); rfl; rfl) | (refine qao ?_; (refine qac (qai rfl) rfl ?_ ?_ ?_); rfl; rfl) | (refine qal ?_; (refine qac (qag rfl) rfl ?_ ?_ ?_); rfl; rfl) | (refine qaT ?_; (refine qac (OpW.not rfl) rfl ?_ ?_ ?_); rfl; rfl) | (refine qaE ?_; (refine qac (qav rfl rfl rfl) rfl ?_ ?_ ?_); rfl; rfl) | (refine l_box ?_; refine qaG ?_ ?_ rfl rfl (fun g => ?_); rfl; rfl) | ((first | rw [q0] | rw [q1] | rw [q2] | rw [q3] | rw [q4] | rw [q5] | rw [q6] | rw [q7] | rw [q8] | rw [q9])) | refine qaA ?_ | refine qax ?_)
    refine qaz rfl rfl (fun w' hl => ⟨ret_bool hv.symm, hl.mod⟩)
  cases q10 : sizeOk x.basis
  · have hv : styleOk x = false := by simp [styleOk, q10]
    repeat (first | refine qan ?_ | refine qaj ?_ | refine qaf ?_ | refine qad ?_ | refine qaC ?_ | refine qaq rfl ?_ | refine qas rfl ?_ | (refine qaS rfl rfl rfl ?_) | (refine qat ?_; (first | refine qac (qap rfl (fun w hl => ssizeOk_any _ _)) rfl ?_ ?_ ?_ | refine qac (qaL rfl (fun w _ => l01In_any _ _ _ _)) rfl ?_ ?_ ?_); rfl; rfl) | (refine qau ?_; (first | refine qac (qaw 0 rfl rfl rfl) rfl ?_ ?_ ?_ | refine qac (qaI 0 rfl rfl rfl rfl) rfl ?_ ?_ ?_); rfl; rfl) | (refine qak ?_; (refine qac (qae rfl) rfl ?_ ?_ ?_); rfl; rfl) | (refine qao ?_; (refine qac (qai rfl) rfl ?_ ?_ ?_); rfl; rfl) | (refine qal ?_; (refine qac (qag rfl) rfl ?_ ?_ ?_); rfl; rfl) | (refine qaT ?_; (refine qac (OpW.not rfl) rfl ?_ ?_ ?_); rfl; rfl) | (refine qaE ?_; (refine qac (qav rfl rfl rfl) rfl ?_ ?_ ?_); rfl; rfl) | (refine l_box ?_; refine qaG ?_ ?_ rfl rfl (fun g => ?_); rfl; rfl) | ((first | rw [q0] | rw [q1] | rw [q2] | rw [q3] | rw [q4] | rw [q5] | rw [q6] | rw [q7] | rw [q8] | rw [q9] | rw [q10])) | refine qaA ?_ | refine qax ?_)
    refine qaz rfl rfl (fun w' hl => ⟨ret_bool hv.symm, hl.mod⟩)
  cases q11 : sizeOk x.width
  · have hv : styleOk x = false := by simp [styleOk, q11]
    repeat (first | refine qan ?_ | refine qaj ?_ | refine qaf ?_ | refine qad ?_ | refine qaC ?_ | refine qaq rfl ?_ | refine qas rfl ?_ | (refine qaS rfl rfl rfl ?_) | (refine qat ?_; (first | refine qac (qap rfl (fun w hl => ssizeOk_any _ _)) rfl ?_ ?_ ?_ | refine qac (qaL rfl (fun w _ => l01In_any _ _ _ _)) rfl ?_ ?_ ?_); rfl; rfl) | (refine qau ?_; (first | refine qac (qaw 0 rfl rfl rfl) rfl ?_ ?_ ?_ | refine qac (qaI 0 rfl rfl rfl rfl) rfl ?_ ?_ ?_); rfl; rfl) | (refine qak ?_; (refine qac (qae rfl) rfl ?_ ?_ ?_); rfl; rfl) | (refine qao ?_; (refine qac (qai rfl) rfl ?_ ?_ ?_); rfl; rfl) | (refine qal ?_; (refine qac (qag rfl) rfl ?_ ?_ ?_); rfl; rfl) | (refine qaT ?_; (refine qac (OpW.not rfl) rfl ?_ ?_ ?_); rfl; rfl) | (refine qaE ?_; (refine qac (qav rfl rfl rfl) rfl ?_ ?_ ?_); rfl; rfl) | (refine l_box ?_; refine qaG ?_ ?_ rfl rfl (fun g => ?_); rfl; rfl) | ((first | rw [q0] | rw [q1] | rw [q2] | rw [q3] | rw [q4] | rw [q5] | rw [q6] | rw [q7] | rw [q8] | rw [q9] | rw [q10] | rw [q11])) | refine qaA ?_ | refine qax ?_)
    refine qaz rfl rfl (fun w' hl => ⟨ret_bool hv.symm, hl.mod⟩)
  cases q12 : sizeOk x.height
  · have hv : styleOk x = false := by simp [styleOk, q12]
    repeat (first | refine qan ?_ | refine qaj ?_ | refine qaf ?_ | refine qad ?_ | refine qaC ?_ | refine qaq rfl ?_ | refine qas rfl ?_ | (refine qaS rfl rfl rfl ?_) | (refine qat ?_; (first | refine qac (qap rfl (fun w hl => ssizeOk_any _ _)) rfl ?_ ?_ ?_ | refine qac (qaL rfl (fun w _ => l01In_any _ _ _ _)) rfl ?_ ?_ ?_); rfl; rfl) | (refine qau ?_; (first | refine qac (qaw 0 rfl rfl rfl) rfl ?_ ?_ ?_ | refine qac (qaI 0 rfl rfl rfl rfl) rfl ?_ ?_ ?_); rfl; rfl) | (refine qak ?_; (refine qac (qae rfl) rfl ?_ ?_ ?_); rfl; rfl) | (refine qao ?_; (refine qac (qai rfl) rfl ?_ ?_ ?_); rfl; rfl) | (refine qal ?_; (refine qac (qag rfl) rfl ?_ ?_ ?_); rfl; rfl) | (refine qaT ?_; (refine qac (OpW.not rfl) rfl ?_ ?_ ?_); rfl; rfl) | (refine qaE ?_; (refine qac (qav rfl rfl rfl) rfl ?_ ?_ ?_); rfl; rfl) | (refine l_box ?_; refine qaG ?_ ?_ rfl rfl (fun g => ?_); rfl; rfl) | ((first | rw [q0] | rw [q1] | rw [q2] | rw [q3] | rw [q4] | rw [q5] | rw [q6] | rw [q7] | rw [q8] | rw [q9] | rw [q10] | rw [q11] | rw [q12])) | refine qaA ?_ | refine qax ?_)
    refine qaz rfl rfl (fun w' hl => ⟨ret_bool hv.symm, hl.mod⟩)
  cases q13 : sizeOk x.minWidth
  · have hv : styleOk x = false := by simp [styleOk, q13]
    repeat (first | refine qan ?_ | refine qaj ?_ | refine qaf ?_ | refine qad ?_ | refine qaC ?_ | refine qaq rfl ?_ | refine qas rfl ?_ | (refine qaS rfl rfl rfl ?_) | (refine qat ?_; (first | refine qac (qap rfl (fun w hl => ssizeOk_any _ _)) rfl ?_ ?_ ?_ | refine qac (qaL rfl (fun w _ => l01In_any _ _ _ _)) rfl ?_ ?_ ?_); rfl; rfl) | (refine qau ?_; (first | refine qac (qaw 0 rfl rfl rfl) rfl ?_ ?_ ?_ | refine qac (qaI 0 rfl rfl rfl rfl) rfl ?_ ?_ ?_); rfl; rfl) | (refine qak ?_; (refine qac (qae rfl) rfl ?_ ?_ ?_); rfl; rfl) | (refine qao ?_; (refine qac (qai rfl) rfl ?_ ?_ ?_); rfl; rfl) | (refine qal ?_; (refine qac (qag rfl) rfl ?_ ?_ ?_); rfl; rfl) | (refine qaT ?_; (refine qac (OpW.not rfl) rfl ?_ ?_ ?_); rfl; rfl) | (refine qaE ?_; (refine qac (qav rfl rfl rfl) rfl ?_ ?_ ?_); rfl; rfl) | (refine l_box ?_; refine qaG ?_ ?_ rfl rfl (fun g => ?_); rfl; rfl) | ((first | rw [q0] | rw [q1] | rw [q2] | rw [q3] | rw [q4] | rw [q5] | rw [q6] | rw [q7] | rw [q8] | rw [q9] | rw [q10] | rw [q11] | rw [q12] | rw [q13])) | refine qaA ?_ | refine qax ?_)
    refine qaz rfl rfl (fun w' hl => ⟨ret_bool hv.symm, hl.mod⟩)
  cases q14 : sizeOk x.minHeight
  · have hv : styleOk x = false := by simp [styleOk, q14]
    repeat (first | refine qan ?_ | refine qaj ?_ | refine qaf ?_ | refine qad ?_ | refine qaC ?_ | refine qaq rfl ?_ | refine qas rfl ?_ | (refine qaS rfl rfl rfl ?_) | (refine qat ?_; (first | refine qac (qap rfl (fun w hl => ssizeOk_any _ _)) rfl ?_ ?_ ?_ | refine qac (qaL rfl (fun w _ => l01In_any _ _ _ _)) rfl ?_ ?_ ?_); rfl; rfl) | (refine qau ?_; (first | refine qac (qaw 0 rfl rfl rfl) rfl ?_ ?_ ?_ | refine qac (qaI 0 rfl rfl rfl rfl) rfl ?_ ?_ ?_); rfl; rfl) | (refine qak ?_; (refine qac (qae rfl) rfl ?_ ?_ ?_); rfl; rfl) | (refine qao ?_; (refine qac (qai rfl) rfl ?_ ?_ ?_); rfl; rfl) | (refine qal ?_; (refine qac (qag rfl) rfl ?_ ?_ ?_); rfl; rfl) | (refine qaT ?_; (refine qac (OpW.not rfl) rfl ?_ ?_ ?_); rfl; rfl) | (refine qaE ?_; (refine qac (qav rfl rfl rfl) rfl ?_ ?_ ?_); rfl; rfl) | (refine l_box ?_; refine qaG ?_ ?_ rfl rfl (fun g => ?_); rfl; rfl) | ((first | rw [q0] | rw [q1] | rw [q2] | rw [q3] | rw [q4] | rw [q5] | rw [q6] | rw [q7] | rw [q8] | rw [q9] | rw [q10] | rw [q11] | rw [q12] | rw [q13] | rw [q14])) | refine qaA ?_ | refine qax ?_)
    refine qaz rfl rfl (fun w' hl => ⟨ret_bool hv.symm, hl.mod⟩)
  cases q15 : sizeOk x.maxWidth
  · have hv : styleOk x = false := by simp [styleOk, q15]
    repeat (first | refine qan ?_ | refine qaj ?_ | refine qaf ?_ | refine qad ?_ | refine qaC ?_ | refine qaq rfl ?_ | refine qas rfl ?_ | (refine qaS rfl rfl rfl ?_) | (refine qat ?_; (first | refine qac (qap rfl (fun w hl => ssizeOk_any _ _)) rfl ?_ ?_ ?_ | refine qac (qaL rfl (fun w _ => l01In_any _ _ _ _)) rfl ?_ ?_ ?_); rfl; rfl) | (refine qau ?_; (first | refine qac (qaw 0 rfl rfl rfl) rfl ?_ ?_ ?_ | refine qac (qaI 0 rfl rfl rfl rfl) rfl ?_ ?_ ?_); rfl; rfl) | (refine qak ?_; (refine qac (qae rfl) rfl ?_ ?_ ?_); rfl; rfl) | (refine qao ?_; (refine qac (qai rfl) rfl ?_ ?_ ?_); rfl; rfl) | (refine qal ?_; (refine qac (qag rfl) rfl ?_ ?_ ?_); rfl; rfl) | (refine qaT ?_; (refine qac (OpW.not rfl) rfl ?_ ?_ ?_); rfl; rfl) | (refine qaE ?_; (refine qac (qav rfl rfl rfl) rfl ?_ ?_ ?_); rfl; rfl) | (refine l_box ?_; refine qaG ?_ ?_ rfl rfl (fun g => ?_); rfl; rfl) | ((first | rw [q0] | rw [q1] | rw [q2] | rw [q3] | rw [q4] | rw [q5] | rw [q6] | rw [q7] | rw [q8] | rw [q9] | rw [q10] | rw [q11] | rw [q12] | rw [q13] | rw [q14] | rw [q15])) | refine qaA ?_ | refine qax ?_)
    refine qaz rfl rfl (fun w' hl => ⟨ret_bool hv.symm, hl.mod⟩)
  cases q16 : sizeOk x.maxHeight
  · have hv : styleOk x = false := by simp [styleOk, q16]
    repeat (first | refine qan ?_ | refine qaj ?_ | refine qaf ?_ | refine qad ?_ | refine qaC ?_ | refine qaq rfl ?_ | refine qas rfl ?_ | (refine qat ?_; (first | refine qac (qap rfl (fun w hl => ssizeOk_any _ _)) rfl ?_ ?_ ?_ | refine qac (qaL rfl (fun w _ => l01In_any _ _ _ _)) rfl ?_ ?_ ?_); rfl; rfl) | (refine qau ?_; (first | refine qac (qaw 0 rfl rfl rfl) rfl ?_ ?_ ?_ | refine qac (qaI 0 rfl rfl rfl rfl) rfl ?_ ?_ ?_); rfl; rfl) | (refine qak ?_; (refine qac (qae rfl) rfl ?_ ?_ ?_); rfl; rfl) | (refine qao ?_; (refine qac (qai rfl) rfl ?_ ?_ ?_); rfl; rfl) | (refine qal ?_; (refine qac (qag rfl) rfl ?_ ?_ ?_); rfl; rfl) | (refine qaT ?_; (refine qac (OpW.not rfl) rfl ?_ ?_ ?_); rfl; rfl) | (refine qaE ?_; (refine qac (qav rfl rfl rfl) rfl ?_ ?_ ?_); rfl; rfl) | (refine l_box ?_; refine qaG ?_ ?_ rfl rfl (fun g => ?_); rfl; rfl) | ((first | rw [q0] | rw [q1] | rw [q2] | rw [q3] | rw [q4] | rw [q5] | rw [q6] | rw [q7] | rw [q8] | rw [q9] | rw [q10] | rw [q11] | rw [q12] | rw [q13] | rw [q14] | rw [q15] | rw [q16])) | refine qaA ?_ | refine qax ?_)
    refine qaz rfl rfl (fun w' hl => ⟨ret_bool hv.symm, hl.mod⟩)
  cases q17 : sidesOk x.margin
  · have hv : styleOk x = false := by simp [styleOk, q17]
    repeat (first | refine qan ?_ | refine qaj ?_ | refine qaf ?_ | refine qad ?_ | refine qaC ?_ | refine qas rfl ?_ | (refine qaS rfl rfl rfl ?_) | (refine qat ?_; (first | refine qac (qap rfl (fun w hl => ssizeOk_any _ _)) rfl ?_ ?_ ?_ | refine qac (qap rfl (fun w hl => ssidesOk_any _ _)) rfl ?_ ?_ ?_ | refine qac (qaL rfl (fun w _ => l01In_any _ _ _ _)) rfl ?_ ?_ ?_); rfl; rfl) | (refine qau ?_; (first | refine qac (qaw 0 rfl rfl rfl) rfl ?_ ?_ ?_ | refine qac (qaI 0 rfl rfl rfl rfl) rfl ?_ ?_ ?_); rfl; rfl) | (refine qak ?_; (refine qac (qae rfl) rfl ?_ ?_ ?_); rfl; rfl) | (refine qao ?_; (refine qac (qai rfl) rfl ?_ ?_ ?_); rfl; rfl) | (refine qal ?_; (refine qac (qag rfl) rfl ?_ ?_ ?_); rfl; rfl) | (refine qaT ?_; (refine qac (OpW.not rfl) rfl ?_ ?_ ?_); rfl; rfl) | (refine qaE ?_; (refine qac (qav rfl rfl rfl) rfl ?_ ?_ ?_); rfl; rfl) | (refine l_box ?_; refine qaG ?_ ?_ rfl rfl (fun g => ?_); rfl; rfl) | ((first | rw [q0] | rw [q1] | rw [q2] | rw [q3] | rw [q4] | rw [q5] | rw [q6] | rw [q7] | rw [q8] | rw [q9] | rw [q10] | rw [q11] | rw [q12] | rw [q13] | rw [q14] | rw [q15] | rw [q16] | rw [q17])) | refine qaA ?_)
    refine qaz rfl rfl (fun w' hl => ⟨ret_bool hv.symm, hl.mod⟩)
  cases q18 : sidesOk x.inset
  · have hv : styleOk x = false := by simp [styleOk, q18]
    repeat (first | refine qan ?_ | refine qaj ?_ | refine qaf ?_ | refine qad ?_ | refine qaC ?_ | refine qas rfl ?_ | (refine qaS rfl rfl rfl ?_) | (refine qat ?_; (first | refine qac (qap rfl (fun w hl => ssizeOk_any _ _)) rfl ?_ ?_ ?_ | refine qac (qap rfl (fun w hl => ssidesOk_any _ _)) rfl ?_ ?_ ?_ | refine qac (qaL rfl (fun w _ => l01In_any _ _ _ _)) rfl ?_ ?_ ?_); rfl; rfl) | (refine qau ?_; (first | refine qac (qaw 0 rfl rfl rfl) rfl ?_ ?_ ?_ | refine qac (qaI 0 rfl rfl rfl rfl) rfl ?_ ?_ ?_); rfl; rfl) | (refine qak ?_; (refine qac (qae rfl) rfl ?_ ?_ ?_); rfl; rfl) | (refine qao ?_; (refine qac (qai rfl) rfl ?_ ?_ ?_); rfl; rfl) | (refine qal ?_; (refine qac (qag rfl) rfl ?_ ?_ ?_); rfl; rfl) | (refine qaT ?_; (refine qac (OpW.not rfl) rfl ?_ ?_ ?_); rfl; rfl) | (refine qaE ?_; (refine qac (qav rfl rfl rfl) rfl ?_ ?_ ?_); rfl; rfl) | (refine l_box ?_; refine qaG ?_ ?_ rfl rfl (fun g => ?_); rfl; rfl) | ((first | rw [q0] | rw [q1] | rw [q2] | rw [q3] | rw [q4] | rw [q5] | rw [q6] | rw [q7] | rw [q8] | rw [q9] | rw [q10] | rw [q11] | rw [q12] | rw [q13] | rw [q14] | rw [q15] | rw [q16] | rw [q17] | rw [q18])) | refine qaA ?_)
    refine qaz rfl rfl (fun w' hl => ⟨ret_bool hv.symm, hl.mod⟩)
  cases q19 : edgesOk x.pad
  · have hv : styleOk x = false := by simp [styleOk, q19]
    repeat (first | refine qan ?_ | refine qaj ?_ | refine qaf ?_ | refine qad ?_ | refine qaC ?_ | refine qas rfl ?_ | (refine qaS rfl rfl rfl ?_) | (refine qat ?_; (first | refine qac (qap rfl (fun w hl => ssizeOk_any _ _)) rfl ?_ ?_ ?_ | refine qac (qap rfl (fun w hl => ssidesOk_any _ _)) rfl ?_ ?_ ?_ | refine qac (qap rfl (fun w hl => sedgesOk_any _ _)) rfl ?_ ?_ ?_ | refine qac (qaL rfl (fun w _ => l01In_any _ _ _ _)) rfl ?_ ?_ ?_); rfl; rfl) | (refine qau ?_; (first | refine qac (qaw 0 rfl rfl rfl) rfl ?_ ?_ ?_ | refine qac (qaI 0 rfl rfl rfl rfl) rfl ?_ ?_ ?_); rfl; rfl) | (refine qak ?_; (refine qac (qae rfl) rfl ?_ ?_ ?_); rfl; rfl) | (refine qao ?_; (refine qac (qai rfl) rfl ?_ ?_ ?_); rfl; rfl) | (refine qal ?_; (refine qac (qag rfl) rfl ?_ ?_ ?_); rfl; rfl) | (refine qaT ?_; (refine qac (OpW.not rfl) rfl ?_ ?_ ?_); rfl; rfl) | (refine qaE ?_; (refine qac (qav rfl rfl rfl) rfl ?_ ?_ ?_); rfl; rfl) | (refine l_box ?_; refine qaG ?_ ?_ rfl rfl (fun g => ?_); rfl; rfl) | ((first | rw [q0] | rw [q1] | rw [q2] | rw [q3] | rw [q4] | rw [q5] | rw [q6] | rw [q7] | rw [q8] | rw [q9] | rw [q10] | rw [q11] | rw [q12] | rw [q13] | rw [q14] | rw [q15] | rw [q16] | rw [q17] | rw [q18] | rw [q19])) | refine qaA ?_)
    refine qaz rfl rfl (fun w' hl => ⟨ret_bool hv.symm, hl.mod⟩)
  cases q20 : edgesOk x.border
  · have hv : styleOk x = false := by simp [styleOk, q20]
    repeat (first | refine qan ?_ | refine qaj ?_ | refine qaf ?_ | refine qad ?_ | refine qaC ?_ | refine qas rfl ?_ | (refine qaS rfl rfl rfl ?_) | (refine qat ?_; (first | refine qac (qap rfl (fun w hl => ssizeOk_any _ _)) rfl ?_ ?_ ?_ | refine qac (qap rfl (fun w hl => ssidesOk_any _ _)) rfl ?_ ?_ ?_ | refine qac (qap rfl (fun w hl => sedgesOk_any _ _)) rfl ?_ ?_ ?_ | refine qac (qaL rfl (fun w _ => l01In_any _ _ _ _)) rfl ?_ ?_ ?_); rfl; rfl) | (refine qau ?_; (first | refine qac (qaw 0 rfl rfl rfl) rfl ?_ ?_ ?_ | refine qac (qaI 0 rfl rfl rfl rfl) rfl ?_ ?_ ?_); rfl; rfl) | (refine qak ?_; (refine qac (qae rfl) rfl ?_ ?_ ?_); rfl; rfl) | (refine qao ?_; (refine qac (qai rfl) rfl ?_ ?_ ?_); rfl; rfl) | (refine qal ?_; (refine qac (qag rfl) rfl ?_ ?_ ?_); rfl; rfl) | (refine qaT ?_; (refine qac (OpW.not rfl) rfl ?_ ?_ ?_); rfl; rfl) | (refine qaE ?_; (refine qac (qav rfl rfl rfl) rfl ?_ ?_ ?_); rfl; rfl) | (refine l_box ?_; refine qaG ?_ ?_ rfl rfl (fun g => ?_); rfl; rfl) | ((first | rw [q0] | rw [q1] | rw [q2] | rw [q3] | rw [q4] | rw [q5] | rw [q6] | rw [q7] | rw [q8] | rw [q9] | rw [q10] | rw [q11] | rw [q12] | rw [q13] | rw [q14] | rw [q15] | rw [q16] | rw [q17] | rw [q18] | rw [q19] | rw [q20])) | refine qaA ?_)
    refine qaz rfl rfl (fun w' hl => ⟨ret_bool hv.symm, hl.mod⟩)
  cases q21 : inB x.rowGap 0 1048576
  · have hv : styleOk x = false := by simp [styleOk, q21]
    repeat (first | refine qan ?_ | refine qaj ?_ | refine qaf ?_ | refine qad ?_ | refine qaC ?_ | refine qas rfl ?_ | (refine qaS rfl rfl rfl ?_) | (refine qat ?_; (first | refine qac (qap rfl (fun w hl => ssizeOk_any _ _)) rfl ?_ ?_ ?_ | refine qac (qap rfl (fun w hl => ssidesOk_any _ _)) rfl ?_ ?_ ?_ | refine qac (qap rfl (fun w hl => sedgesOk_any _ _)) rfl ?_ ?_ ?_ | refine qac (qaL rfl (fun w _ => l01In_any _ _ _ _)) rfl ?_ ?_ ?_); rfl; rfl) | (refine qau ?_; (first | refine qac (qaw 0 rfl rfl rfl) rfl ?_ ?_ ?_ | refine qac (qaI 0 rfl rfl rfl rfl) rfl ?_ ?_ ?_); rfl; rfl) | (refine qak ?_; (refine qac (qae rfl) rfl ?_ ?_ ?_); rfl; rfl) | (refine qao ?_; (refine qac (qai rfl) rfl ?_ ?_ ?_); rfl; rfl) | (refine qal ?_; (refine qac (qag rfl) rfl ?_ ?_ ?_); rfl; rfl) | (refine qaT ?_; (refine qac (OpW.not rfl) rfl ?_ ?_ ?_); rfl; rfl) | (refine qaE ?_; (refine qac (qav rfl rfl rfl) rfl ?_ ?_ ?_); rfl; rfl) | (refine l_box ?_; refine qaG ?_ ?_ rfl rfl (fun g => ?_); rfl; rfl) | ((first | rw [q0] | rw [q1] | rw [q2] | rw [q3] | rw [q4] | rw [q5] | rw [q6] | rw [q7] | rw [q8] | rw [q9] | rw [q10] | rw [q11] | rw [q12] | rw [q13] | rw [q14] | rw [q15] | rw [q16] | rw [q17] | rw [q18] | rw [q19] | rw [q20] | rw [q21])) | refine qaA ?_)
    refine qaz rfl rfl (fun w' hl => ⟨ret_bool hv.symm, hl.mod⟩)
  cases q22 : inB x.colGap 0 1048576
  · have hv : styleOk x = false := by simp [styleOk, q22]
    repeat (first | refine qan ?_ | refine qaj ?_ | refine qaf ?_ | refine qad ?_ | refine qaC ?_ | refine qas rfl ?_ | (refine qat ?_; (first | refine qac (qap rfl (fun w hl => ssizeOk_any _ _)) rfl ?_ ?_ ?_ | refine qac (qap rfl (fun w hl => ssidesOk_any _ _)) rfl ?_ ?_ ?_ | refine qac (qap rfl (fun w hl => sedgesOk_any _ _)) rfl ?_ ?_ ?_ | refine qac (qaL rfl (fun w _ => l01In_any _ _ _ _)) rfl ?_ ?_ ?_); rfl; rfl) | (refine qau ?_; (first | refine qac (qaw 0 rfl rfl rfl) rfl ?_ ?_ ?_ | refine qac (qaI 0 rfl rfl rfl rfl) rfl ?_ ?_ ?_); rfl; rfl) | (refine qak ?_; (refine qac (qae rfl) rfl ?_ ?_ ?_); rfl; rfl) | (refine qao ?_; (refine qac (qai rfl) rfl ?_ ?_ ?_); rfl; rfl) | (refine qal ?_; (refine qac (qag rfl) rfl ?_ ?_ ?_); rfl; rfl) | (refine qaT ?_; (refine qac (OpW.not rfl) rfl ?_ ?_ ?_); rfl; rfl) | (refine qaE ?_; (refine qac (qav rfl rfl rfl) rfl ?_ ?_ ?_); rfl; rfl) | (refine l_box ?_; refine qaG ?_ ?_ rfl rfl (fun g => ?_); rfl; rfl) | ((first | rw [q0] | rw [q1] | rw [q2] | rw [q3] | rw [q4] | rw [q5] | rw [q6] | rw [q7] | rw [q8] | rw [q9] | rw [q10] | rw [q11] | rw [q12] | rw [q13] | rw [q14] | rw [q15] | rw [q16] | rw [q17] | rw [q18] | rw [q19] | rw [q20] | rw [q21] | rw [q22])) | refine qaA ?_)
    refine qaz rfl rfl (fun w' hl => ⟨ret_bool hv.symm, hl.mod⟩)
  have hv : styleOk x = true := by simp [styleOk, q0, q1, q2, q3, q4, q5, q6, q7, q8, q9, q10, q11, q12, q13, q14, q15, q16, q17, q18, q19, q20, q21, q22]
  repeat (first | refine qan ?_ | refine qaj ?_ | refine qaf ?_ | refine qad ?_ | refine qaC ?_ | refine qas rfl ?_ | (refine qat ?_; (first | refine qac (qap rfl (fun w hl => ssizeOk_any _ _)) rfl ?_ ?_ ?_ | refine qac (qap rfl (fun w hl => ssidesOk_any _ _)) rfl ?_ ?_ ?_ | refine qac (qap rfl (fun w hl => sedgesOk_any _ _)) rfl ?_ ?_ ?_ | refine qac (qaL rfl (fun w _ => l01In_any _ _ _ _)) rfl ?_ ?_ ?_); rfl; rfl) | (refine qau ?_; (first | refine qac (qaw 0 rfl rfl rfl) rfl ?_ ?_ ?_ | refine qac (qaI 0 rfl rfl rfl rfl) rfl ?_ ?_ ?_); rfl; rfl) | (refine qak ?_; (refine qac (qae rfl) rfl ?_ ?_ ?_); rfl; rfl) | (refine qao ?_; (refine qac (qai rfl) rfl ?_ ?_ ?_); rfl; rfl) | (refine qal ?_; (refine qac (qag rfl) rfl ?_ ?_ ?_); rfl; rfl) | (refine qaT ?_; (refine qac (OpW.not rfl) rfl ?_ ?_ ?_); rfl; rfl) | (refine qaE ?_; (refine qac (qav rfl rfl rfl) rfl ?_ ?_ ?_); rfl; rfl) | (refine l_box ?_; refine qaG ?_ ?_ rfl rfl (fun g => ?_); rfl; rfl) | ((first | rw [q0] | rw [q1] | rw [q2] | rw [q3] | rw [q4] | rw [q5] | rw [q6] | rw [q7] | rw [q8] | rw [q9] | rw [q10] | rw [q11] | rw [q12] | rw [q13] | rw [q14] | rw [q15] | rw [q16] | rw [q17] | rw [q18] | rw [q19] | rw [q20] | rw [q21] | rw [q22])) | refine qaA ?_)
  refine qaz rfl rfl (fun w' hl => ⟨ret_bool hv.symm, hl.mod⟩)

end Go.Proofs.Ythffgbhphjkdeaa
namespace Go.Proofs.Ythffgbhphjkdeaa
open Go.RowKit
set_option linter.unusedVariables false
set_option linter.unusedSimpArgs false

def vals7 (x : Style) : List Val := [x.basis, x.width, x.height, x.minWidth, x.minHeight, x.maxWidth, x.maxHeight]
theorem vals7_at (x : Style) {k : Nat} (h : k < 7) : ∃ v, (vals7 x)[k]? = some v ∧ (([.int .i64 x.basis.kind, .int .i64 x.basis.n, .int .i64 x.width.kind, .int .i64 x.width.n, .int .i64 x.height.kind, .int .i64 x.height.n, .int .i64 x.minWidth.kind, .int .i64 x.minWidth.n, .int .i64 x.minHeight.kind, .int .i64 x.minHeight.n, .int .i64 x.maxWidth.kind, .int .i64 x.maxWidth.n, .int .i64 x.maxHeight.kind, .int .i64 x.maxHeight.n] : List Value).drop (0 + k * 2)).take 2 = [.int .i64 v.kind, .int .i64 v.n] := by
  obtain (rfl|rfl|rfl|rfl|rfl|rfl|rfl) : k = 0 ∨ k = 1 ∨ k = 2 ∨ k = 3 ∨ k = 4 ∨ k = 5 ∨ k = 6 := by omega
  all_goals exact ⟨_, rfl, rfl⟩
theorem styleOk_size {x : Style} {v : Val} {k : Nat} (h : (vals7 x)[k]? = some v) (hb : sizeOk v = false) : styleOk x = false := by
  have hm := List.mem_of_getElem? h
  simp only [vals7, List.mem_cons, List.not_mem_nil, or_false] at hm
  rcases hm with rfl|rfl|rfl|rfl|rfl|rfl|rfl <;> simp [styleOk, hb]
theorem vto_succ {l : List Val} {k : Nat} {v : Val} (hs : ∀ i x, i < k → l[i]? = some x → sizeOk x = true) (hx : l[k]? = some v) (h : sizeOk v = true) : ∀ i x, i < k + 1 → l[i]? = some x → sizeOk x = true := fun j y hj hy => by
  by_cases e : j = k
  · subst e; rw [hx] at hy; rw [← Option.some.inj hy]; exact h
  · exact hs j y (by omega) hy
theorem vals7_all {x : Style} (hs : ∀ i v, i < 7 → (vals7 x)[i]? = some v → sizeOk v = true) : sizeOk x.basis = true ∧ sizeOk x.width = true ∧ sizeOk x.height = true ∧ sizeOk x.minWidth = true ∧ sizeOk x.minHeight = true ∧ sizeOk x.maxWidth = true ∧ sizeOk x.maxHeight = true :=
  ⟨hs 0 _ (by omega) rfl, hs 1 _ (by omega) rfl, hs 2 _ (by omega) rfl, hs 3 _ (by omega) rfl, hs 4 _ (by omega) rfl, hs 5 _ (by omega) rfl, hs 6 _ (by omega) rfl⟩
set_option maxRecDepth 100000 in
set_option maxHeartbeats 8000000 in
theorem styleOk_any (x : Style) (w : World) : Calls Try.prog 82 #[.agg #[.int .i64 x.dir, .int .i64 x.wrap, .int .i64 x.justify, .int .i64 x.items, .int .i64 x.self, .int .i64 x.content, .bool x.apart, .bool x.hidden, .int .i64 x.order, .int .i64 x.grow, .int .i64 x.shrink, .int .i64 x.basis.kind, .int .i64 x.basis.n, .int .i64 x.width.kind, .int .i64 x.width.n, .int .i64 x.height.kind, .int .i64 x.height.n, .int .i64 x.minWidth.kind, .int .i64 x.minWidth.n, .int .i64 x.minHeight.kind, .int .i64 x.minHeight.n, .int .i64 x.maxWidth.kind, .int .i64 x.maxWidth.n, .int .i64 x.maxHeight.kind, .int .i64 x.maxHeight.n, .int .i64 x.ratio, .int .i64 x.margin.left.kind, .int .i64 x.margin.left.n, .int .i64 x.margin.top.kind, .int .i64 x.margin.top.n, .int .i64 x.margin.right.kind, .int .i64 x.margin.right.n, .int .i64 x.margin.bottom.kind, .int .i64 x.margin.bottom.n, .int .i64 x.margin.start.kind, .int .i64 x.margin.start.n, .int .i64 x.margin.stop.kind, .int .i64 x.margin.stop.n, .int .i64 x.inset.left.kind, .int .i64 x.inset.left.n, .int .i64 x.inset.top.kind, .int .i64 x.inset.top.n, .int .i64 x.inset.right.kind, .int .i64 x.inset.right.n, .int .i64 x.inset.bottom.kind, .int .i64 x.inset.bottom.n, .int .i64 x.inset.start.kind, .int .i64 x.inset.start.n, .int .i64 x.inset.stop.kind, .int .i64 x.inset.stop.n, .int .i64 x.pad.left, .int .i64 x.pad.top, .int .i64 x.pad.right, .int .i64 x.pad.bottom, .int .i64 x.border.left, .int .i64 x.border.top, .int .i64 x.border.right, .int .i64 x.border.bottom, .int .i64 x.rowGap, .int .i64 x.colGap]] w fun e w' => e = .returned (.bool (styleOk x)) ∧ Mod (fun _ => False) w w' := by
  refine calls_sx Try.func82 rfl rfl (fun a h1 h2 h3 => ((Fr.nil h1 h2).arg (h3 0 _ rfl))) ?_
  cases q0 : inB x.dir 1 4
  · have hv : styleOk x = false := by simp [styleOk, q0]
    repeat (first | refine qan ?_ | refine qaj ?_ | refine qaf ?_ | refine qad ?_ | refine qaq rfl ?_ | (refine qaS rfl rfl rfl ?_) | (refine qat ?_; (refine qac (qaL rfl (fun w _ => in_any _ _ _ _)) rfl ?_ ?_ ?_); rfl; rfl) | (refine qau ?_; (refine qac (qaw 0 rfl rfl rfl) rfl ?_ ?_ ?_); rfl; rfl) | (refine qak ?_; (refine qac (qae rfl) rfl ?_ ?_ ?_); rfl; rfl) | (refine qao ?_; (refine qac (qai rfl) rfl ?_ ?_ ?_); rfl; rfl) | (refine qal ?_; (refine qac (qag rfl) rfl ?_ ?_ ?_); rfl; rfl) | (refine qaT ?_; (refine qac (OpW.not rfl) rfl ?_ ?_ ?_); rfl; rfl) | (refine qaE ?_; (refine qac (qav rfl rfl rfl) rfl ?_ ?_ ?_); rfl; rfl) | (refine l_box ?_; refine qaG ?_ ?_ rfl rfl (fun g => ?_); rfl; rfl) | ((rw [q0])) | refine qaA ?_ | refine qax ?_)
    refine qaz rfl rfl (fun w' hl => ⟨ret_bool hv.symm, hl.mod⟩)
  cases q1 : inB x.wrap 1 3
  · have hv : styleOk x = false := by simp [styleOk, q1]
    repeat (first | refine qan ?_ | refine qaj ?_ | refine qaf ?_ | refine qad ?_ | refine qaq rfl ?_ | (refine qaS rfl rfl rfl ?_) | (refine qat ?_; (refine qac (qaL rfl (fun w _ => in_any _ _ _ _)) rfl ?_ ?_ ?_); rfl; rfl) | (refine qau ?_; (refine qac (qaw 0 rfl rfl rfl) rfl ?_ ?_ ?_); rfl; rfl) | (refine qak ?_; (refine qac (qae rfl) rfl ?_ ?_ ?_); rfl; rfl) | (refine qao ?_; (refine qac (qai rfl) rfl ?_ ?_ ?_); rfl; rfl) | (refine qal ?_; (refine qac (qag rfl) rfl ?_ ?_ ?_); rfl; rfl) | (refine qaT ?_; (refine qac (OpW.not rfl) rfl ?_ ?_ ?_); rfl; rfl) | (refine qaE ?_; (refine qac (qav rfl rfl rfl) rfl ?_ ?_ ?_); rfl; rfl) | (refine l_box ?_; refine qaG ?_ ?_ rfl rfl (fun g => ?_); rfl; rfl) | ((first | rw [q0] | rw [q1])) | refine qaA ?_ | refine qax ?_)
    refine qaz rfl rfl (fun w' hl => ⟨ret_bool hv.symm, hl.mod⟩)
  cases q2 : inB x.justify 1 6
  · have hv : styleOk x = false := by simp [styleOk, q2]
    repeat (first | refine qan ?_ | refine qaj ?_ | refine qaf ?_ | refine qad ?_ | refine qaq rfl ?_ | (refine qaS rfl rfl rfl ?_) | (refine qat ?_; (refine qac (qaL rfl (fun w _ => in_any _ _ _ _)) rfl ?_ ?_ ?_); rfl; rfl) | (refine qau ?_; (refine qac (qaw 0 rfl rfl rfl) rfl ?_ ?_ ?_); rfl; rfl) | (refine qak ?_; (refine qac (qae rfl) rfl ?_ ?_ ?_); rfl; rfl) | (refine qao ?_; (refine qac (qai rfl) rfl ?_ ?_ ?_); rfl; rfl) | (refine qal ?_; (refine qac (qag rfl) rfl ?_ ?_ ?_); rfl; rfl) | (refine qaT ?_; (refine qac (OpW.not rfl) rfl ?_ ?_ ?_); rfl; rfl) | (refine qaE ?_; (refine qac (qav rfl rfl rfl) rfl ?_ ?_ ?_); rfl; rfl) | (refine l_box ?_; refine qaG ?_ ?_ rfl rfl (fun g => ?_); rfl; rfl) | ((first | rw [q0] | rw [q1] | rw [q2])) | refine qaA ?_ | refine qax ?_)
    refine qaz rfl rfl (fun w' hl => ⟨ret_bool hv.symm, hl.mod⟩)
  cases q3 : inB x.self 0 5
  · have hv : styleOk x = false := by simp [styleOk, q3]
    repeat (first | refine qan ?_ | refine qaj ?_ | refine qaf ?_ | refine qad ?_ | refine qaq rfl ?_ | (refine qaS rfl rfl rfl ?_) | (refine qat ?_; (refine qac (qaL rfl (fun w _ => in_any _ _ _ _)) rfl ?_ ?_ ?_); rfl; rfl) | (refine qau ?_; (refine qac (qaw 0 rfl rfl rfl) rfl ?_ ?_ ?_); rfl; rfl) | (refine qak ?_; (refine qac (qae rfl) rfl ?_ ?_ ?_); rfl; rfl) | (refine qao ?_; (refine qac (qai rfl) rfl ?_ ?_ ?_); rfl; rfl) | (refine qal ?_; (refine qac (qag rfl) rfl ?_ ?_ ?_); rfl; rfl) | (refine qaT ?_; (refine qac (OpW.not rfl) rfl ?_ ?_ ?_); rfl; rfl) | (refine qaE ?_; (refine qac (qav rfl rfl rfl) rfl ?_ ?_ ?_); rfl; rfl) | (refine l_box ?_; refine qaG ?_ ?_ rfl rfl (fun g => ?_); rfl; rfl) | ((first | rw [q0] | rw [q1] | rw [q2] | rw [q3])) | refine qaA ?_ | refine qax ?_)
    refine qaz rfl rfl (fun w' hl => ⟨ret_bool hv.symm, hl.mod⟩)
  cases q4 : inB x.content 1 6
  · have hv : styleOk x = false := by simp [styleOk, q4]
    repeat (first | refine qan ?_ | refine qaj ?_ | refine qaf ?_ | refine qad ?_ | refine qaq rfl ?_ | (refine qaS rfl rfl rfl ?_) | (refine qat ?_; (refine qac (qaL rfl (fun w _ => in_any _ _ _ _)) rfl ?_ ?_ ?_); rfl; rfl) | (refine qau ?_; (refine qac (qaw 0 rfl rfl rfl) rfl ?_ ?_ ?_); rfl; rfl) | (refine qak ?_; (refine qac (qae rfl) rfl ?_ ?_ ?_); rfl; rfl) | (refine qao ?_; (refine qac (qai rfl) rfl ?_ ?_ ?_); rfl; rfl) | (refine qal ?_; (refine qac (qag rfl) rfl ?_ ?_ ?_); rfl; rfl) | (refine qaT ?_; (refine qac (OpW.not rfl) rfl ?_ ?_ ?_); rfl; rfl) | (refine qaE ?_; (refine qac (qav rfl rfl rfl) rfl ?_ ?_ ?_); rfl; rfl) | (refine l_box ?_; refine qaG ?_ ?_ rfl rfl (fun g => ?_); rfl; rfl) | ((first | rw [q0] | rw [q1] | rw [q2] | rw [q3] | rw [q4])) | refine qaA ?_ | refine qax ?_)
    refine qaz rfl rfl (fun w' hl => ⟨ret_bool hv.symm, hl.mod⟩)
  cases q5 : inB x.items 1 5
  · have hv : styleOk x = false := by simp [styleOk, q5]
    repeat (first | refine qan ?_ | refine qaj ?_ | refine qaf ?_ | refine qad ?_ | refine qaq rfl ?_ | (refine qat ?_; (refine qac (qaL rfl (fun w _ => in_any _ _ _ _)) rfl ?_ ?_ ?_); rfl; rfl) | (refine qau ?_; (refine qac (qaw 0 rfl rfl rfl) rfl ?_ ?_ ?_); rfl; rfl) | (refine qak ?_; (refine qac (qae rfl) rfl ?_ ?_ ?_); rfl; rfl) | (refine qao ?_; (refine qac (qai rfl) rfl ?_ ?_ ?_); rfl; rfl) | (refine qal ?_; (refine qac (qag rfl) rfl ?_ ?_ ?_); rfl; rfl) | (refine qaT ?_; (refine qac (OpW.not rfl) rfl ?_ ?_ ?_); rfl; rfl) | (refine qaE ?_; (refine qac (qav rfl rfl rfl) rfl ?_ ?_ ?_); rfl; rfl) | (refine l_box ?_; refine qaG ?_ ?_ rfl rfl (fun g => ?_); rfl; rfl) | ((first | rw [q0] | rw [q1] | rw [q2] | rw [q3] | rw [q4] | rw [q5])) | refine qaA ?_ | refine qax ?_)
    refine qaz rfl rfl (fun w' hl => ⟨ret_bool hv.symm, hl.mod⟩)
  cases q6 : inB x.order (-1000) 1000
  · have hv : styleOk x = false := by simp [styleOk, q6]
    repeat (first | refine qan ?_ | refine qaj ?_ | refine qaf ?_ | refine qad ?_ | refine qaC ?_ | refine qaq rfl ?_ | refine qas rfl ?_ | (refine qaS rfl rfl rfl ?_) | (refine qat ?_; (refine qac (qaL rfl (fun w _ => in_any _ _ _ _)) rfl ?_ ?_ ?_); rfl; rfl) | (refine qau ?_; (refine qac (qaw 0 rfl rfl rfl) rfl ?_ ?_ ?_); rfl; rfl) | (refine qak ?_; (refine qac (qae rfl) rfl ?_ ?_ ?_); rfl; rfl) | (refine qao ?_; (refine qac (qai rfl) rfl ?_ ?_ ?_); rfl; rfl) | (refine qal ?_; (refine qac (qag rfl) rfl ?_ ?_ ?_); rfl; rfl) | (refine qaT ?_; (refine qac (OpW.not rfl) rfl ?_ ?_ ?_); rfl; rfl) | (refine qaE ?_; (refine qac (qav rfl rfl rfl) rfl ?_ ?_ ?_); rfl; rfl) | (refine l_box ?_; refine qaG ?_ ?_ rfl rfl (fun g => ?_); rfl; rfl) | ((first | rw [q0] | rw [q1] | rw [q2] | rw [q3] | rw [q4] | rw [q5] | rw [q6])) | refine qaA ?_ | refine qax ?_)
    refine qaz rfl rfl (fun w' hl => ⟨ret_bool hv.symm, hl.mod⟩)
  cases q7 : inB x.grow 0 1000
  · have hv : styleOk x = false := by simp [styleOk, q7]
    repeat (first | refine qan ?_ | refine qaj ?_ | refine qaf ?_ | refine qad ?_ | refine qaC ?_ | refine qaq rfl ?_ | refine qas rfl ?_ | (refine qaS rfl rfl rfl ?_) | (refine qat ?_; (refine qac (qaL rfl (fun w _ => in_any _ _ _ _)) rfl ?_ ?_ ?_); rfl; rfl) | (refine qau ?_; (refine qac (qaw 0 rfl rfl rfl) rfl ?_ ?_ ?_); rfl; rfl) | (refine qak ?_; (refine qac (qae rfl) rfl ?_ ?_ ?_); rfl; rfl) | (refine qao ?_; (refine qac (qai rfl) rfl ?_ ?_ ?_); rfl; rfl) | (refine qal ?_; (refine qac (qag rfl) rfl ?_ ?_ ?_); rfl; rfl) | (refine qaT ?_; (refine qac (OpW.not rfl) rfl ?_ ?_ ?_); rfl; rfl) | (refine qaE ?_; (refine qac (qav rfl rfl rfl) rfl ?_ ?_ ?_); rfl; rfl) | (refine l_box ?_; refine qaG ?_ ?_ rfl rfl (fun g => ?_); rfl; rfl) | ((first | rw [q0] | rw [q1] | rw [q2] | rw [q3] | rw [q4] | rw [q5] | rw [q6] | rw [q7])) | refine qaA ?_ | refine qax ?_)
    refine qaz rfl rfl (fun w' hl => ⟨ret_bool hv.symm, hl.mod⟩)
  cases q8 : inB x.shrink 0 1000
  · have hv : styleOk x = false := by simp [styleOk, q8]
    repeat (first | refine qan ?_ | refine qaj ?_ | refine qaf ?_ | refine qad ?_ | refine qaC ?_ | refine qaq rfl ?_ | refine qas rfl ?_ | (refine qaS rfl rfl rfl ?_) | (refine qat ?_; (refine qac (qaL rfl (fun w _ => in_any _ _ _ _)) rfl ?_ ?_ ?_); rfl; rfl) | (refine qau ?_; (refine qac (qaw 0 rfl rfl rfl) rfl ?_ ?_ ?_); rfl; rfl) | (refine qak ?_; (refine qac (qae rfl) rfl ?_ ?_ ?_); rfl; rfl) | (refine qao ?_; (refine qac (qai rfl) rfl ?_ ?_ ?_); rfl; rfl) | (refine qal ?_; (refine qac (qag rfl) rfl ?_ ?_ ?_); rfl; rfl) | (refine qaT ?_; (refine qac (OpW.not rfl) rfl ?_ ?_ ?_); rfl; rfl) | (refine qaE ?_; (refine qac (qav rfl rfl rfl) rfl ?_ ?_ ?_); rfl; rfl) | (refine l_box ?_; refine qaG ?_ ?_ rfl rfl (fun g => ?_); rfl; rfl) | ((first | rw [q0] | rw [q1] | rw [q2] | rw [q3] | rw [q4] | rw [q5] | rw [q6] | rw [q7] | rw [q8])) | refine qaA ?_ | refine qax ?_)
    refine qaz rfl rfl (fun w' hl => ⟨ret_bool hv.symm, hl.mod⟩)
  cases q9 : inB x.ratio 0 6400
  · have hv : styleOk x = false := by simp [styleOk, q9]
    repeat (first | refine qan ?_ | refine qaj ?_ | refine qaf ?_ | refine qad ?_ | refine qaC ?_ | refine qaq rfl ?_ | refine qas rfl ?_ | (refine qaS rfl rfl rfl ?_) | (refine qat ?_; (refine qac (qaL rfl (fun w _ => in_any _ _ _ _)) rfl ?_ ?_ ?_); rfl; rfl) | (refine qau ?_; (refine qac (qaw 0 rfl rfl rfl) rfl ?_ ?_ ?_); rfl; rfl) | (refine qak ?_; (refine qac (qae rfl) rfl ?_ ?_ ?_); rfl; rfl) | (refine qao ?_; (refine qac (qai rfl) rfl ?_ ?_ ?_); rfl; rfl) | (refine qal ?_; (refine qac (qag rfl) rfl ?_ ?_ ?_); rfl; rfl) | (refine qaT ?_; (refine qac (OpW.not rfl) rfl ?_ ?_ ?_); rfl; rfl) | (refine qaE ?_; (refine qac (qav rfl rfl rfl) rfl ?_ ?_ ?_); rfl; rfl) | (refine l_box ?_; refine qaG ?_ ?_ rfl rfl (fun g => ?_); rfl; rfl) | ((first | rw [q0] | rw [q1] | rw [q2] | rw [q3] | rw [q4] | rw [q5] | rw [q6] | rw [q7] | rw [q8] | rw [q9])) | refine qaA ?_ | refine qax ?_)
    refine qaz rfl rfl (fun w' hl => ⟨ret_bool hv.symm, hl.mod⟩)
  cases q10 : inB x.rowGap 0 1048576
  · have hv : styleOk x = false := by simp [styleOk, q10]
    repeat (first | refine qan ?_ | refine qaj ?_ | refine qaf ?_ | refine qad ?_ | refine qaC ?_ | refine qaq rfl ?_ | refine qas rfl ?_ | (refine qaS rfl rfl rfl ?_) | (refine qat ?_; (refine qac (qaL rfl (fun w _ => in_any _ _ _ _)) rfl ?_ ?_ ?_); rfl; rfl) | (refine qau ?_; (refine qac (qaw 0 rfl rfl rfl) rfl ?_ ?_ ?_); rfl; rfl) | (refine qak ?_; (refine qac (qae rfl) rfl ?_ ?_ ?_); rfl; rfl) | (refine qao ?_; (refine qac (qai rfl) rfl ?_ ?_ ?_); rfl; rfl) | (refine qal ?_; (refine qac (qag rfl) rfl ?_ ?_ ?_); rfl; rfl) | (refine qaT ?_; (refine qac (OpW.not rfl) rfl ?_ ?_ ?_); rfl; rfl) | (refine qaE ?_; (refine qac (qav rfl rfl rfl) rfl ?_ ?_ ?_); rfl; rfl) | (refine l_box ?_; refine qaG ?_ ?_ rfl rfl (fun g => ?_); rfl; rfl) | ((first | rw [q0] | rw [q1] | rw [q2] | rw [q3] | rw [q4] | rw [q5] | rw [q6] | rw [q7] | rw [q8] | rw [q9] | rw [q10])) | refine qaA ?_ | refine qax ?_)
    refine qaz rfl rfl (fun w' hl => ⟨ret_bool hv.symm, hl.mod⟩)
  cases q11 : inB x.colGap 0 1048576
  · have hv : styleOk x = false := by simp [styleOk, q11]
    repeat (first | refine qan ?_ | refine qaj ?_ | refine qaf ?_ | refine qad ?_ | refine qaC ?_ | refine qaq rfl ?_ | refine qas rfl ?_ | (refine qat ?_; (refine qac (qaL rfl (fun w _ => in_any _ _ _ _)) rfl ?_ ?_ ?_); rfl; rfl) | (refine qau ?_; (refine qac (qaw 0 rfl rfl rfl) rfl ?_ ?_ ?_); rfl; rfl) | (refine qak ?_; (refine qac (qae rfl) rfl ?_ ?_ ?_); rfl; rfl) | (refine qao ?_; (refine qac (qai rfl) rfl ?_ ?_ ?_); rfl; rfl) | (refine qal ?_; (refine qac (qag rfl) rfl ?_ ?_ ?_); rfl; rfl) | (refine qaT ?_; (refine qac (OpW.not rfl) rfl ?_ ?_ ?_); rfl; rfl) | (refine qaE ?_; (refine qac (qav rfl rfl rfl) rfl ?_ ?_ ?_); rfl; rfl) | (refine l_box ?_; refine qaG ?_ ?_ rfl rfl (fun g => ?_); rfl; rfl) | ((first | rw [q0] | rw [q1] | rw [q2] | rw [q3] | rw [q4] | rw [q5] | rw [q6] | rw [q7] | rw [q8] | rw [q9] | rw [q10] | rw [q11])) | refine qaA ?_ | refine qax ?_)
    refine qaz rfl rfl (fun w' hl => ⟨ret_bool hv.symm, hl.mod⟩)
  repeat (first | refine qan ?_ | refine qaj ?_ | refine qaf ?_ | refine qad ?_ | refine qaC ?_ | refine qas rfl ?_ | (refine qat ?_; (refine qac (qaL rfl (fun w _ => in_any _ _ _ _)) rfl ?_ ?_ ?_); rfl; rfl) | (refine qau ?_; (first | refine qac (qaw 0 rfl rfl rfl) rfl ?_ ?_ ?_ | refine qac (qaI 0 rfl rfl rfl rfl) rfl ?_ ?_ ?_); rfl; rfl) | (refine qak ?_; (refine qac (qae rfl) rfl ?_ ?_ ?_); rfl; rfl) | (refine qao ?_; (refine qac (qai rfl) rfl ?_ ?_ ?_); rfl; rfl) | (refine qal ?_; (refine qac (qag rfl) rfl ?_ ?_ ?_); rfl; rfl) | (refine qaT ?_; (refine qac (OpW.not rfl) rfl ?_ ?_ ?_); rfl; rfl) | (refine qaE ?_; (refine qac (qav rfl rfl rfl) rfl ?_ ?_ ?_); rfl; rfl) | (refine l_box ?_; refine qaG ?_ ?_ rfl rfl (fun g => ?_); rfl; rfl) | ((first | rw [q0] | rw [q1] | rw [q2] | rw [q3] | rw [q4] | rw [q5] | rw [q6] | rw [q7] | rw [q8] | rw [q9] | rw [q10] | rw [q11])))
  refine qaN ?_
  refine SXl.litRow (cells := [.int .i64 x.basis.kind, .int .i64 x.basis.n, .int .i64 x.width.kind, .int .i64 x.width.n, .int .i64 x.height.kind, .int .i64 x.height.n, .int .i64 x.minWidth.kind, .int .i64 x.minWidth.n, .int .i64 x.minHeight.kind, .int .i64 x.minHeight.n, .int .i64 x.maxWidth.kind, .int .i64 x.maxWidth.n, .int .i64 x.maxHeight.kind, .int .i64 x.maxHeight.n]) ?_ ?_ rfl (by decide) (by decide) ?_ (fun g5 => ?_)
  rfl
  rfl
  kernel_rfl
  repeat (first | refine qaj ?_ | refine qad ?_ | refine SX.block ?_ | (refine qao ?_; (refine qac (qai rfl) rfl ?_ ?_ ?_); rfl; rfl) | (refine l_len ?_; (refine qac (OpW.len rfl) rfl ?_ ?_ ?_); rfl; rfl))
  refine SX.loopi (fun k : Nat => k ≤ 7 ∧ ∀ i v, i < k → (vals7 x)[i]? = some v → sizeOk v = true) (fun k => 7 - k) (fun _ => [⟨g5, [.int .i64 x.basis.kind, .int .i64 x.basis.n, .int .i64 x.width.kind, .int .i64 x.width.n, .int .i64 x.height.kind, .int .i64 x.height.n, .int .i64 x.minWidth.kind, .int .i64 x.minWidth.n, .int .i64 x.minHeight.kind, .int .i64 x.minHeight.n, .int .i64 x.maxWidth.kind, .int .i64 x.maxWidth.n, .int .i64 x.maxHeight.kind, .int .i64 x.maxHeight.n], 60⟩, ⟨g, x.cells, 66⟩]) (fun _ => []) (fun _ => []) (fun k => [(1, .pointer (some ⟨g, 0, none⟩)), (87, .slice (some ⟨g5, 0, none⟩) 7 7), (88, .int .i64 7), (89, .int .i64 k)]) 0 ⟨Nat.zero_le _, fun i x h => absurd h (Nat.not_lt_zero _)⟩ ?_ (fun _ hl => hl) ?_
  · (repeat (first | exact subF_nil _ | (refine subF_cons rfl ?_) | (refine subF_consv rfl (by rfl) ?_)))
  rintro k ⟨hk, hs⟩
  by_cases hlt : k < 7
  · obtain ⟨v, hv7, hrow⟩ := vals7_at x hlt
    have hle : 0 + k * 2 + 2 ≤ 14 := by omega
    cases hb : sizeOk v
    · have hv := styleOk_size hv7 hb
      repeat (first | refine qan ?_ | refine qaj ?_ | refine qaf ?_ | refine qad ?_ | refine SX.block ?_ | refine qaC ?_ | refine qaq rfl ?_ | (refine qau ?_; (first | refine qac (qaI (cells := [.int .i64 x.basis.kind, .int .i64 x.basis.n, .int .i64 x.width.kind, .int .i64 x.width.n, .int .i64 x.height.kind, .int .i64 x.height.n, .int .i64 x.minWidth.kind, .int .i64 x.minWidth.n, .int .i64 x.minHeight.kind, .int .i64 x.minHeight.n, .int .i64 x.maxWidth.kind, .int .i64 x.maxWidth.n, .int .i64 x.maxHeight.kind, .int .i64 x.maxHeight.n]) 0 rfl rfl (Nat.ble_eq_true_of_le hle) hrow) rfl ?_ ?_ ?_ | refine qac (qam 0 rfl rfl rfl) rfl ?_ ?_ ?_); rfl; rfl) | (refine qat ?_; (refine qac (qap rfl (fun w hl => sizeOk_any _ _)) rfl ?_ ?_ ?_); rfl; rfl) | (refine qal ?_; (refine qac (qag rfl) rfl ?_ ?_ ?_); rfl; rfl) | (refine l_lss ?_; (refine qac (OpW.lssT rfl rfl (by omega)) rfl ?_ ?_ ?_); rfl; rfl) | (refine qaT ?_; (refine qac (OpW.not rfl) rfl ?_ ?_ ?_); rfl; rfl) | (refine qaM ?_; (refine qac (qaJ (by omega) rfl rfl) rfl ?_ ?_ ?_); rfl; rfl) | (refine qaR ?_; refine SXl.alloc ?_ ?_ (fun g => ?_); rfl; rfl) | (refine qay ?_; first | ((first | refine qaa 0 ?_ rfl rfl rfl rfl rfl rfl rfl ?_ | refine qaa 1 ?_ rfl rfl rfl rfl rfl rfl rfl ?_ | refine qaa 2 ?_ rfl rfl rfl rfl rfl rfl rfl ?_); rfl; simp only [List.set_cons_zero, List.set_cons_succ]) | ((first | refine qab 0 ?_ rfl rfl rfl rfl rfl rfl rfl ?_ | refine qab 1 ?_ rfl rfl rfl rfl rfl rfl rfl ?_ | refine qab 2 ?_ rfl rfl rfl rfl rfl rfl rfl ?_); rfl; simp only [over, List.set_cons_zero, List.set_cons_succ])) | (rw [hb]) | refine qaA ?_ | refine qax ?_ | refine qaH ?_)
      refine qaz rfl rfl (fun w' hl => ⟨ret_bool hv.symm, hl.mod⟩)
    · repeat (first | refine qan ?_ | refine qaj ?_ | refine qaf ?_ | refine qad ?_ | refine SX.block ?_ | refine qaC ?_ | refine qaq rfl ?_ | refine qas rfl ?_ | (refine qau ?_; (first | refine qac (qaI (cells := [.int .i64 x.basis.kind, .int .i64 x.basis.n, .int .i64 x.width.kind, .int .i64 x.width.n, .int .i64 x.height.kind, .int .i64 x.height.n, .int .i64 x.minWidth.kind, .int .i64 x.minWidth.n, .int .i64 x.minHeight.kind, .int .i64 x.minHeight.n, .int .i64 x.maxWidth.kind, .int .i64 x.maxWidth.n, .int .i64 x.maxHeight.kind, .int .i64 x.maxHeight.n]) 0 rfl rfl (Nat.ble_eq_true_of_le hle) hrow) rfl ?_ ?_ ?_ | refine qac (qam 0 rfl rfl rfl) rfl ?_ ?_ ?_); rfl; rfl) | (refine qat ?_; (refine qac (qap rfl (fun w hl => sizeOk_any _ _)) rfl ?_ ?_ ?_); rfl; rfl) | (refine qao ?_; (refine qac (qai rfl) rfl ?_ ?_ ?_); rfl; rfl) | (refine l_add ?_; (refine qac (OpW.succ rfl rfl (by omega)) rfl ?_ ?_ ?_); rfl; rfl) | (refine l_lss ?_; (refine qac (OpW.lssT rfl rfl (by omega)) rfl ?_ ?_ ?_); rfl; rfl) | (refine qaT ?_; (refine qac (OpW.not rfl) rfl ?_ ?_ ?_); rfl; rfl) | (refine qaM ?_; (refine qac (qaJ (by omega) rfl rfl) rfl ?_ ?_ ?_); rfl; rfl) | (refine qaR ?_; refine SXl.alloc ?_ ?_ (fun g => ?_); rfl; rfl) | (refine qay ?_; first | ((first | refine qaa 0 ?_ rfl rfl rfl rfl rfl rfl rfl ?_ | refine qaa 1 ?_ rfl rfl rfl rfl rfl rfl rfl ?_ | refine qaa 2 ?_ rfl rfl rfl rfl rfl rfl rfl ?_); rfl; simp only [List.set_cons_zero, List.set_cons_succ]) | ((first | refine qab 0 ?_ rfl rfl rfl rfl rfl rfl rfl ?_ | refine qab 1 ?_ rfl rfl rfl rfl rfl rfl rfl ?_ | refine qab 2 ?_ rfl rfl rfl rfl rfl rfl rfl ?_); rfl; simp only [over, List.set_cons_zero, List.set_cons_succ])) | (rw [hb]) | refine qar ?_)
      refine SQ.roundi (k + 1) ⟨by omega, vto_succ hs hv7 hb⟩ (by omega) ?_ (fun _ hl => hl.drop1)
      (repeat (first | exact subF_nil _ | (refine subF_cons rfl ?_) | (refine subF_consv rfl (by rfl) ?_)))
  have hk7 : k = 7 := by omega
  subst hk7
  have hall := vals7_all hs
  cases p0 : sidesOk x.margin
  · have hv : styleOk x = false := by simp [styleOk, p0]
    repeat (first | refine qan ?_ | refine qaj ?_ | refine qaf ?_ | refine qad ?_ | refine qas rfl ?_ | (refine qaS rfl rfl rfl ?_) | (refine qat ?_; (refine qac (qap rfl (fun w hl => sidesOk_any _ _)) rfl ?_ ?_ ?_); rfl; rfl) | (refine qau ?_; (refine qac (qaI 1 rfl rfl rfl rfl) rfl ?_ ?_ ?_); rfl; rfl) | (refine qak ?_; (refine qac (qae rfl) rfl ?_ ?_ ?_); rfl; rfl) | (refine qao ?_; (refine qac (qai rfl) rfl ?_ ?_ ?_); rfl; rfl) | (refine qal ?_; (refine qac (qag rfl) rfl ?_ ?_ ?_); rfl; rfl) | (refine l_lss ?_; (refine qac (OpW.lssF rfl rfl (by omega)) rfl ?_ ?_ ?_); rfl; rfl) | (refine qaE ?_; (refine qac (qav rfl rfl rfl) rfl ?_ ?_ ?_); rfl; rfl) | ((rw [p0])) | refine qaA ?_ | refine SX.exit ?_ | refine qaF ?_ | refine qaD ?_)
    refine qaz rfl rfl (fun w' hl => ⟨ret_bool hv.symm, hl.mod⟩)
  cases p1 : sidesOk x.inset
  · have hv : styleOk x = false := by simp [styleOk, p1]
    repeat (first | refine qan ?_ | refine qaj ?_ | refine qaf ?_ | refine qad ?_ | refine qas rfl ?_ | (refine qaS rfl rfl rfl ?_) | (refine qat ?_; (refine qac (qap rfl (fun w hl => sidesOk_any _ _)) rfl ?_ ?_ ?_); rfl; rfl) | (refine qau ?_; (refine qac (qaI 1 rfl rfl rfl rfl) rfl ?_ ?_ ?_); rfl; rfl) | (refine qak ?_; (refine qac (qae rfl) rfl ?_ ?_ ?_); rfl; rfl) | (refine qao ?_; (refine qac (qai rfl) rfl ?_ ?_ ?_); rfl; rfl) | (refine qal ?_; (refine qac (qag rfl) rfl ?_ ?_ ?_); rfl; rfl) | (refine l_lss ?_; (refine qac (OpW.lssF rfl rfl (by omega)) rfl ?_ ?_ ?_); rfl; rfl) | (refine qaE ?_; (refine qac (qav rfl rfl rfl) rfl ?_ ?_ ?_); rfl; rfl) | ((first | rw [p0] | rw [p1])) | refine qaA ?_ | refine SX.exit ?_ | refine qaF ?_ | refine qaD ?_)
    refine qaz rfl rfl (fun w' hl => ⟨ret_bool hv.symm, hl.mod⟩)
  cases p2 : edgesOk x.pad
  · have hv : styleOk x = false := by simp [styleOk, p2]
    repeat (first | refine qan ?_ | refine qaj ?_ | refine qaf ?_ | refine qad ?_ | refine qas rfl ?_ | (refine qaS rfl rfl rfl ?_) | (refine qat ?_; (first | refine qac (qap rfl (fun w hl => sidesOk_any _ _)) rfl ?_ ?_ ?_ | refine qac (qap rfl (fun w hl => edgesOk_any _ _)) rfl ?_ ?_ ?_); rfl; rfl) | (refine qau ?_; (refine qac (qaI 1 rfl rfl rfl rfl) rfl ?_ ?_ ?_); rfl; rfl) | (refine qak ?_; (refine qac (qae rfl) rfl ?_ ?_ ?_); rfl; rfl) | (refine qao ?_; (refine qac (qai rfl) rfl ?_ ?_ ?_); rfl; rfl) | (refine qal ?_; (refine qac (qag rfl) rfl ?_ ?_ ?_); rfl; rfl) | (refine l_lss ?_; (refine qac (OpW.lssF rfl rfl (by omega)) rfl ?_ ?_ ?_); rfl; rfl) | (refine qaE ?_; (refine qac (qav rfl rfl rfl) rfl ?_ ?_ ?_); rfl; rfl) | ((first | rw [p0] | rw [p1] | rw [p2])) | refine qaA ?_ | refine SX.exit ?_ | refine qaF ?_ | refine qaD ?_)
    refine qaz rfl rfl (fun w' hl => ⟨ret_bool hv.symm, hl.mod⟩)
  cases p3 : edgesOk x.border
  · have hv : styleOk x = false := by simp [styleOk, p3]
    repeat (first | refine qan ?_ | refine qaj ?_ | refine qaf ?_ | refine qad ?_ | refine qas rfl ?_ | (refine qat ?_; (first | refine qac (qap rfl (fun w hl => sidesOk_any _ _)) rfl ?_ ?_ ?_ | refine qac (qap rfl (fun w hl => edgesOk_any _ _)) rfl ?_ ?_ ?_); rfl; rfl) | (refine qau ?_; (refine qac (qaI 1 rfl rfl rfl rfl) rfl ?_ ?_ ?_); rfl; rfl) | (refine qak ?_; (refine qac (qae rfl) rfl ?_ ?_ ?_); rfl; rfl) | (refine qao ?_; (refine qac (qai rfl) rfl ?_ ?_ ?_); rfl; rfl) | (refine qal ?_; (refine qac (qag rfl) rfl ?_ ?_ ?_); rfl; rfl) | (refine l_lss ?_; (refine qac (OpW.lssF rfl rfl (by omega)) rfl ?_ ?_ ?_); rfl; rfl) | (refine qaE ?_; (refine qac (qav rfl rfl rfl) rfl ?_ ?_ ?_); rfl; rfl) | ((first | rw [p0] | rw [p1] | rw [p2] | rw [p3])) | refine qaA ?_ | refine SX.exit ?_ | refine qaF ?_ | refine qaD ?_)
    refine qaz rfl rfl (fun w' hl => ⟨ret_bool hv.symm, hl.mod⟩)
  have hv : styleOk x = true := by simp [styleOk, hall, q0, q1, q2, q3, q4, q5, q6, q7, q8, q9, q10, q11, p0, p1, p2, p3]
  repeat (first | refine qan ?_ | refine qaj ?_ | refine qaf ?_ | refine qad ?_ | refine qas rfl ?_ | (refine qat ?_; (first | refine qac (qap rfl (fun w hl => sidesOk_any _ _)) rfl ?_ ?_ ?_ | refine qac (qap rfl (fun w hl => edgesOk_any _ _)) rfl ?_ ?_ ?_); rfl; rfl) | (refine qau ?_; (refine qac (qaI 1 rfl rfl rfl rfl) rfl ?_ ?_ ?_); rfl; rfl) | (refine qak ?_; (refine qac (qae rfl) rfl ?_ ?_ ?_); rfl; rfl) | (refine qao ?_; (refine qac (qai rfl) rfl ?_ ?_ ?_); rfl; rfl) | (refine qal ?_; (refine qac (qag rfl) rfl ?_ ?_ ?_); rfl; rfl) | (refine l_lss ?_; (refine qac (OpW.lssF rfl rfl (by omega)) rfl ?_ ?_ ?_); rfl; rfl) | (refine qaE ?_; (refine qac (qav rfl rfl rfl) rfl ?_ ?_ ?_); rfl; rfl) | ((first | rw [p0] | rw [p1] | rw [p2] | rw [p3])) | refine qaA ?_ | refine SX.exit ?_ | refine qaF ?_ | refine qaD ?_)
  refine qaz rfl rfl (fun w' hl => ⟨ret_bool hv.symm, hl.mod⟩)

end Go.Proofs.Ythffgbhphjkdeaa
namespace Go.Proofs.Ythffgbhphjkdeaa
open Go.RowKit
set_option linter.unusedVariables false
set_option linter.unusedSimpArgs false

def ruleOk (x : Rule) : Bool := inB x.room (-1) 1048576 && inB x.wide 0 1048576 && inB x.high 0 1048576
def tableOk (l : List Rule) : Bool := inB (l.length : Int) 1 6 && l.all ruleOk
theorem tableOk_no {l : List Rule} {k : Nat} {x : Rule} (hx : l[k]? = some x) (h : ruleOk x = false) : tableOk l = false := by
  have : l.all ruleOk = false := by
    rw [List.all_eq_false]
    exact ⟨x, List.mem_of_getElem? hx, by simp [h]⟩
  simp [tableOk, this]
theorem allTo_succ {l : List Rule} {k : Nat} {x : Rule} (hs : ∀ i x, i < k → l[i]? = some x → ruleOk x = true) (hx : l[k]? = some x) (h : ruleOk x = true) : ∀ i x, i < k + 1 → l[i]? = some x → ruleOk x = true := by
  intro i y hi hy
  by_cases e : i = k
  · subst e; rw [hx] at hy; cases hy; exact h
  · exact hs i y (by omega) hy
theorem all_of {l : List Rule} {k : Nat} (hs : ∀ i x, i < k → l[i]? = some x → ruleOk x = true) (hk : l.length ≤ k) : l.all ruleOk = true := by
  rw [List.all_eq_true]
  intro x hx
  obtain ⟨i, hi⟩ := List.mem_iff_getElem?.1 hx
  exact hs i x (by have := (List.getElem?_eq_some_iff.1 hi).1; omega) hi

set_option maxRecDepth 100000 in
set_option maxHeartbeats 4000000 in
theorem tableOk_any (l : List Rule) (a : Option Addr) (c : Nat) (R : Nat → Prop) (w : World) (hlen : l.length ≤ 1048576) (h : SliceAt (Flat Rule.cells) 3 R w a l) :
    Calls Try.prog 83 #[.agg #[.slice a l.length c]] w fun e w' => e = .returned (.bool (tableOk l)) ∧ Mod (fun _ => False) w w' := by
  refine calls_sx Try.func83 rfl rfl (fun a h1 h2 h3 => ((Fr.nil h1 h2).arg (h3 0 _ rfl))) ?_
  cases qn : inB (l.length : Int) 1 6
  · repeat (first | refine qan ?_ | refine qaj ?_ | refine qaf ?_ | refine qad ?_ | refine qaq rfl ?_ | (refine qat ?_; (refine qac (qaL rfl (fun w _ => in_any _ _ _ _)) rfl ?_ ?_ ?_); rfl; rfl) | (refine qau ?_; (refine qac (qaw 0 rfl rfl rfl) rfl ?_ ?_ ?_); rfl; rfl) | (refine qak ?_; (refine qac (qae rfl) rfl ?_ ?_ ?_); rfl; rfl) | (refine qal ?_; (refine qac (qag rfl) rfl ?_ ?_ ?_); rfl; rfl) | (refine l_len ?_; (refine qac (OpW.len rfl) rfl ?_ ?_ ?_); rfl; rfl) | (refine qaT ?_; (refine qac (OpW.not rfl) rfl ?_ ?_ ?_); rfl; rfl) | (refine l_box ?_; refine qaG ?_ ?_ rfl rfl (fun g => ?_); rfl; rfl) | (rw [qn]) | refine qaA ?_ | refine qax ?_)
    refine qaz rfl rfl (fun w' hl => ⟨ret_bool (by symm; simp [tableOk, qn]), hl.mod⟩)
  repeat (first | refine qan ?_ | refine qaj ?_ | refine qaf ?_ | refine qad ?_ | refine SX.block ?_ | refine qaC ?_ | refine qas rfl ?_ | (refine qat ?_; (refine qac (qaL rfl (fun w _ => in_any _ _ _ _)) rfl ?_ ?_ ?_); rfl; rfl) | (refine qau ?_; (refine qac (qaw 0 rfl rfl rfl) rfl ?_ ?_ ?_); rfl; rfl) | (refine qak ?_; (refine qac (qae rfl) rfl ?_ ?_ ?_); rfl; rfl) | (refine qao ?_; (refine qac (qai rfl) rfl ?_ ?_ ?_); rfl; rfl) | (refine qal ?_; (refine qac (qag rfl) rfl ?_ ?_ ?_); rfl; rfl) | (refine l_len ?_; (refine qac (OpW.len rfl) rfl ?_ ?_ ?_); rfl; rfl) | (refine qaT ?_; (refine qac (OpW.not rfl) rfl ?_ ?_ ?_); rfl; rfl) | (refine l_box ?_; refine qaG ?_ ?_ rfl rfl (fun g => ?_); rfl; rfl) | (rw [qn]))
  refine SX.loopi (fun k : Nat => k ≤ l.length ∧ ∀ i x, i < k → l[i]? = some x → ruleOk x = true) (fun k => l.length - k) (fun _ => [⟨g, [.slice a l.length c], 76⟩]) (fun _ => []) (fun _ => []) (fun k => [(11, .slice a l.length c), (12, .int .i64 l.length), (13, .int .i64 k)]) 0 ⟨Nat.zero_le _, fun i x h => absurd h (Nat.not_lt_zero _)⟩ ?_ (fun _ hl => hl) ?_
  · (repeat (first | exact subF_nil _ | (refine subF_cons rfl ?_) | (refine subF_consv rfl (by rfl) ?_)))
  · rintro k ⟨hk, hs⟩
    by_cases hlt : k < l.length
    · obtain ⟨b1, o1, x, r1, rfl, _, _, hxk, rfl, hl1, hc1⟩ := h.get hlt
      cases q0 : inB x.room (-1) 1048576
      · repeat (first | refine qan ?_ | refine qaj ?_ | refine qaf ?_ | refine qad ?_ | refine SX.block ?_ | refine qaC ?_ | refine qaq rfl ?_ | (refine qaS rfl rfl rfl ?_) | (refine qau ?_; (first | refine qac (OpW.loadRowOld rfl hc1 rfl (Nat.succ_pos _) (fun h => h)) rfl ?_ ?_ ?_ | refine qac (qaw 0 rfl rfl rfl) rfl ?_ ?_ ?_); rfl; rfl) | (refine qat ?_; (refine qac (qaL rfl (fun w _ => in_any _ _ _ _)) rfl ?_ ?_ ?_); rfl; rfl) | (refine qak ?_; (refine qac (qae rfl) rfl ?_ ?_ ?_); rfl; rfl) | (refine qao ?_; (refine qac (qai rfl) rfl ?_ ?_ ?_); rfl; rfl) | (refine qal ?_; (refine qac (qag rfl) rfl ?_ ?_ ?_); rfl; rfl) | (refine l_lss ?_; (refine qac (OpW.lssT rfl rfl (by omega)) rfl ?_ ?_ ?_); rfl; rfl) | (refine qaT ?_; (refine qac (OpW.not rfl) rfl ?_ ?_ ?_); rfl; rfl) | (refine qaE ?_; (refine qac (qav rfl rfl rfl) rfl ?_ ?_ ?_); rfl; rfl) | (refine qaM ?_; (refine qac (qaJ (by omega) rfl rfl) rfl ?_ ?_ ?_); rfl; rfl) | (refine qaR ?_; refine SXl.alloc ?_ ?_ (fun g => ?_); rfl; rfl) | (refine qay ?_; first | ((first | refine qaa 0 ?_ rfl rfl rfl rfl rfl rfl rfl ?_ | refine qaa 1 ?_ rfl rfl rfl rfl rfl rfl rfl ?_ | refine qaa 2 ?_ rfl rfl rfl rfl rfl rfl rfl ?_); rfl; simp only [List.set_cons_zero, List.set_cons_succ]) | ((first | refine qab 0 ?_ rfl rfl rfl rfl rfl rfl rfl ?_ | refine qab 1 ?_ rfl rfl rfl rfl rfl rfl rfl ?_ | refine qab 2 ?_ rfl rfl rfl rfl rfl rfl rfl ?_); rfl; simp only [over, List.set_cons_zero, List.set_cons_succ])) | (rw [q0]) | refine qaA ?_ | refine qax ?_ | refine qaH ?_)
        refine qaz rfl rfl (fun w' hl => ⟨ret_bool (by symm; exact tableOk_no hxk.out (by simp [ruleOk, q0])), hl.mod⟩)
      · cases q1 : inB x.wide 0 1048576
        · repeat (first | refine qan ?_ | refine qaj ?_ | refine qaf ?_ | refine qad ?_ | refine SX.block ?_ | refine qaC ?_ | refine qaq rfl ?_ | (refine qaS rfl rfl rfl ?_) | (refine qau ?_; (first | refine qac (OpW.loadRowOld rfl hc1 rfl (Nat.succ_pos _) (fun h => h)) rfl ?_ ?_ ?_ | refine qac (qaw 0 rfl rfl rfl) rfl ?_ ?_ ?_); rfl; rfl) | (refine qat ?_; (refine qac (qaL rfl (fun w _ => in_any _ _ _ _)) rfl ?_ ?_ ?_); rfl; rfl) | (refine qak ?_; (refine qac (qae rfl) rfl ?_ ?_ ?_); rfl; rfl) | (refine qao ?_; (refine qac (qai rfl) rfl ?_ ?_ ?_); rfl; rfl) | (refine qal ?_; (refine qac (qag rfl) rfl ?_ ?_ ?_); rfl; rfl) | (refine l_lss ?_; (refine qac (OpW.lssT rfl rfl (by omega)) rfl ?_ ?_ ?_); rfl; rfl) | (refine qaT ?_; (refine qac (OpW.not rfl) rfl ?_ ?_ ?_); rfl; rfl) | (refine qaE ?_; (refine qac (qav rfl rfl rfl) rfl ?_ ?_ ?_); rfl; rfl) | (refine qaM ?_; (refine qac (qaJ (by omega) rfl rfl) rfl ?_ ?_ ?_); rfl; rfl) | (refine qaR ?_; refine SXl.alloc ?_ ?_ (fun g => ?_); rfl; rfl) | (refine qay ?_; first | ((first | refine qaa 0 ?_ rfl rfl rfl rfl rfl rfl rfl ?_ | refine qaa 1 ?_ rfl rfl rfl rfl rfl rfl rfl ?_ | refine qaa 2 ?_ rfl rfl rfl rfl rfl rfl rfl ?_); rfl; simp only [List.set_cons_zero, List.set_cons_succ]) | ((first | refine qab 0 ?_ rfl rfl rfl rfl rfl rfl rfl ?_ | refine qab 1 ?_ rfl rfl rfl rfl rfl rfl rfl ?_ | refine qab 2 ?_ rfl rfl rfl rfl rfl rfl rfl ?_); rfl; simp only [over, List.set_cons_zero, List.set_cons_succ])) | ((first | rw [q0] | rw [q1])) | refine qaA ?_ | refine qax ?_ | refine qaH ?_)
          refine qaz rfl rfl (fun w' hl => ⟨ret_bool (by symm; exact tableOk_no hxk.out (by simp [ruleOk, q1])), hl.mod⟩)
        · cases q2 : inB x.high 0 1048576
          · repeat (first | refine qan ?_ | refine qaj ?_ | refine qaf ?_ | refine qad ?_ | refine SX.block ?_ | refine qaC ?_ | refine qaq rfl ?_ | (refine qau ?_; (first | refine qac (OpW.loadRowOld rfl hc1 rfl (Nat.succ_pos _) (fun h => h)) rfl ?_ ?_ ?_ | refine qac (qaw 0 rfl rfl rfl) rfl ?_ ?_ ?_); rfl; rfl) | (refine qat ?_; (refine qac (qaL rfl (fun w _ => in_any _ _ _ _)) rfl ?_ ?_ ?_); rfl; rfl) | (refine qak ?_; (refine qac (qae rfl) rfl ?_ ?_ ?_); rfl; rfl) | (refine qao ?_; (refine qac (qai rfl) rfl ?_ ?_ ?_); rfl; rfl) | (refine qal ?_; (refine qac (qag rfl) rfl ?_ ?_ ?_); rfl; rfl) | (refine l_lss ?_; (refine qac (OpW.lssT rfl rfl (by omega)) rfl ?_ ?_ ?_); rfl; rfl) | (refine qaT ?_; (refine qac (OpW.not rfl) rfl ?_ ?_ ?_); rfl; rfl) | (refine qaE ?_; (refine qac (qav rfl rfl rfl) rfl ?_ ?_ ?_); rfl; rfl) | (refine qaM ?_; (refine qac (qaJ (by omega) rfl rfl) rfl ?_ ?_ ?_); rfl; rfl) | (refine qaR ?_; refine SXl.alloc ?_ ?_ (fun g => ?_); rfl; rfl) | (refine qay ?_; first | ((first | refine qaa 0 ?_ rfl rfl rfl rfl rfl rfl rfl ?_ | refine qaa 1 ?_ rfl rfl rfl rfl rfl rfl rfl ?_ | refine qaa 2 ?_ rfl rfl rfl rfl rfl rfl rfl ?_); rfl; simp only [List.set_cons_zero, List.set_cons_succ]) | ((first | refine qab 0 ?_ rfl rfl rfl rfl rfl rfl rfl ?_ | refine qab 1 ?_ rfl rfl rfl rfl rfl rfl rfl ?_ | refine qab 2 ?_ rfl rfl rfl rfl rfl rfl rfl ?_); rfl; simp only [over, List.set_cons_zero, List.set_cons_succ])) | ((first | rw [q0] | rw [q1] | rw [q2])) | refine qaA ?_ | refine qax ?_ | refine qaH ?_)
            refine qaz rfl rfl (fun w' hl => ⟨ret_bool (by symm; exact tableOk_no hxk.out (by simp [ruleOk, q2])), hl.mod⟩)
          · repeat (first | refine qan ?_ | refine qaj ?_ | refine qaf ?_ | refine qad ?_ | refine SX.block ?_ | refine qaC ?_ | refine qaq rfl ?_ | refine qas rfl ?_ | (refine qau ?_; (first | refine qac (OpW.loadRowOld rfl hc1 rfl (Nat.succ_pos _) (fun h => h)) rfl ?_ ?_ ?_ | refine qac (qaw 0 rfl rfl rfl) rfl ?_ ?_ ?_); rfl; rfl) | (refine qat ?_; (refine qac (qaL rfl (fun w _ => in_any _ _ _ _)) rfl ?_ ?_ ?_); rfl; rfl) | (refine qak ?_; (refine qac (qae rfl) rfl ?_ ?_ ?_); rfl; rfl) | (refine qao ?_; (refine qac (qai rfl) rfl ?_ ?_ ?_); rfl; rfl) | (refine l_add ?_; (refine qac (OpW.succ rfl rfl (by omega)) rfl ?_ ?_ ?_); rfl; rfl) | (refine l_lss ?_; (refine qac (OpW.lssT rfl rfl (by omega)) rfl ?_ ?_ ?_); rfl; rfl) | (refine qaT ?_; (refine qac (OpW.not rfl) rfl ?_ ?_ ?_); rfl; rfl) | (refine qaE ?_; (refine qac (qav rfl rfl rfl) rfl ?_ ?_ ?_); rfl; rfl) | (refine qaM ?_; (refine qac (qaJ (by omega) rfl rfl) rfl ?_ ?_ ?_); rfl; rfl) | (refine qaR ?_; refine SXl.alloc ?_ ?_ (fun g => ?_); rfl; rfl) | (refine qay ?_; first | ((first | refine qaa 0 ?_ rfl rfl rfl rfl rfl rfl rfl ?_ | refine qaa 1 ?_ rfl rfl rfl rfl rfl rfl rfl ?_ | refine qaa 2 ?_ rfl rfl rfl rfl rfl rfl rfl ?_); rfl; simp only [List.set_cons_zero, List.set_cons_succ]) | ((first | refine qab 0 ?_ rfl rfl rfl rfl rfl rfl rfl ?_ | refine qab 1 ?_ rfl rfl rfl rfl rfl rfl rfl ?_ | refine qab 2 ?_ rfl rfl rfl rfl rfl rfl rfl ?_); rfl; simp only [over, List.set_cons_zero, List.set_cons_succ])) | ((first | rw [q0] | rw [q1] | rw [q2])) | refine qar ?_)
            refine SQ.roundi (k + 1) ⟨by omega, allTo_succ hs hxk.out (by simp [ruleOk, q0, q1, q2])⟩ (by omega) ?_ (fun _ hl => hl.drop1)
            (repeat (first | exact subF_nil _ | (refine subF_cons rfl ?_) | (refine subF_consv rfl (by rfl) ?_)))
    · repeat (first | refine qan ?_ | refine qaj ?_ | refine qaf ?_ | refine qad ?_ | refine qas rfl ?_ | (refine qal ?_; (refine qac (qag rfl) rfl ?_ ?_ ?_); rfl; rfl) | (refine l_lss ?_; (refine qac (OpW.lssF rfl rfl (by omega)) rfl ?_ ?_ ?_); rfl; rfl) | refine qaA ?_ | refine SX.exit ?_ | refine qaF ?_ | refine qaD ?_)
      refine qaz rfl rfl (fun w' hl => ⟨ret_bool (by symm; simp [tableOk, qn, all_of hs (by omega)]), hl.mod⟩)

set_option maxRecDepth 100000 in
set_option maxHeartbeats 4000000 in
theorem stableOk_any (l : List Rule) (a : Option Addr) (c : Nat) (R : Nat → Prop) (w : World) (hlen : l.length ≤ 1048576) (h : SliceAt (Flat Rule.cells) 3 R w a l) :
    Calls Try.prog 87 #[.agg #[.slice a l.length c]] w fun e w' => e = .returned (.bool (tableOk l)) ∧ Mod (fun _ => False) w w' := by
  refine calls_sx Try.func87 rfl rfl (fun a h1 h2 h3 => ((Fr.nil h1 h2).arg (h3 0 _ rfl))) ?_
  repeat (first | refine qan ?_ | refine qaj ?_ | refine qaf ?_ | refine qad ?_ | refine SX.block ?_ | (refine qal ?_; (refine qac (qag rfl) rfl ?_ ?_ ?_); rfl; rfl) | (refine l_box ?_; refine qaG ?_ ?_ rfl rfl (fun g => ?_); rfl; rfl))
  refine SX.loopi (fun k : Nat => k ≤ l.length ∧ ∀ i x, i < k → l[i]? = some x → ruleOk x = true) (fun k => l.length - k) (fun _ => [⟨g, [.slice a l.length c], 76⟩]) (fun _ => []) (fun _ => []) (fun k => [(1, .pointer (some ⟨g, 0, none⟩)), (3, .int .i64 k)]) 0 ⟨Nat.zero_le _, fun i x h => absurd h (Nat.not_lt_zero _)⟩ ?_ (fun _ hl => hl) ?_
  · (repeat (first | exact subF_nil _ | (refine subF_cons rfl ?_) | (refine subF_consv rfl (by rfl) ?_)))
  · rintro k ⟨hk, hs⟩
    by_cases hlt : k < l.length
    · obtain ⟨b1, o1, x, r1, rfl, _, _, hxk, rfl, hl1, hc1⟩ := h.get hlt
      cases q0 : inB x.room (-1) 1048576
      · repeat (first | refine qan ?_ | refine qaj ?_ | refine qaf ?_ | refine qad ?_ | refine SX.block ?_ | refine qaC ?_ | refine qaq rfl ?_ | (refine qaS rfl rfl rfl ?_) | (refine qau ?_; (first | refine qac (OpW.loadRowOld rfl hc1 rfl (Nat.succ_pos _) (fun h => h)) rfl ?_ ?_ ?_ | refine qac (qaw 0 rfl rfl rfl) rfl ?_ ?_ ?_); rfl; rfl) | (refine qat ?_; (refine qac (qaL rfl (fun w _ => l01In_any _ _ _ _)) rfl ?_ ?_ ?_); rfl; rfl) | (refine qak ?_; (refine qac (qae rfl) rfl ?_ ?_ ?_); rfl; rfl) | (refine qao ?_; (refine qac (qai rfl) rfl ?_ ?_ ?_); rfl; rfl) | (refine qal ?_; (refine qac (qag rfl) rfl ?_ ?_ ?_); rfl; rfl) | (refine l_len ?_; (refine qac (OpW.len rfl) rfl ?_ ?_ ?_); rfl; rfl) | (refine l_lss ?_; (refine qac (OpW.lssT rfl rfl (by omega)) rfl ?_ ?_ ?_); rfl; rfl) | (refine qaT ?_; (refine qac (OpW.not rfl) rfl ?_ ?_ ?_); rfl; rfl) | (refine qaE ?_; (refine qac (qav rfl rfl rfl) rfl ?_ ?_ ?_); rfl; rfl) | (refine qaM ?_; (refine qac (qaJ (by omega) rfl rfl) rfl ?_ ?_ ?_); rfl; rfl) | (refine qaR ?_; refine SXl.alloc ?_ ?_ (fun g => ?_); rfl; rfl) | (refine qay ?_; first | ((first | refine qaa 0 ?_ rfl rfl rfl rfl rfl rfl rfl ?_ | refine qaa 1 ?_ rfl rfl rfl rfl rfl rfl rfl ?_ | refine qaa 2 ?_ rfl rfl rfl rfl rfl rfl rfl ?_); rfl; simp only [List.set_cons_zero, List.set_cons_succ]) | ((first | refine qab 0 ?_ rfl rfl rfl rfl rfl rfl rfl ?_ | refine qab 1 ?_ rfl rfl rfl rfl rfl rfl rfl ?_ | refine qab 2 ?_ rfl rfl rfl rfl rfl rfl rfl ?_); rfl; simp only [over, List.set_cons_zero, List.set_cons_succ])) | (rw [q0]) | refine qaA ?_ | refine qax ?_ | refine qaH ?_)
        refine qaz rfl rfl (fun w' hl => ⟨ret_bool (by symm; exact tableOk_no hxk.out (by simp [ruleOk, q0])), hl.mod⟩)
      · cases q1 : inB x.wide 0 1048576
        · repeat (first | refine qan ?_ | refine qaj ?_ | refine qaf ?_ | refine qad ?_ | refine SX.block ?_ | refine qaC ?_ | refine qaq rfl ?_ | (refine qaS rfl rfl rfl ?_) | (refine qau ?_; (first | refine qac (OpW.loadRowOld rfl hc1 rfl (Nat.succ_pos _) (fun h => h)) rfl ?_ ?_ ?_ | refine qac (qaw 0 rfl rfl rfl) rfl ?_ ?_ ?_); rfl; rfl) | (refine qat ?_; (refine qac (qaL rfl (fun w _ => l01In_any _ _ _ _)) rfl ?_ ?_ ?_); rfl; rfl) | (refine qak ?_; (refine qac (qae rfl) rfl ?_ ?_ ?_); rfl; rfl) | (refine qao ?_; (refine qac (qai rfl) rfl ?_ ?_ ?_); rfl; rfl) | (refine qal ?_; (refine qac (qag rfl) rfl ?_ ?_ ?_); rfl; rfl) | (refine l_len ?_; (refine qac (OpW.len rfl) rfl ?_ ?_ ?_); rfl; rfl) | (refine l_lss ?_; (refine qac (OpW.lssT rfl rfl (by omega)) rfl ?_ ?_ ?_); rfl; rfl) | (refine qaT ?_; (refine qac (OpW.not rfl) rfl ?_ ?_ ?_); rfl; rfl) | (refine qaE ?_; (refine qac (qav rfl rfl rfl) rfl ?_ ?_ ?_); rfl; rfl) | (refine qaM ?_; (refine qac (qaJ (by omega) rfl rfl) rfl ?_ ?_ ?_); rfl; rfl) | (refine qaR ?_; refine SXl.alloc ?_ ?_ (fun g => ?_); rfl; rfl) | (refine qay ?_; first | ((first | refine qaa 0 ?_ rfl rfl rfl rfl rfl rfl rfl ?_ | refine qaa 1 ?_ rfl rfl rfl rfl rfl rfl rfl ?_ | refine qaa 2 ?_ rfl rfl rfl rfl rfl rfl rfl ?_); rfl; simp only [List.set_cons_zero, List.set_cons_succ]) | ((first | refine qab 0 ?_ rfl rfl rfl rfl rfl rfl rfl ?_ | refine qab 1 ?_ rfl rfl rfl rfl rfl rfl rfl ?_ | refine qab 2 ?_ rfl rfl rfl rfl rfl rfl rfl ?_); rfl; simp only [over, List.set_cons_zero, List.set_cons_succ])) | ((first | rw [q0] | rw [q1])) | refine qaA ?_ | refine qax ?_ | refine qaH ?_)
          refine qaz rfl rfl (fun w' hl => ⟨ret_bool (by symm; exact tableOk_no hxk.out (by simp [ruleOk, q1])), hl.mod⟩)
        · cases q2 : inB x.high 0 1048576
          · repeat (first | refine qan ?_ | refine qaj ?_ | refine qaf ?_ | refine qad ?_ | refine SX.block ?_ | refine qaC ?_ | refine qaq rfl ?_ | (refine qau ?_; (first | refine qac (OpW.loadRowOld rfl hc1 rfl (Nat.succ_pos _) (fun h => h)) rfl ?_ ?_ ?_ | refine qac (qaw 0 rfl rfl rfl) rfl ?_ ?_ ?_); rfl; rfl) | (refine qat ?_; (refine qac (qaL rfl (fun w _ => l01In_any _ _ _ _)) rfl ?_ ?_ ?_); rfl; rfl) | (refine qak ?_; (refine qac (qae rfl) rfl ?_ ?_ ?_); rfl; rfl) | (refine qao ?_; (refine qac (qai rfl) rfl ?_ ?_ ?_); rfl; rfl) | (refine qal ?_; (refine qac (qag rfl) rfl ?_ ?_ ?_); rfl; rfl) | (refine l_len ?_; (refine qac (OpW.len rfl) rfl ?_ ?_ ?_); rfl; rfl) | (refine l_lss ?_; (refine qac (OpW.lssT rfl rfl (by omega)) rfl ?_ ?_ ?_); rfl; rfl) | (refine qaT ?_; (refine qac (OpW.not rfl) rfl ?_ ?_ ?_); rfl; rfl) | (refine qaE ?_; (refine qac (qav rfl rfl rfl) rfl ?_ ?_ ?_); rfl; rfl) | (refine qaM ?_; (refine qac (qaJ (by omega) rfl rfl) rfl ?_ ?_ ?_); rfl; rfl) | (refine qaR ?_; refine SXl.alloc ?_ ?_ (fun g => ?_); rfl; rfl) | (refine qay ?_; first | ((first | refine qaa 0 ?_ rfl rfl rfl rfl rfl rfl rfl ?_ | refine qaa 1 ?_ rfl rfl rfl rfl rfl rfl rfl ?_ | refine qaa 2 ?_ rfl rfl rfl rfl rfl rfl rfl ?_); rfl; simp only [List.set_cons_zero, List.set_cons_succ]) | ((first | refine qab 0 ?_ rfl rfl rfl rfl rfl rfl rfl ?_ | refine qab 1 ?_ rfl rfl rfl rfl rfl rfl rfl ?_ | refine qab 2 ?_ rfl rfl rfl rfl rfl rfl rfl ?_); rfl; simp only [over, List.set_cons_zero, List.set_cons_succ])) | ((first | rw [q0] | rw [q1] | rw [q2])) | refine qaA ?_ | refine qax ?_ | refine qaH ?_)
            refine qaz rfl rfl (fun w' hl => ⟨ret_bool (by symm; exact tableOk_no hxk.out (by simp [ruleOk, q2])), hl.mod⟩)
          · repeat (first | refine qan ?_ | refine qaj ?_ | refine qaf ?_ | refine qad ?_ | refine SX.block ?_ | refine qaC ?_ | refine qaq rfl ?_ | refine qas rfl ?_ | (refine qau ?_; (first | refine qac (OpW.loadRowOld rfl hc1 rfl (Nat.succ_pos _) (fun h => h)) rfl ?_ ?_ ?_ | refine qac (qaw 0 rfl rfl rfl) rfl ?_ ?_ ?_); rfl; rfl) | (refine qat ?_; (refine qac (qaL rfl (fun w _ => l01In_any _ _ _ _)) rfl ?_ ?_ ?_); rfl; rfl) | (refine qak ?_; (refine qac (qae rfl) rfl ?_ ?_ ?_); rfl; rfl) | (refine qao ?_; (refine qac (qai rfl) rfl ?_ ?_ ?_); rfl; rfl) | (refine qal ?_; (refine qac (qag rfl) rfl ?_ ?_ ?_); rfl; rfl) | (refine l_len ?_; (refine qac (OpW.len rfl) rfl ?_ ?_ ?_); rfl; rfl) | (refine l_add ?_; (refine qac (OpW.succ rfl rfl (by omega)) rfl ?_ ?_ ?_); rfl; rfl) | (refine l_lss ?_; (refine qac (OpW.lssT rfl rfl (by omega)) rfl ?_ ?_ ?_); rfl; rfl) | (refine qaT ?_; (refine qac (OpW.not rfl) rfl ?_ ?_ ?_); rfl; rfl) | (refine qaE ?_; (refine qac (qav rfl rfl rfl) rfl ?_ ?_ ?_); rfl; rfl) | (refine qaM ?_; (refine qac (qaJ (by omega) rfl rfl) rfl ?_ ?_ ?_); rfl; rfl) | (refine qaR ?_; refine SXl.alloc ?_ ?_ (fun g => ?_); rfl; rfl) | (refine qay ?_; first | ((first | refine qaa 0 ?_ rfl rfl rfl rfl rfl rfl rfl ?_ | refine qaa 1 ?_ rfl rfl rfl rfl rfl rfl rfl ?_ | refine qaa 2 ?_ rfl rfl rfl rfl rfl rfl rfl ?_); rfl; simp only [List.set_cons_zero, List.set_cons_succ]) | ((first | refine qab 0 ?_ rfl rfl rfl rfl rfl rfl rfl ?_ | refine qab 1 ?_ rfl rfl rfl rfl rfl rfl rfl ?_ | refine qab 2 ?_ rfl rfl rfl rfl rfl rfl rfl ?_); rfl; simp only [over, List.set_cons_zero, List.set_cons_succ])) | ((first | rw [q0] | rw [q1] | rw [q2])) | refine qar ?_)
            refine SQ.roundi (k + 1) ⟨by omega, allTo_succ hs hxk.out (by simp [ruleOk, q0, q1, q2])⟩ (by omega) ?_ (fun _ hl => hl.drop1)
            (repeat (first | exact subF_nil _ | (refine subF_cons rfl ?_) | (refine subF_consv rfl (by rfl) ?_)))
    · repeat (first | refine qan ?_ | refine qaj ?_ | refine qaf ?_ | refine qad ?_ | refine qas rfl ?_ | (refine qat ?_; (refine qac (qaL rfl (fun w _ => l01In_any _ _ _ _)) rfl ?_ ?_ ?_); rfl; rfl) | (refine qau ?_; (refine qac (qaw 0 rfl rfl rfl) rfl ?_ ?_ ?_); rfl; rfl) | (refine qak ?_; (refine qac (qae rfl) rfl ?_ ?_ ?_); rfl; rfl) | (refine qao ?_; (refine qac (qai rfl) rfl ?_ ?_ ?_); rfl; rfl) | (refine qal ?_; (refine qac (qag rfl) rfl ?_ ?_ ?_); rfl; rfl) | (refine l_len ?_; (refine qac (OpW.len rfl) rfl ?_ ?_ ?_); rfl; rfl) | (refine l_lss ?_; (refine qac (OpW.lssF rfl rfl (by omega)) rfl ?_ ?_ ?_); rfl; rfl) | refine qaA ?_ | refine SX.exit ?_ | refine qaF ?_ | refine qaD ?_)
      refine qaz rfl rfl (fun w' hl => ⟨ret_bool (by symm; simp [tableOk, all_of hs (by omega)]), hl.mod⟩)

end Go.Proofs.Ythffgbhphjkdeaa
namespace Go.Proofs.Ythffgbhphjkdeaa
open Go.RowKit
set_option linter.unusedVariables false
set_option linter.unusedSimpArgs false

/-- How often n stands among the first k. -/
def hasTo (l : List Int) (n : Int) (k : Nat) : Nat := (l.take k).count n
theorem hasTo_succ {l : List Int} {n : Int} {k : Nat} {x : Int} (hx : l[k]? = some x) : hasTo l n (k + 1) = hasTo l n k + if x = n then 1 else 0 := by
  unfold hasTo
  rw [List.take_add_one, hx, List.count_append]
  simp [List.count_cons]
theorem hasTo_le (l : List Int) (n : Int) (k : Nat) : hasTo l n k ≤ k := Nat.le_trans List.count_le_length (by simp; omega)
theorem hasTo_all {l : List Int} {n : Int} {k : Nat} (h : l.length ≤ k) : hasTo l n k = l.count n := by
  unfold hasTo; rw [List.take_of_length_le h]

set_option maxRecDepth 100000 in
set_option maxHeartbeats 4000000 in
theorem shas_any (l : List Int) (n : Int) (a : Option Addr) (c : Nat) (R : Nat → Prop) (w : World) (hlen : l.length ≤ 1048576) (h : IntSlice R w a l) :
    Calls Try.prog 86 #[.slice a l.length c, .int .i64 n] w fun e w' => e = .returned (.int .i64 (l.count n : Nat)) ∧ Mod (fun _ => False) w w' := by
  refine calls_sx Try.func86 rfl rfl (fun a h1 h2 h3 => ((Fr.nil h1 h2).arg (h3 1 _ rfl)).arg (h3 0 _ rfl)) ?_
  repeat (first | refine qan ?_ | refine qaj ?_ | refine qaf ?_ | refine qad ?_ | refine SX.block ?_ | (refine qal ?_; (refine qac (qag rfl) rfl ?_ ?_ ?_); rfl; rfl))
  refine SX.loopi (fun k : Nat => k ≤ l.length) (fun k => l.length - k) (fun _ => []) (fun _ => []) (fun _ => []) (fun k => [(0, .slice a l.length c), (1, .int .i64 n), (5, .int .i64 (hasTo l n k : Nat)), (6, .int .i64 k)]) 0 (Nat.zero_le _) ?_ (fun _ hl => hl) ?_
  · (repeat (first | exact subF_nil _ | (refine subF_cons rfl ?_) | (refine subF_consv rfl (by rfl) ?_)))
  · intro k hk
    have hle := hasTo_le l n k
    by_cases hlt : k < l.length
    · obtain ⟨b1, o1, x, rfl, _, _, hxk, hc1⟩ := IntSlice.get h hlt
      have hs := hasTo_succ (n := n) hxk.out
      by_cases e : x = n
      · rw [if_pos e] at hs
        repeat (first | refine qan ?_ | refine qaj ?_ | refine qaf ?_ | refine qad ?_ | refine SX.block ?_ | refine qaC ?_ | refine qaq rfl ?_ | (refine qau ?_; (refine qac (OpW.loadOld rfl (by assumption) (fun h => h)) rfl ?_ ?_ ?_); rfl; rfl) | (refine qao ?_; (refine qac (qai rfl) rfl ?_ ?_ ?_); rfl; rfl) | (refine qal ?_; (refine qac (qag rfl) rfl ?_ ?_ ?_); rfl; rfl) | (refine l_len ?_; (refine qac (OpW.len rfl) rfl ?_ ?_ ?_); rfl; rfl) | (refine l_add ?_; (refine qac (OpW.succ rfl rfl (by omega)) rfl ?_ ?_ ?_); rfl; rfl) | (refine l_eql ?_; (refine qac (qaQ rfl rfl (by omega)) rfl ?_ ?_ ?_); rfl; rfl) | (refine l_lss ?_; (refine qac (OpW.lssT rfl rfl (by omega)) rfl ?_ ?_ ?_); rfl; rfl) | (refine qaM ?_; (refine qac (qaO (by omega) rfl rfl) rfl ?_ ?_ ?_); rfl; rfl) | refine qar ?_)
        refine SQ.roundi (k + 1) (by omega) (by omega) ?_ (fun _ hl => hl)
        (repeat (first | exact subF_nil _ | (refine subF_cons rfl ?_) | (refine subF_consv rfl (by rw [hs]) ?_)))
      · rw [if_neg e] at hs
        repeat (first | refine qan ?_ | refine qaj ?_ | refine qaf ?_ | refine qad ?_ | refine SX.block ?_ | refine qaC ?_ | refine qaq rfl ?_ | refine qas rfl ?_ | (refine qau ?_; (refine qac (OpW.loadOld rfl (by assumption) (fun h => h)) rfl ?_ ?_ ?_); rfl; rfl) | (refine qao ?_; (refine qac (qai rfl) rfl ?_ ?_ ?_); rfl; rfl) | (refine qal ?_; (refine qac (qag rfl) rfl ?_ ?_ ?_); rfl; rfl) | (refine l_len ?_; (refine qac (OpW.len rfl) rfl ?_ ?_ ?_); rfl; rfl) | (refine l_add ?_; (refine qac (OpW.succ rfl rfl (by omega)) rfl ?_ ?_ ?_); rfl; rfl) | (refine l_eql ?_; (refine qac (qaP rfl rfl (by omega)) rfl ?_ ?_ ?_); rfl; rfl) | (refine l_lss ?_; (refine qac (OpW.lssT rfl rfl (by omega)) rfl ?_ ?_ ?_); rfl; rfl) | (refine qaM ?_; (refine qac (qaO (by omega) rfl rfl) rfl ?_ ?_ ?_); rfl; rfl) | refine qar ?_)
        refine SQ.roundi (k + 1) (by omega) (by omega) ?_ (fun _ hl => hl)
        (repeat (first | exact subF_nil _ | (refine subF_cons rfl ?_) | (refine subF_consv rfl (by rw [hs]; rfl) ?_)))
    · have hs := hasTo_all (n := n) (show l.length ≤ k by omega)
      repeat (first | refine qan ?_ | refine qaj ?_ | refine qaf ?_ | refine qad ?_ | refine qas rfl ?_ | (refine qao ?_; (refine qac (qai rfl) rfl ?_ ?_ ?_); rfl; rfl) | (refine qal ?_; (refine qac (qag rfl) rfl ?_ ?_ ?_); rfl; rfl) | (refine l_len ?_; (refine qac (OpW.len rfl) rfl ?_ ?_ ?_); rfl; rfl) | (refine l_lss ?_; (refine qac (OpW.lssF rfl rfl (by omega)) rfl ?_ ?_ ?_); rfl; rfl) | refine qaA ?_ | refine SX.exit ?_ | refine qaF ?_ | refine qaD ?_)
      refine qaz rfl rfl (fun w' hl => ⟨by rw [hs], hl.mod⟩)

end Go.Proofs.Ythffgbhphjkdeaa
namespace Go.Proofs.Ythffgbhphjkdeaa
open Go.RowKit

def kidOk (l : List Node) (i : Nat) (y : Int) : Bool := inB y 1 l.length && decide (((l[(y - 1).toNat]?).getD default).up = ((i + 1 : Nat) : Int))
def upOk (l : List Node) (i : Nat) (x : Node) : Bool := decide (x.up = 0) || decide (((l[(x.up - 1).toNat]?).getD default).kids.count ((i + 1 : Nat) : Int) = 1)
def tabOk (x : Node) : Bool := if x.measured then tableOk x.rules && decide (x.kids.length = 0) else decide (x.rules.length = 0)
def nodeOk (l : List Node) (i : Nat) (x : Node) : Bool := styleOk x.style && inB (depthF l (l.length + 1) ((i + 1 : Nat) : Int) (0 : Nat)) 1 4 && x.kids.all (kidOk l i) && upOk l i x && tabOk x
def treeOk (l : List Node) : Bool := decide (l.length ≤ 12) && (List.range l.length).all fun i => nodeOk l i ((l[i]?).getD default)
theorem treeOk_iff {l : List Node} : treeOk l = true ↔ l.length ≤ 12 ∧ ∀ i x, l[i]? = some x → nodeOk l i x = true := by
  unfold treeOk
  rw [Bool.and_eq_true, decide_eq_true_eq, List.all_eq_true]
  refine and_congr_right fun _ => ⟨fun h i x hx => ?_, fun h i hi => ?_⟩
  · have := h i (List.mem_range.2 (List.getElem?_eq_some_iff.1 hx).1)
    rwa [hx] at this
  · have hlt := List.mem_range.1 hi
    exact h i _ (by rw [List.getElem?_eq_getElem hlt]; rfl)
theorem treeOk_no {l : List Node} {k : Nat} {x : Node} (hx : l[k]? = some x) (h : nodeOk l k x = false) : treeOk l = false := by
  rw [Bool.eq_false_iff]
  intro ht
  rw [(treeOk_iff.1 ht).2 k x hx] at h
  cases h
theorem treeOk_all {l : List Node} {k : Nat} (hn : l.length ≤ 12) (hs : ∀ i x, i < k → l[i]? = some x → nodeOk l i x = true) (hk : l.length ≤ k) : treeOk l = true :=
  treeOk_iff.2 ⟨hn, fun i x hx => hs i x (by have := (List.getElem?_eq_some_iff.1 hx).1; omega) hx⟩
theorem treeOk_long {l : List Node} (hn : ¬ l.length ≤ 12) : treeOk l = false := by simp [treeOk, hn]
theorem pto_succ {α : Type} {p : Nat → α → Prop} {l : List α} {k : Nat} {x : α} (hs : ∀ i x, i < k → l[i]? = some x → p i x) (hx : l[k]? = some x) (h : p k x) : ∀ i x, i < k + 1 → l[i]? = some x → p i x := fun j y hj hy => by
  by_cases e : j = k
  · subst e; rw [hx] at hy; rw [← Option.some.inj hy]; exact h
  · exact hs j y (by omega) hy
theorem all_ints {l : List Int} {p : Int → Bool} {k : Nat} (hs : ∀ i x, i < k → l[i]? = some x → p x = true) (hk : l.length ≤ k) : l.all p = true := by
  rw [List.all_eq_true]
  intro x hx
  obtain ⟨i, hi⟩ := List.mem_iff_getElem?.1 hx
  exact hs i x (by have := (List.getElem?_eq_some_iff.1 hi).1; omega) hi
theorem not_all {l : List Int} {p : Int → Bool} {k : Nat} {y : Int} (hy : l[k]? = some y) (h : p y = false) : l.all p = false := by
  rw [Bool.eq_false_iff]
  intro ha
  rw [List.all_eq_true] at ha
  rw [ha y (List.mem_of_getElem? hy)] at h
  cases h
/-- Where the depth is a depth, the node above is one or there is none. -/
theorem depth_up {l : List Node} {k : Nat} {x : Node} (hx : l[k]? = some x) (hq : inB (depthF l (l.length + 1) ((k + 1 : Nat) : Int) (0 : Nat)) 1 4 = true) (h0 : x.up ≠ 0) : ∃ ku : Nat, x.up = ((ku + 1 : Nat) : Int) ∧ ku < l.length := by
  have hlt := (List.getElem?_eq_some_iff.1 hx).1
  have e := depthF_up (l := l) (d := 0) (by omega) hx
  rw [Nat.sub_zero] at e
  have e0 : depthF l (l.length + 1) ((k + 1 : Nat) : Int) 0 = depthF l (l.length + 1 - (0 + 1)) x.up (0 + 1) := e
  by_cases hb : inB x.up 1 l.length = true
  · exact inB_node hb
  · have hb' : inB x.up 1 l.length = false := by simpa using hb
    have := depthF_out (l := l) (d := 0 + 1) (by omega) h0 hb'
    rw [e0, this] at hq
    simp [inB] at hq

section
variable {l : List Node} {i : Nat} {x : Node}
theorem nodeOk_s (h : styleOk x.style = false) : nodeOk l i x = false := by simp [nodeOk, h]
theorem nodeOk_d (h : inB (depthF l (l.length + 1) ((i + 1 : Nat) : Int) (0 : Nat)) 1 4 = false) : nodeOk l i x = false := by unfold nodeOk; rw [h]; simp
theorem nodeOk_k {j : Nat} {y : Int} (hy : x.kids[j]? = some y) (h : kidOk l i y = false) : nodeOk l i x = false := by unfold nodeOk; rw [not_all hy h]; simp
theorem nodeOk_u (h : upOk l i x = false) : nodeOk l i x = false := by simp [nodeOk, h]
theorem nodeOk_t (h : tabOk x = false) : nodeOk l i x = false := by simp [nodeOk, h]
theorem nodeOk_y (h1 : styleOk x.style = true) (h2 : inB (depthF l (l.length + 1) ((i + 1 : Nat) : Int) (0 : Nat)) 1 4 = true) (h3 : x.kids.all (kidOk l i) = true) (h4 : upOk l i x = true) (h5 : tabOk x = true) : nodeOk l i x = true := by unfold nodeOk; rw [h1, h2, h3, h4, h5]; rfl
theorem kidOk_at {ky : Nat} {z : Node} (h : inB ((ky + 1 : Nat) : Int) 1 l.length = true) (hz : l[ky]? = some z) : kidOk l i ((ky + 1 : Nat) : Int) = decide (z.up = ((i + 1 : Nat) : Int)) := by
  unfold kidOk
  rw [h, show (((ky + 1 : Nat) : Int) - 1).toNat = ky by omega, hz]; rfl
theorem upOk_at {ku : Nat} {z : Node} (h : x.up = ((ku + 1 : Nat) : Int)) (hz : l[ku]? = some z) : upOk l i x = decide (z.kids.count ((i + 1 : Nat) : Int) = 1) := by
  unfold upOk
  rw [h, decide_eq_false (by omega), show (((ku + 1 : Nat) : Int) - 1).toNat = ku by omega, hz]; rfl
end
instance : TFv Try.prog 86 1 1 := ⟨_, _, _, Try.underlying86, rfl, rfl, Try.underlying84, rfl⟩
theorem nodeRow_tab (up : Int) (k : Option Addr) (n c : Nat) (s : Style) (m : Bool) (t : Option Addr) (n' c' : Nat) : ((nodeRow up k n c s m t n' c').drop 63).take 1 = [.slice t n' c'] := rfl
theorem styleC_any (x : Style) (w : World) : Calls Try.prog 82 #[.agg x.cells.toArray] w fun e w' => e = .returned (.bool (styleOk x)) ∧ Mod (fun _ => False) w w' := styleOk_any x w
theorem sstyleC_any (x : Style) (w : World) : Calls Try.prog 84 #[.agg x.cells.toArray] w fun e w' => e = .returned (.bool (styleOk x)) ∧ Mod (fun _ => False) w w' := sstyleOk_any x w

end Go.Proofs.Ythffgbhphjkdeaa
namespace Go.Proofs.Ythffgbhphjkdeaa
open Go.RowKit

/-- The depth of node n. -/
def dep (l : List Node) (n : Int) : Int := depthF l (l.length + 1) n (0 : Nat)
def nodeAt (l : List Node) (n : Int) : Node := (l[(n - 1).toNat]?).getD default
theorem nodeAt_of {l : List Node} {k : Nat} {x : Node} (h : l[k]? = some x) : nodeAt l ((k + 1 : Nat) : Int) = x := by
  unfold nodeAt
  rw [show (((k + 1 : Nat) : Int) - 1).toNat = k by omega, h]; rfl
theorem depthF_ge {l : List Node} : ∀ (f : Nat) (n : Int) (d : Nat), depthF l f n d ≠ 0 → (d : Int) ≤ depthF l f n d
  | 0, _, _, h => (h rfl).elim
  | f + 1, n, d, h => by
    unfold depthF at h ⊢
    split
    · exact Int.le_refl _
    · rename_i h0
      rw [if_neg h0] at h
      split
      · rename_i h1
        rw [if_pos h1] at h
        have := depthF_ge f _ _ h
        omega
      · rename_i h1
        rw [if_neg h1] at h
        exact (h rfl).elim
theorem depthF_shift {l : List Node} : ∀ (f : Nat) (n : Int) (d : Nat), depthF l f n (d + 1) ≠ 0 → depthF l f n (d + 1) = depthF l f n d + 1
  | 0, _, _, h => (h rfl).elim
  | f + 1, n, d, h => by
    unfold depthF at h ⊢
    split
    · rfl
    · rename_i h0
      rw [if_neg h0] at h
      split
      · rename_i h1
        rw [if_pos h1] at h
        exact depthF_shift f _ _ h
      · rename_i h1
        rw [if_neg h1] at h
        exact (h rfl).elim
theorem depthF_fuel {l : List Node} : ∀ (f : Nat) (n : Int) (d : Nat), depthF l f n d ≠ 0 → depthF l (f + 1) n d = depthF l f n d
  | 0, _, _, h => (h rfl).elim
  | f + 1, n, d, h => by
    unfold depthF at h
    show (if n = 0 then (d : Int) else if inB n 1 l.length then depthF l (f + 1) _ _ else 0) = (if n = 0 then (d : Int) else if inB n 1 l.length then depthF l f _ _ else 0)
    split
    · rfl
    · rename_i h0
      rw [if_neg h0] at h
      split
      · rename_i h1
        rw [if_pos h1] at h
        exact depthF_fuel f _ _ h
      · rfl
theorem depthF_far {l : List Node} {f : Nat} {n : Int} {d : Nat} (h0 : n ≠ 0) (h : depthF l f n d ≠ 0) : ((d + 1 : Nat) : Int) ≤ depthF l f n d := by
  cases f with
  | zero => exact (h rfl).elim
  | succ f =>
    unfold depthF at h ⊢
    rw [if_neg h0] at h ⊢
    split
    · rename_i h1
      rw [if_pos h1] at h
      exact depthF_ge f _ _ h
    · rename_i h1
      rw [if_neg h1] at h
      exact (h rfl).elim
theorem dep_root {l : List Node} {k : Nat} {x : Node} (hx : l[k]? = some x) (h0 : x.up = 0) (hl : 0 < l.length) : dep l ((k + 1 : Nat) : Int) = 1 := by
  have e := depthF_up (l := l) (d := 0) (by omega) hx
  rw [h0] at e
  have e2 := depthF_zero (l := l) (d := 0 + 1) (by omega)
  rw [Nat.sub_zero] at e
  unfold dep
  exact e.trans (e2.trans rfl)
theorem dep_up {l : List Node} {k : Nat} {x : Node} (hx : l[k]? = some x) (h0 : x.up ≠ 0) (hd : dep l ((k + 1 : Nat) : Int) ≠ 0) : dep l ((k + 1 : Nat) : Int) = dep l x.up + 1 := by
  have e := depthF_up (l := l) (d := 0) (by omega) hx
  rw [Nat.sub_zero] at e
  unfold dep at hd ⊢
  have e' : depthF l (l.length + 1) ((k + 1 : Nat) : Int) (0 : Nat) = depthF l l.length x.up 1 := e
  rw [e'] at hd ⊢
  have hs : depthF l l.length x.up 1 = depthF l l.length x.up 0 + 1 := depthF_shift _ _ 0 hd
  have hfar := depthF_far h0 hd
  rw [hs]
  have hne : depthF l l.length x.up 0 ≠ 0 := by omega
  rw [depthF_fuel _ _ _ hne]

section
variable {l : List Node} (hv : treeOk l = true)
include hv
theorem ok_len : l.length ≤ 12 := (treeOk_iff.1 hv).1
theorem ok_node {k : Nat} {x : Node} (hx : l[k]? = some x) : styleOk x.style = true ∧ (1 ≤ dep l ((k + 1 : Nat) : Int) ∧ dep l ((k + 1 : Nat) : Int) ≤ 4) ∧ (∀ y ∈ x.kids, kidOk l k y = true) ∧ upOk l k x = true ∧ tabOk x = true := by
  have h := (treeOk_iff.1 hv).2 k x hx
  unfold nodeOk inB at h
  simp only [Bool.and_eq_true, decide_eq_true_eq, List.all_eq_true] at h
  obtain ⟨⟨⟨⟨h1, h2⟩, h3⟩, h4⟩, h5⟩ := h
  refine ⟨h1, ?_, h3, h4, h5⟩
  unfold dep
  omega
/-- A child of a node: where it is, and that it knows its node; it is one level below. -/
theorem ok_kid {k : Nat} {x : Node} (hx : l[k]? = some x) {y : Int} (hy : y ∈ x.kids) : ∃ (ky : Nat) (z : Node), y = ((ky + 1 : Nat) : Int) ∧ l[ky]? = some z ∧ z.up = ((k + 1 : Nat) : Int) ∧ dep l y = dep l ((k + 1 : Nat) : Int) + 1 := by
  obtain ⟨_, _, h3, _, _⟩ := ok_node hv hx
  have hk := h3 y hy
  unfold kidOk at hk
  rw [Bool.and_eq_true] at hk
  obtain ⟨ky, rfl, hky⟩ := inB_node hk.1
  have hz := List.getElem?_eq_getElem hky
  generalize l[ky] = z at hz
  have hu : z.up = ((k + 1 : Nat) : Int) := by
    have := hk.2
    rw [show (((ky + 1 : Nat) : Int) - 1).toNat = ky by omega, hz] at this
    simpa using this
  have hd := (ok_node hv hz).2.1
  refine ⟨ky, z, rfl, hz, hu, ?_⟩
  rw [dep_up hz (by omega) (by omega), hu]
theorem ok_count {k : Nat} {x : Node} (hx : l[k]? = some x) {y : Int} (hy : y ∈ x.kids) : x.kids.count y = 1 := by
  obtain ⟨ky, z, rfl, hz, hu, _⟩ := ok_kid hv hx hy
  obtain ⟨_, _, _, h4, _⟩ := ok_node hv hz
  rw [upOk_at hu hx] at h4
  simpa using h4
omit hv in
theorem nodup_len : ∀ (N : Nat) (xs : List Int), (∀ a, xs.count a ≤ 1) → (∀ x ∈ xs, 1 ≤ x ∧ x ≤ (N : Int)) → xs.length ≤ N
  | 0, xs, _, h => by
    cases xs with
    | nil => simp
    | cons x xs => have := h x List.mem_cons_self; omega
  | N + 1, xs, hc, h => by
    have ih := nodup_len N (xs.filter fun x => !decide (x = ((N + 1 : Nat) : Int))) (fun a => by
      have h1 := hc a
      have h2 : (xs.filter fun x => !decide (x = ((N + 1 : Nat) : Int))).count a ≤ xs.count a := List.Sublist.count_le a List.filter_sublist
      omega) (fun x hx => by
      obtain ⟨hx1, hx2⟩ := List.mem_filter.1 hx
      have := h x hx1
      simp at hx2
      omega)
    have h3 := List.length_eq_countP_add_countP (fun x => decide (x = ((N + 1 : Nat) : Int))) (l := xs)
    have h4 : xs.countP (fun x => decide (x = ((N + 1 : Nat) : Int))) ≤ 1 := by
      have := hc ((N + 1 : Nat) : Int)
      unfold List.count at this
      have e : (fun x : Int => decide (x = ((N + 1 : Nat) : Int))) = fun x => x == ((N + 1 : Nat) : Int) := by
        funext x
        rw [Bool.eq_iff_iff]
        simp
      rw [e]; exact this
    have h5 : xs.countP (fun x => decide ¬ (decide (x = ((N + 1 : Nat) : Int))) = true) = (xs.filter fun x => !decide (x = ((N + 1 : Nat) : Int))).length := by
      rw [List.countP_eq_length_filter]
      congr 1
      apply List.filter_congr
      intro x _
      simp
    omega
theorem ok_kids_len {k : Nat} {x : Node} (hx : l[k]? = some x) : x.kids.length ≤ 12 := by
  refine nodup_len 12 x.kids (fun a => ?_) (fun y hy => ?_)
  · by_cases ha : a ∈ x.kids
    · rw [ok_count hv hx ha]; omega
    · rw [List.count_eq_zero.2 ha]; omega
  · obtain ⟨ky, z, rfl, hz, _, _⟩ := ok_kid hv hx hy
    have := (List.getElem?_eq_some_iff.1 hz).1
    have := ok_len hv
    omega
end
/-- A node and all below it. -/
def under (l : List Node) : Nat → Int → List Int
  | 0, n => [n]
  | f + 1, n => n :: ((nodeAt l n).kids.map (under l f)).flatten
def underB : Nat → Nat
  | 0 => 1
  | f + 1 => 1 + 12 * underB f
theorem under_len {l : List Node} (hv : treeOk l = true) : ∀ (f k : Nat) (x : Node), l[k]? = some x → (under l f ((k + 1 : Nat) : Int)).length ≤ underB f
  | 0, _, _, _ => Nat.le_refl _
  | f + 1, k, x, hx => by
    have hb : ∀ ys : List Int, (∀ y ∈ ys, y ∈ x.kids) → ((ys.map (under l f)).flatten).length ≤ ys.length * underB f := by
      intro ys
      induction ys with
      | nil => intro _; simp
      | cons y ys ih =>
        intro h
        obtain ⟨ky, z, rfl, hz, _, _⟩ := ok_kid hv hx (h y List.mem_cons_self)
        have h1 := under_len hv f ky z hz
        have h2 := ih fun y hy => h y (List.mem_cons_of_mem _ hy)
        rw [List.map_cons, List.flatten_cons, List.length_append, List.length_cons, Nat.succ_mul]
        omega
    have h1 := hb x.kids fun _ h => h
    have h2 := ok_kids_len hv hx
    have h3 : x.kids.length * underB f ≤ 12 * underB f := Nat.mul_le_mul_right _ h2
    unfold under underB
    rw [nodeAt_of hx, List.length_cons]
    omega
/-- A node and all below it, in a valid tree. -/
def allU (l : List Node) (n : Int) : List Int := under l (5 - dep l n).toNat n
theorem allU_len {l : List Node} (hv : treeOk l = true) {k : Nat} {x : Node} (hx : l[k]? = some x) : (allU l ((k + 1 : Nat) : Int)).length ≤ 30000 := by
  have h1 := (ok_node hv hx).2.1
  have h2 := under_len hv (5 - dep l ((k + 1 : Nat) : Int)).toNat k x hx
  have h3 : ∀ f, f ≤ 4 → underB f ≤ 22621 := by decide
  have h4 := h3 (5 - dep l ((k + 1 : Nat) : Int)).toNat (by omega)
  unfold allU
  omega
theorem allU_eq {l : List Node} (hv : treeOk l = true) {k : Nat} {x : Node} (hx : l[k]? = some x) : allU l ((k + 1 : Nat) : Int) = ((k + 1 : Nat) : Int) :: (x.kids.map (allU l)).flatten := by
  have h1 := (ok_node hv hx).2.1
  obtain ⟨f, hf⟩ : ∃ f, (5 - dep l ((k + 1 : Nat) : Int)).toNat = f + 1 := ⟨(5 - dep l ((k + 1 : Nat) : Int)).toNat - 1, by omega⟩
  unfold allU
  rw [hf]
  show _ :: _ = _
  rw [nodeAt_of hx]
  congr 2
  refine List.map_congr_left fun y hy => ?_
  obtain ⟨ky, z, rfl, hz, _, hd⟩ := ok_kid hv hx hy
  rw [hd]
  congr 1
  omega
end Go.Proofs.Ythffgbhphjkdeaa
namespace Go.Proofs.Ythffgbhphjkdeaa
open Go.RowKit
set_option linter.unusedVariables false
set_option linter.unusedSimpArgs false

theorem inB_eq {n a b : Int} : inB n a b = true ↔ a ≤ n ∧ n ≤ b := by simp [inB]
theorem node_get {l : List Node} {n : Int} (h : inB n 1 l.length = true) : ∃ (k : Nat) (x : Node), n = ((k + 1 : Nat) : Int) ∧ k < l.length ∧ l[k]? = some x ∧ nodeAt l n = x := by
  obtain ⟨k, rfl, hk⟩ := inB_node h
  have hx := List.getElem?_eq_getElem hk
  exact ⟨k, _, rfl, hk, hx, nodeAt_of hx⟩

/-! ### Depths told by a function -/
/-- d tells the depths of the tree's nodes. -/
structure Deep (l : List Node) (d : Int → Nat) : Prop where
  root : ∀ n, inB n 1 l.length = true → (nodeAt l n).up = 0 → d n = 1
  next : ∀ n, inB n 1 l.length = true → (nodeAt l n).up ≠ 0 → inB (nodeAt l n).up 1 l.length = true ∧ d n = d (nodeAt l n).up + 1 ∧ 1 ≤ d (nodeAt l n).up
theorem Deep.pos {l : List Node} {d : Int → Nat} (h : Deep l d) {n : Int} (hn : inB n 1 l.length = true) : 1 ≤ d n := by
  by_cases h0 : (nodeAt l n).up = 0
  · rw [h.root n hn h0]; exact Nat.le_refl _
  · have := (h.next n hn h0).2.1; omega
/-- The nodes above a node, itself among them. -/
def chain (l : List Node) : Nat → Int → List Int
  | 0, _ => []
  | f + 1, n => n :: chain l f (nodeAt l n).up
theorem chain_mem {l : List Node} {d : Int → Nat} (h : Deep l d) : ∀ (f : Nat) (n : Int), inB n 1 l.length = true → d n = f → ∀ y ∈ chain l f n, inB y 1 l.length = true ∧ d y ≤ f
  | 0, n, hn, hd, y, hy => by cases hy
  | f + 1, n, hn, hd, y, hy => by
    unfold chain at hy
    rcases List.mem_cons.1 hy with rfl | hy
    · exact ⟨hn, by omega⟩
    · by_cases h0 : (nodeAt l n).up = 0
      · have := h.root n hn h0
        obtain rfl : f = 0 := by omega
        cases hy
      · obtain ⟨h1, h2, h3⟩ := h.next n hn h0
        have := chain_mem h f _ h1 (by omega) y hy
        exact ⟨this.1, by omega⟩
theorem chain_len {l : List Node} : ∀ (f : Nat) (n : Int), (chain l f n).length = f
  | 0, _ => rfl
  | f + 1, n => by unfold chain; rw [List.length_cons, chain_len f]
theorem chain_count {l : List Node} {d : Int → Nat} (h : Deep l d) : ∀ (f : Nat) (n : Int), inB n 1 l.length = true → d n = f → ∀ a, (chain l f n).count a ≤ 1
  | 0, n, hn, hd, a => by simp [chain]
  | f + 1, n, hn, hd, a => by
    unfold chain
    rw [List.count_cons]
    by_cases h0 : (nodeAt l n).up = 0
    · have := h.root n hn h0
      obtain rfl : f = 0 := by omega
      simp only [chain, List.count_nil]
      split <;> omega
    · obtain ⟨h1, h2, h3⟩ := h.next n hn h0
      have ih := chain_count h f _ h1 (by omega) a
      by_cases e : n = a
      · subst e
        have : n ∉ chain l f (nodeAt l n).up := fun hm => by
          have := (chain_mem h f _ h1 (by omega) n hm).2
          omega
        rw [List.count_eq_zero.2 this]
        simp
      · have e' : (n == a) = false := by simpa using e
        rw [e']
        simpa using ih
theorem Deep.le {l : List Node} {d : Int → Nat} (h : Deep l d) {n : Int} (hn : inB n 1 l.length = true) : d n ≤ l.length := by
  have := nodup_len l.length (chain l (d n) n) (chain_count h _ n hn rfl) fun x hx => inB_eq.1 (chain_mem h _ n hn rfl x hx).1
  rwa [chain_len] at this
theorem depthF_deep {l : List Node} {d : Int → Nat} (h : Deep l d) : ∀ (f : Nat) (n : Int) (k : Nat), inB n 1 l.length = true → d n < f → depthF l f n k = ((k + d n : Nat) : Int)
  | 0, n, k, hn, hd => by omega
  | f + 1, n, k, hn, hd => by
    have hn' := inB_eq.1 hn
    unfold depthF
    rw [if_neg (by omega), if_pos hn]
    show depthF l f (nodeAt l n).up (k + 1) = _
    by_cases h0 : (nodeAt l n).up = 0
    · have h1 := h.root n hn h0
      obtain ⟨g, rfl⟩ : ∃ g, f = g + 1 := ⟨f - 1, by omega⟩
      rw [h0, h1]
      unfold depthF
      rw [if_pos rfl]
    · obtain ⟨h1, h2, h3⟩ := h.next n hn h0
      rw [depthF_deep h f _ (k + 1) h1 (by omega), h2]
      congr 1
      omega
theorem Deep.dep {l : List Node} {d : Int → Nat} (h : Deep l d) {n : Int} (hn : inB n 1 l.length = true) : dep l n = (d n : Int) := by
  have := h.le hn
  unfold Go.Proofs.Ythffgbhphjkdeaa.dep
  rw [depthF_deep h _ n 0 hn (by omega), Nat.zero_add]
/-- A valid tree has such depths. -/
theorem ok_deep {l : List Node} (hv : treeOk l = true) : Deep l (fun n => (dep l n).toNat) where
  root := fun n hn h0 => by
    obtain ⟨k, x, rfl, hk, hx, e⟩ := node_get hn
    rw [e] at h0
    rw [dep_root hx h0 (by omega)]; rfl
  next := fun n hn h0 => by
    obtain ⟨k, x, rfl, hk, hx, e⟩ := node_get hn
    rw [e] at h0 ⊢
    have hd := (ok_node hv hx).2.1
    obtain ⟨ku, hu, hku⟩ := depth_up hx (inB_eq.2 hd) h0
    have hub : inB x.up 1 l.length = true := by rw [hu]; exact inB_true (by omega) (by omega)
    have hu2 := List.getElem?_eq_getElem hku
    have hd2 := (ok_node hv hu2).2.1
    rw [← hu] at hd2
    have := dep_up hx h0 (by omega)
    exact ⟨hub, by omega, by omega⟩
theorem ok_dep {l : List Node} (hv : treeOk l = true) {n : Int} (hn : inB n 1 l.length = true) : 1 ≤ dep l n ∧ dep l n ≤ 4 ∧ dep l n ≤ l.length := by
  obtain ⟨k, x, rfl, hk, hx, e⟩ := node_get hn
  have hd := (ok_node hv hx).2.1
  have := (ok_deep hv).le hn
  exact ⟨hd.1, hd.2, by omega⟩

/-! ### Who is under whom -/
/-- top is above n, within f steps. -/
def isUnderF (l : List Node) : Nat → Int → Int → Bool
  | 0, _, _ => false
  | f + 1, n, top => decide ((nodeAt l n).up ≠ 0) && (decide ((nodeAt l n).up = top) || isUnderF l f (nodeAt l n).up top)
def isUnder (l : List Node) (n top : Int) : Bool := inB top 1 l.length && inB n 1 l.length && isUnderF l 5 n top
theorem isUnderF_le {l : List Node} {d : Int → Nat} (h : Deep l d) : ∀ (f g : Nat) (n top : Int), inB n 1 l.length = true → d n ≤ f → d n ≤ g → isUnderF l f n top = isUnderF l g n top
  | 0, _, n, top, hn, h1, _ => by have := h.pos hn; omega
  | _, 0, n, top, hn, _, h1 => by have := h.pos hn; omega
  | f + 1, g + 1, n, top, hn, h1, h2 => by
    unfold isUnderF
    by_cases h0 : (nodeAt l n).up = 0
    · simp [h0]
    · obtain ⟨h3, h4, h5⟩ := h.next n hn h0
      rw [isUnderF_le h f g _ top h3 (by omega) (by omega)]
/-- One step up. -/
theorem isUnder_up {l : List Node} (hv : treeOk l = true) {n top : Int} (hn : inB n 1 l.length = true) (ht : inB top 1 l.length = true) (h0 : (nodeAt l n).up ≠ 0) :
    isUnder l n top = (decide ((nodeAt l n).up = top) || isUnder l (nodeAt l n).up top) := by
  have hd := ok_deep hv
  obtain ⟨h1, h2, h3⟩ := hd.next n hn h0
  have := ok_dep hv hn
  have := ok_dep hv h1
  unfold isUnder
  rw [hn, ht, h1]
  show isUnderF l 5 n top = (_ || isUnderF l 5 _ top)
  rw [isUnderF_le hd 5 4 (nodeAt l n).up top h1 (by omega) (by omega)]
  show (decide _ && (_ || _)) = _
  rw [decide_eq_true h0, Bool.true_and]
theorem isUnder_root {l : List Node} {n top : Int} (h0 : (nodeAt l n).up = 0) : isUnder l n top = false := by
  unfold isUnder
  show (_ && isUnderF l (4 + 1) n top) = false
  unfold isUnderF
  simp [h0]
theorem isUnder_out {l : List Node} {n top : Int} (h0 : inB top 1 l.length = false) : isUnder l n top = false := by
  unfold isUnder; rw [h0]; rfl
theorem isUnder_out2 {l : List Node} {n top : Int} (h0 : inB n 1 l.length = false) : isUnder l n top = false := by
  unfold isUnder; rw [h0]; simp

/-! ### The operations -/
def addNode (l : List Node) (s : Style) : List Node × Int :=
  if treeOk l && styleOk s && decide (l.length < 12) then (l ++ [⟨0, [], s, false, []⟩], l.length + 1) else (l, 0)
/-- The child put in. -/
def putKid (l : List Node) (n kid : Int) (i : Nat) : List Node :=
  (l.set (n - 1).toNat { nodeAt l n with kids := (nodeAt l n).kids.take i ++ [kid] ++ (nodeAt l n).kids.drop i }).set (kid - 1).toNat { nodeAt l kid with up := n }
def insertKid (l : List Node) (n kid i : Int) : List Node × Int :=
  if !treeOk l || !inB n 1 l.length || !inB kid 1 l.length then (l, 1)
  else if decide (kid = n) || isUnder l n kid then (l, 2)
  else if decide ((nodeAt l kid).up ≠ 0) || !inB i 0 (nodeAt l n).kids.length then (l, 3)
  else if (nodeAt l n).measured then (l, 6)
  else if treeOk (putKid l n kid i.toNat) then (putKid l n kid i.toNat, 0) else (l, 7)
def putTable (l : List Node) (n : Int) (r : List Rule) : List Node := l.set (n - 1).toNat { nodeAt l n with measured := decide (r ≠ []), rules := r }
def setTable (l : List Node) (n : Int) (r : List Rule) : List Node × Int :=
  if !treeOk l || !inB n 1 l.length then (l, 1)
  else if decide (r ≠ []) && (!tableOk r || decide ((nodeAt l n).kids ≠ [])) then (l, 6)
  else (putTable l n r, 0)

/-! ### Nodes of a tree that was changed at one place -/
theorem nodeAt_set_self {l : List Node} {n : Int} {x : Node} (hn : inB n 1 l.length = true) : nodeAt (l.set (n - 1).toNat x) n = x := by
  obtain ⟨k, y, rfl, hk, hx, e⟩ := node_get hn
  rw [show (((k + 1 : Nat) : Int) - 1).toNat = k by omega]
  exact nodeAt_of (by rw [List.getElem?_set_self hk])
theorem nodeAt_set_ne {l : List Node} {n m : Int} {x : Node} (hn : inB n 1 l.length = true) (hm : inB m 1 l.length = true) (h : m ≠ n) : nodeAt (l.set (n - 1).toNat x) m = nodeAt l m := by
  obtain ⟨k, y, rfl, hk, hx, e⟩ := node_get hn
  obtain ⟨j, z, rfl, hj, hz, e2⟩ := node_get hm
  rw [show (((k + 1 : Nat) : Int) - 1).toNat = k by omega, e2]
  exact nodeAt_of (by rw [List.getElem?_set_ne (by omega)]; exact hz)

/-! ### Validity by nodes -/
/-- What a node's validity says. -/
structure NodeIs (l : List Node) (n : Int) : Prop where
  style : styleOk (nodeAt l n).style = true
  deep : 1 ≤ dep l n ∧ dep l n ≤ 4
  kids : ∀ y ∈ (nodeAt l n).kids, inB y 1 l.length = true ∧ (nodeAt l y).up = n
  up : (nodeAt l n).up = 0 ∨ (nodeAt l (nodeAt l n).up).kids.count n = 1
  tab : tabOk (nodeAt l n) = true
end Go.Proofs.Ythffgbhphjkdeaa
namespace Go.Proofs.Ythffgbhphjkdeaa
open Go.RowKit

/-- The order of a node. -/
def ordAt (l : List Node) (k : Int) : Int := (nodeAt l k).style.order
def inFlow (l : List Node) (k : Int) : Bool := !(nodeAt l k).style.hidden && !(nodeAt l k).style.apart
def standsApart (l : List Node) (k : Int) : Bool := !(nodeAt l k).style.hidden && (nodeAt l k).style.apart
/-- Where a node goes into a list, looked for from place at downwards. -/
def posK (l : List Node) (out : List Int) (k : Int) : Nat → Nat
  | 0 => 0
  | at_ + 1 => if ordAt l k < ordAt l ((out[at_]?).getD 0) then posK l out k at_ else at_ + 1
theorem posK_le {l : List Node} {out : List Int} {k : Int} : ∀ j, posK l out k j ≤ j
  | 0 => Nat.le_refl _
  | j + 1 => by unfold posK; split; exact Nat.le_succ_of_le (posK_le j); exact Nat.le_refl _
theorem posK_gt {l : List Node} {out : List Int} {k : Int} : ∀ j i, posK l out k j ≤ i → i < j → ordAt l k < ordAt l ((out[i]?).getD 0)
  | 0, i, _, h => by omega
  | j + 1, i, h1, h2 => by
    unfold posK at h1
    split at h1
    · rename_i h
      by_cases e : i = j
      · subst e; exact h
      · exact posK_gt j i h1 (by omega)
    · omega
theorem posK_end {l : List Node} {out : List Int} {k : Int} : ∀ j, posK l out k j = 0 ∨ (0 < posK l out k j ∧ ordAt l ((out[posK l out k j - 1]?).getD 0) ≤ ordAt l k)
  | 0 => .inl rfl
  | j + 1 => by
    by_cases h : ordAt l k < ordAt l ((out[j]?).getD 0)
    · unfold posK; rw [if_pos h]; exact posK_end j
    · have e : posK l out k (j + 1) = j + 1 := by unfold posK; rw [if_neg h]
      rw [e]; exact .inr ⟨Nat.succ_pos _, by rw [Nat.add_sub_cancel]; omega⟩
def insK (l : List Node) (out : List Int) (k : Int) : List Int := out.take (posK l out k out.length) ++ k :: out.drop (posK l out k out.length)
theorem insK_len {l : List Node} {out : List Int} {k : Int} : (insK l out k).length = out.length + 1 := by
  have := posK_le (l := l) (out := out) (k := k) out.length
  simp only [insK, List.length_append, List.length_take, List.length_cons, List.length_drop]
  omega
theorem insK_mem {l : List Node} {out : List Int} {k y : Int} (h : y ∈ insK l out k) : y = k ∨ y ∈ out := by
  rcases List.mem_append.1 h with h | h
  · exact .inr (List.mem_of_mem_take h)
  · rcases List.mem_cons.1 h with h | h
    · exact .inl h
    · exact .inr (List.mem_of_mem_drop h)
/-- In order. -/
def Ranked (l : List Node) (xs : List Int) : Prop := xs.Pairwise (fun a b => ordAt l a ≤ ordAt l b)
theorem insK_ranked {l : List Node} {out : List Int} {k : Int} (h : Ranked l out) : Ranked l (insK l out k) := by
  have hp := posK_le (l := l) (out := out) (k := k) out.length
  have hg := posK_gt (l := l) (out := out) (k := k) out.length
  have he := posK_end (l := l) (out := out) (k := k) out.length
  unfold Ranked insK at *
  generalize posK l out k out.length = p at *
  have hs := h
  rw [← List.take_append_drop p out] at hs
  obtain ⟨h1, h2, h3⟩ := List.pairwise_append.1 hs
  have hlow : ∀ a ∈ out.take p, ordAt l a ≤ ordAt l k := fun a ha => by
    rcases he with he | ⟨h0, he⟩
    · subst he; simp at ha
    · have hlt : p - 1 < out.length := by omega
      rw [List.getElem?_eq_getElem hlt] at he
      obtain ⟨i, hi, rfl⟩ := List.mem_iff_getElem.1 ha
      rw [List.length_take] at hi
      rw [List.getElem_take]
      by_cases e : i = p - 1
      · subst e; exact he
      · exact Int.le_trans (List.pairwise_iff_getElem.1 h i (p - 1) (by omega) hlt (by omega)) he
  have hhigh : ∀ b ∈ out.drop p, ordAt l k ≤ ordAt l b := fun b hb => by
    obtain ⟨i, hi, rfl⟩ := List.mem_iff_getElem.1 hb
    rw [List.length_drop] at hi
    rw [List.getElem_drop]
    have := hg (p + i) (by omega) (by omega)
    rw [List.getElem?_eq_getElem (by omega)] at this
    exact Int.le_of_lt this
  refine List.pairwise_append.2 ⟨h1, List.pairwise_cons.2 ⟨hhigh, h2⟩, fun a ha b hb => ?_⟩
  rcases List.mem_cons.1 hb with rfl | hb
  · exact hlow a ha
  · exact h3 a ha b hb
/-- The flow's part of a list, and sorted as it comes. -/
def sorted (l : List Node) (xs : List Int) : List Int := xs.foldl (insK l) []
def flowTo (l : List Node) (xs : List Int) : List Int := xs.foldl (fun out k => if inFlow l k then insK l out k else out) []
theorem flowTo_sorted {l : List Node} (xs : List Int) : flowTo l xs = sorted l (xs.filter (inFlow l)) := by
  unfold flowTo sorted
  rw [List.foldl_filter]
theorem sorted_snoc {l : List Node} (xs : List Int) (k : Int) : sorted l (xs ++ [k]) = insK l (sorted l xs) k := by
  unfold sorted; rw [List.foldl_append]; rfl
theorem flowTo_snoc {l : List Node} (xs : List Int) (k : Int) : flowTo l (xs ++ [k]) = if inFlow l k then insK l (flowTo l xs) k else flowTo l xs := by
  unfold flowTo; rw [List.foldl_append]; rfl
theorem foldl_len {l : List Node} : ∀ (xs out : List Int), (xs.foldl (insK l) out).length = out.length + xs.length
  | [], _ => rfl
  | x :: xs, out => by rw [List.foldl_cons, foldl_len xs, insK_len, List.length_cons]; omega
theorem sorted_len {l : List Node} (xs : List Int) : (sorted l xs).length = xs.length := by unfold sorted; rw [foldl_len]; simp
theorem foldl_mem {l : List Node} {y : Int} : ∀ (xs out : List Int), y ∈ xs.foldl (insK l) out → y ∈ out ∨ y ∈ xs
  | [], _, h => .inl h
  | x :: xs, out, h => by
    rw [List.foldl_cons] at h
    rcases foldl_mem xs _ h with h | h
    · rcases insK_mem h with rfl | h
      · exact .inr (List.mem_cons_self)
      · exact .inl h
    · exact .inr (List.mem_cons_of_mem _ h)
theorem sorted_mem {l : List Node} {xs : List Int} {y : Int} (h : y ∈ sorted l xs) : y ∈ xs := by
  rcases foldl_mem xs [] h with h | h
  · simp at h
  · exact h
theorem foldl_ranked {l : List Node} : ∀ (xs out : List Int), Ranked l out → Ranked l (xs.foldl (insK l) out)
  | [], _, h => h
  | x :: xs, out, h => by rw [List.foldl_cons]; exact foldl_ranked xs _ (insK_ranked h)
theorem sorted_ranked {l : List Node} (xs : List Int) : Ranked l (sorted l xs) := foldl_ranked xs [] List.Pairwise.nil
/-- The children in the flow; those that stand apart. -/
def flowW (l : List Node) (n : Int) : List Int := if treeOk l && inB n 1 l.length then sorted l ((nodeAt l n).kids.filter (inFlow l)) else []
def apartW (l : List Node) (n : Int) : List Int := if treeOk l && inB n 1 l.length then (nodeAt l n).kids.filter (standsApart l) else []
theorem three_ways {l : List Node} : ∀ xs : List Int, (xs.filter (inFlow l)).length + (xs.filter (standsApart l)).length + (xs.filter fun k => (nodeAt l k).style.hidden).length = xs.length
  | [] => rfl
  | x :: xs => by
    have := three_ways (l := l) xs
    simp only [List.filter_cons, inFlow, standsApart] at this ⊢
    rcases Bool.eq_false_or_eq_true (nodeAt l x).style.hidden with h1 | h1 <;> rcases Bool.eq_false_or_eq_true (nodeAt l x).style.apart with h2 | h2 <;> simp [h1, h2] <;> omega
/-- Is a node, or one above it, hidden? By fuel. -/
def goneF (l : List Node) : Nat → Int → Bool
  | 0, _ => false
  | f + 1, n => if n = 0 then false else if (nodeAt l n).style.hidden then true else goneF l f (nodeAt l n).up
def rootF (l : List Node) : Nat → Int → Int
  | 0, n => n
  | f + 1, n => if (nodeAt l n).up = 0 then n else rootF l f (nodeAt l n).up
def goneW (l : List Node) (n : Int) : Bool := if treeOk l && inB n 1 l.length then goneF l 5 n else true
def rootW (l : List Node) (n : Int) : Int := if treeOk l && inB n 1 l.length then rootF l 4 n else 0
/-- Where a walk up stands. -/
def UpG (l : List Node) (f : Nat) (m : Int) : Prop := m = 0 ∨ (inB m 1 l.length = true ∧ dep l m < (f : Int))
theorem up_dep {l : List Node} (hv : treeOk l = true) {m : Int} (h : inB m 1 l.length = true) (h0 : (nodeAt l m).up ≠ 0) : inB (nodeAt l m).up 1 l.length = true ∧ dep l (nodeAt l m).up + 1 = dep l m := by
  have h1 := ((ok_deep hv).next m h h0).1
  obtain ⟨k, x, rfl, hk, hx, hnx⟩ := node_get h
  rw [hnx] at h0 h1 ⊢
  have h2 := (ok_node hv hx).2.1
  exact ⟨h1, (dep_up hx h0 (by omega)).symm⟩
theorem UpG.next {l : List Node} (hv : treeOk l = true) {f : Nat} {m : Int} (h : UpG l (f + 1) m) (h0 : m ≠ 0) : UpG l f (nodeAt l m).up := by
  rcases h with h | ⟨h1, h2⟩
  · exact (h0 h).elim
  · by_cases hu : (nodeAt l m).up = 0
    · exact .inl hu
    · obtain ⟨q1, q2⟩ := up_dep hv h1 hu
      exact .inr ⟨q1, by omega⟩
theorem goneF_step {l : List Node} {f : Nat} {m : Int} (h0 : m ≠ 0) : goneF l (f + 1) m = if (nodeAt l m).style.hidden then true else goneF l f (nodeAt l m).up := by
  rw [goneF, if_neg h0]
theorem goneF_zero {l : List Node} {f : Nat} : goneF l f 0 = false := by cases f <;> simp [goneF]
theorem rootF_pos {l : List Node} (hv : treeOk l = true) : ∀ (f : Nat) (m : Int), inB m 1 l.length = true → 0 < rootF l f m
  | 0, m, h => by obtain ⟨k, rfl, _⟩ := inB_node h; unfold rootF; omega
  | f + 1, m, h => by
    unfold rootF
    split
    · obtain ⟨k, rfl, _⟩ := inB_node h; omega
    · rename_i h0; exact rootF_pos hv f _ (up_dep hv h h0).1
end Go.Proofs.Ythffgbhphjkdeaa
namespace Go.Proofs.Ythffgbhphjkdeaa
open Go.RowKit
set_option linter.unusedVariables false
set_option linter.unusedSimpArgs false

theorem first_row {l : List Node} (xs : List Int) : sorted l (xs.take 1) ++ xs.drop 1 = xs := by
  cases xs <;> simp [sorted, insK, posK]
/-- A row in which x has been led down to place j. -/
def rowAt (pre : List Int) (x : Int) (rest : List Int) (j : Nat) : List Int := pre.take j ++ x :: (pre.drop j ++ rest)
theorem rowAt_len {pre rest : List Int} {x : Int} {j : Nat} (hj : j ≤ pre.length) : (rowAt pre x rest j).length = pre.length + 1 + rest.length := by
  simp [rowAt]; omega
theorem rowAt_mem {pre rest : List Int} {x y : Int} {j : Nat} (h : y ∈ rowAt pre x rest j) : y ∈ pre ∨ y = x ∨ y ∈ rest := by
  rcases List.mem_append.1 h with h | h
  · exact .inl (List.mem_of_mem_take h)
  · rcases List.mem_cons.1 h with h | h
    · exact .inr (.inl h)
    · rcases List.mem_append.1 h with h | h
      · exact .inl (List.mem_of_mem_drop h)
      · exact .inr (.inr h)
theorem rowAt_x {pre rest : List Int} {x : Int} {j : Nat} (hj : j ≤ pre.length) : (rowAt pre x rest j)[j]? = some x := by
  rw [rowAt, List.getElem?_append_right (by simp; omega)]
  simp [Nat.min_eq_left hj]
theorem rowAt_prev {pre rest : List Int} {x : Int} {j : Nat} (hj : j + 1 ≤ pre.length) : (rowAt pre x rest (j + 1))[j]? = some ((pre[j]?).getD 0) := by
  rw [rowAt, List.getElem?_append_left (by simp; omega), List.getElem?_take, if_pos (by omega), List.getElem?_eq_getElem (by omega)]
  rfl
theorem rowAt_swap {pre rest : List Int} {x : Int} {j : Nat} (hj : j + 1 ≤ pre.length) : swapL (rowAt pre x rest (j + 1)) (j + 1) j = rowAt pre x rest j := by
  have hlt : j < pre.length := by omega
  obtain ⟨A, y, B, rfl, rfl⟩ : ∃ A y B, pre = A ++ y :: B ∧ A.length = j := ⟨pre.take j, pre[j], pre.drop (j + 1), by rw [List.getElem_cons_drop, List.take_append_drop], by simp; omega⟩
  have e1 : (A ++ y :: B).take (A.length + 1) = A ++ [y] := by rw [List.take_append, List.take_of_length_le (by omega)]; simp
  have e2 : (A ++ y :: B).drop (A.length + 1) = B := by rw [List.drop_append]; simp
  have e3 : (A ++ y :: B).take A.length = A := by simp
  have e4 : (A ++ y :: B).drop A.length = y :: B := by simp
  unfold rowAt swapL
  rw [e1, e2, e3, e4]
  simp [List.set_append, List.getElem?_append]
theorem rowAt_full {pre rest : List Int} {x : Int} : rowAt pre x rest pre.length = pre ++ x :: rest := by simp [rowAt]
theorem rowAt_ins {l : List Node} {pre rest : List Int} {x : Int} : rowAt pre x rest (posK l pre x pre.length) = insK l pre x ++ rest := by
  unfold rowAt insK
  simp
instance : TOne Try.prog 155 := ⟨⟨_, Try.underlying155, rfl⟩, by kernel_rfl⟩
instance : TOne Try.prog 191 := ⟨⟨_, Try.underlying191, rfl⟩, by kernel_rfl⟩
instance : TFun Try.prog 169 := ⟨_, Try.func169, by kernel_rfl, by kernel_rfl⟩
instance : TFun Try.prog 145 := ⟨_, Try.func145, by kernel_rfl, by kernel_rfl⟩
/-- What is asked of 'less': in every world in which the row alone has turned, it tells which of two nodes comes ahead. -/
def LessK (l : List Node) (lb : List Value) (g : Nat) (spare : List Value) (xs : List Int) (w : World) : Prop :=
  ∀ (w' : World) (ys : List Int), Mod (fun k => k = g) w w' → w'.heap[g]? = some (.cells (ys.map (Value.int .i64) ++ spare).toArray 3 (0, 0)) → ys.length = xs.length → (∀ y ∈ ys, y ∈ xs) →
    ∀ (i j : Nat) (x y : Int), ys[i]? = some x → ys[j]? = some y → Calls Try.prog 129 ([Value.int .i64 (i : Int), .int .i64 (j : Int)] ++ lb).toArray w' fun e w'' => e = .returned (.bool (decide (ordAt l x < ordAt l y))) ∧ Mod (fun _ => False) w' w''
theorem LessK.mod {l : List Node} {lb : List Value} {g : Nat} {spare : List Value} {xs : List Int} {w w1 : World} (h : LessK l lb g spare xs w) (hm : Mod (fun k => k = g) w w1) : LessK l lb g spare xs w1 :=
  fun w' ys hm' => h w' ys (hm.then hm' fun _ _ e => e)
set_option maxRecDepth 100000 in
set_option maxHeartbeats 8000000 in
theorem insSort_any (l : List Node) (lb sb : List Value) (sf : FuncId) (gr : Nat) (spare : List Value) (xs : List Int) (w : World) (hlt : gr < w.heap.size) (hg : w.heap[gr]? = some (.cells (xs.map (Value.int .i64) ++ spare).toArray 3 (0, 0))) (hsz : xs.length ≤ 20)
    (hless : LessK l lb gr spare xs w) (hsw : SwapSwaps Try.prog sf sb.toArray (Value.int .i64) gr 0 xs.length) :
    Calls Try.prog 169 #[.agg #[.func (.func 129) #[] lb.toArray, .func (.func sf) #[] sb.toArray], .int .i64 0, .int .i64 (xs.length : Int)] w fun e w' => e = .returned (.tuple #[]) ∧ Mod (fun k => k = gr) w w' ∧ w'.heap[gr]? = some (.cells ((sorted l xs).map (Value.int .i64) ++ spare).toArray 3 (0, 0)) := by
  refine calls_sxL hg hlt Try.func169 rfl rfl (fun a h1 h2 h3 => (((Fr.nil h1 h2).arg (h3 2 _ rfl)).arg (h3 1 _ rfl)).arg (h3 0 _ rfl)) ?_
  repeat (first | refine qan ?_ | refine qaj ?_ | refine qaf ?_ | refine qad ?_ | refine SX.block ?_ | (refine qao ?_; (refine qac (qai rfl) rfl ?_ ?_ ?_); rfl; rfl) | (refine qal ?_; (refine qac (qag rfl) rfl ?_ ?_ ?_); rfl; rfl) | (refine l_add ?_; (refine qac (OpW.addi rfl rfl (by omega) (by omega)) rfl ?_ ?_ ?_); rfl; rfl) | (refine l_box ?_; refine qaG ?_ ?_ rfl rfl (fun g => ?_); rfl; rfl))
  refine SX.loop3 (fun (i : Nat) (_ _ : Unit) => 1 ≤ i) (fun i _ _ => xs.length - i) (fun i _ _ => [⟨g, [.func (.func 129) #[] lb.toArray, .func (.func sf) #[] sb.toArray], 195⟩, ⟨gr, (sorted l (xs.take i) ++ xs.drop i).map (Value.int .i64) ++ spare, 3⟩]) (fun _ _ _ => []) (fun _ _ _ => []) (fun i _ _ => [(1, .int .i64 0), (2, .int .i64 xs.length), (3, .pointer (some ⟨g, 0, none⟩)), (6, .int .i64 i)]) 1 () () (Nat.le_refl _) ?_ (fun w hl => by rw [first_row]; exact hl) ?_
  · (repeat (first | exact subF_nil _ | (refine subF_cons rfl ?_) | (refine subF_consv rfl (by rfl) ?_)))
  rintro i _ _ hi
  by_cases hix : i < xs.length
  rotate_left
  · repeat (first | refine qan ?_ | refine qaj ?_ | refine qaf ?_ | refine qad ?_ | refine qas rfl ?_ | (refine qao ?_; (refine qac (qai rfl) rfl ?_ ?_ ?_); rfl; rfl) | (refine l_lss ?_; (refine qac (OpW.lssF rfl rfl (by omega)) rfl ?_ ?_ ?_); rfl; rfl) | refine SX.exit ?_ | refine qaF ?_ | refine qaD ?_)
    refine SQ.body0n rfl (fun w' hl => ⟨rfl, hl.mod, ?_⟩)
    have h2 := (hl.blk _ (.tail _ (.head _))).2
    rw [List.take_of_length_le (by omega), List.drop_of_length_le (by omega), List.append_nil] at h2
    exact h2
  obtain ⟨x, hx⟩ : ∃ x, xs[i]? = some x := ⟨_, List.getElem?_eq_getElem hix⟩
  have hpl : (sorted l (xs.take i)).length = i := by rw [sorted_len, List.length_take]; omega
  have hrow : sorted l (xs.take i) ++ xs.drop i = rowAt (sorted l (xs.take i)) x (xs.drop (i + 1)) i := by
    have := rowAt_full (pre := sorted l (xs.take i)) (x := x) (rest := xs.drop (i + 1))
    rw [hpl] at this
    rw [this, List.drop_eq_getElem_cons hix]
    rw [List.getElem?_eq_getElem hix] at hx
    rw [Option.some.inj hx]
  have hnext : sorted l (xs.take (i + 1)) = insK l (sorted l (xs.take i)) x := by
    rw [List.take_add_one, hx]
    exact sorted_snoc _ _
  have hmem : ∀ j y, y ∈ rowAt (sorted l (xs.take i)) x (xs.drop (i + 1)) j → y ∈ xs := fun j y hy => by
    rcases rowAt_mem hy with h | rfl | h
    · exact List.mem_of_mem_take (sorted_mem h)
    · exact List.mem_of_getElem? hx
    · exact List.mem_of_mem_drop h
  have hlen : ∀ j, j ≤ i → (rowAt (sorted l (xs.take i)) x (xs.drop (i + 1)) j).length = xs.length := fun j hj => by
    rw [rowAt_len (by omega), hpl, List.length_drop]; omega
  rw [hrow]
  generalize sorted l (xs.take i) = pre at *
  generalize hrest : xs.drop (i + 1) = rest at *
  repeat (first | refine qan ?_ | refine qaj ?_ | refine qaf ?_ | refine qad ?_ | refine SX.block ?_ | refine qaC ?_ | refine qaq rfl ?_ | (refine qao ?_; (refine qac (qai rfl) rfl ?_ ?_ ?_); rfl; rfl) | (refine qal ?_; (refine qac (qag rfl) rfl ?_ ?_ ?_); rfl; rfl) | (refine l_lss ?_; (refine qac (OpW.lssT rfl rfl (by omega)) rfl ?_ ?_ ?_); rfl; rfl))
  refine SX.loop3 (fun (j : Nat) (_ _ : Unit) => j ≤ i ∧ posK l pre x j = posK l pre x i) (fun j _ _ => j) (fun j _ _ => [⟨g, [.func (.func 129) #[] lb.toArray, .func (.func sf) #[] sb.toArray], 195⟩, ⟨gr, (rowAt pre x rest j).map (Value.int .i64) ++ spare, 3⟩]) (fun _ _ _ => []) (fun _ _ _ => []) (fun j _ _ => [(1, .int .i64 0), (2, .int .i64 xs.length), (3, .pointer (some ⟨g, 0, none⟩)), (6, .int .i64 i), (7, .int .i64 j)]) i () () ⟨Nat.le_refl _, rfl⟩ ?_ (fun w hl => hl) ?_
  · (repeat (first | exact subF_nil _ | (refine subF_cons rfl ?_) | (refine subF_consv rfl (by rfl) ?_)))
  rintro j _ _ ⟨hj, hp⟩
  have hdone : ∀ j', posK l pre x j' = j' → posK l pre x j' = posK l pre x i → rowAt pre x rest j' = sorted l (xs.take (i + 1)) ++ xs.drop (i + 1) := fun j' h1 h2 => by
    rw [hnext, hrest, ← rowAt_ins, hpl, ← h2, h1]
  cases j with
  | zero =>
    have hd := hdone 0 rfl hp
    repeat (first | refine qan ?_ | refine qaj ?_ | refine qaf ?_ | refine qad ?_ | refine qas rfl ?_ | (refine qaS rfl rfl rfl ?_) | (refine qao ?_; (refine qac (qai rfl) rfl ?_ ?_ ?_); rfl; rfl) | (refine qal ?_; (refine qac (qag rfl) rfl ?_ ?_ ?_); rfl; rfl) | (refine l_add ?_; (refine qac (OpW.succ rfl rfl (by omega)) rfl ?_ ?_ ?_); rfl; rfl) | (refine l_gtr ?_; (refine qac (OpW.gtrF rfl rfl (by omega)) rfl ?_ ?_ ?_); rfl; rfl) | (refine qaE ?_; (refine qac (qav rfl rfl rfl) rfl ?_ ?_ ?_); rfl; rfl) | refine SX.exit ?_ | refine qaF ?_ | refine qar ?_ | refine qaD ?_)
    refine SQ.round3 (i + 1) () () (by omega) (by omega) ?_ (fun w hl => by rw [← hd]; exact hl)
    (repeat (first | exact subF_nil _ | (refine subF_cons rfl ?_) | (refine subF_consv rfl (by rfl) ?_)))
  | succ j =>
    have hL := fun w' (hm : Mod (fun k => k = gr) w w') (hb : w'.heap[gr]? = some (.cells ((rowAt pre x rest (j + 1)).map (Value.int .i64) ++ spare).toArray 3 (0, 0))) => hless w' _ hm hb (hlen (j + 1) hj) (hmem (j + 1)) (j + 1) j x _ (rowAt_x (by omega)) (rowAt_prev (by omega))
    by_cases hc : ordAt l x < ordAt l ((pre[j]?).getD 0)
    · have hp' : posK l pre x (j + 1) = posK l pre x j := by rw [posK, if_pos hc]
      rw [decide_eq_true hc] at hL
      repeat (first | refine qan ?_ | refine qaj ?_ | refine qaf ?_ | refine qad ?_ | refine SX.block ?_ | refine qaC ?_ | refine qaq rfl ?_ | (refine qau ?_; (refine qac (qaw 0 rfl rfl rfl) rfl ?_ ?_ ?_); rfl; rfl) | (refine l_callv ?_; (refine qac (OpW.callv (args := [.int .i64 ((j + 1 : Nat) : Int), .int .i64 (j : Int)]) rfl (congrArg (fun z : Int => some [Value.int .i64 ((j + 1 : Nat) : Int), Value.int .i64 z]) (by omega : ((j + 1 : Nat) : Int) - 1 = (j : Int))) (fun w' hl => hL w' hl.mod (hl.blk _ (.tail _ (.head _))).2)) rfl ?_ ?_ ?_); rfl; rfl) | (refine qak ?_; (refine qac (qae rfl) rfl ?_ ?_ ?_); rfl; rfl) | (refine qao ?_; (refine qac (qai rfl) rfl ?_ ?_ ?_); rfl; rfl) | (refine l_gtr ?_; (refine qac (OpW.gtrT rfl rfl (by omega)) rfl ?_ ?_ ?_); rfl; rfl) | (refine l_sub ?_; (refine qac (OpW.subi rfl rfl (by omega) (by omega)) rfl ?_ ?_ ?_); rfl; rfl) | (refine qaE ?_; (refine qac (qav rfl rfl rfl) rfl ?_ ?_ ?_); rfl; rfl))
      refine l_callv ?_
      refine SXl.swapv (i := j + 1) (j := j) 1 rfl (by rw [hlen (j + 1) hj]; exact hsw) rfl rfl rfl (congrArg (fun z : Int => some [Value.int .i64 ((j + 1 : Nat) : Int), Value.int .i64 z]) (by omega : ((j + 1 : Nat) : Int) - 1 = (j : Int))) (by rw [hlen (j + 1) hj]; omega) (by rw [hlen (j + 1) hj]; omega) rfl ?_
      rw [rowAt_swap (by omega)]
      simp only [List.set_cons_zero, List.set_cons_succ]
      repeat (first | refine qaj ?_ | refine qaf ?_ | refine qad ?_ | (refine qao ?_; (refine qac (qai rfl) rfl ?_ ?_ ?_); rfl; rfl) | (refine qal ?_; (refine qac (qag rfl) rfl ?_ ?_ ?_); rfl; rfl) | (refine l_sub ?_; (refine qac (OpW.subi rfl rfl (by omega) (by omega)) rfl ?_ ?_ ?_); rfl; rfl) | refine qar ?_)
      refine SQ.round3 j () () ⟨by omega, by rw [← hp']; exact hp⟩ (Nat.lt_succ_self _) ?_ (fun w hl => hl)
      (repeat (first | exact subF_nil _ | (refine subF_cons rfl ?_) | (refine subF_consv rfl (by exact congrArg _ (by omega)) ?_)))
    · have hp' : posK l pre x (j + 1) = j + 1 := by rw [posK, if_neg hc]
      have hd := hdone (j + 1) hp' hp
      rw [decide_eq_false hc] at hL
      repeat (first | refine qan ?_ | refine qaj ?_ | refine qaf ?_ | refine qad ?_ | refine qas rfl ?_ | (refine qau ?_; (refine qac (qaw 0 rfl rfl rfl) rfl ?_ ?_ ?_); rfl; rfl) | (refine l_callv ?_; (refine qac (OpW.callv (args := [.int .i64 ((j + 1 : Nat) : Int), .int .i64 (j : Int)]) rfl (congrArg (fun z : Int => some [Value.int .i64 ((j + 1 : Nat) : Int), Value.int .i64 z]) (by omega : ((j + 1 : Nat) : Int) - 1 = (j : Int))) (fun w' hl => hL w' hl.mod (hl.blk _ (.tail _ (.head _))).2)) rfl ?_ ?_ ?_); rfl; rfl) | (refine qak ?_; (refine qac (qae rfl) rfl ?_ ?_ ?_); rfl; rfl) | (refine qao ?_; (refine qac (qai rfl) rfl ?_ ?_ ?_); rfl; rfl) | (refine qal ?_; (refine qac (qag rfl) rfl ?_ ?_ ?_); rfl; rfl) | (refine l_add ?_; (refine qac (OpW.succ rfl rfl (by omega)) rfl ?_ ?_ ?_); rfl; rfl) | (refine l_gtr ?_; (refine qac (OpW.gtrT rfl rfl (by omega)) rfl ?_ ?_ ?_); rfl; rfl) | (refine l_sub ?_; (refine qac (OpW.subi rfl rfl (by omega) (by omega)) rfl ?_ ?_ ?_); rfl; rfl) | (refine qaE ?_; (refine qac (qav rfl rfl rfl) rfl ?_ ?_ ?_); rfl; rfl) | refine SX.exit ?_ | refine qaF ?_ | refine qar ?_ | refine qaD ?_)
      refine SQ.round3 (i + 1) () () (by omega) (by omega) ?_ (fun w hl => by rw [← hd]; exact hl)
      (repeat (first | exact subF_nil _ | (refine subF_cons rfl ?_) | (refine subF_consv rfl (by rfl) ?_)))
end Go.Proofs.Ythffgbhphjkdeaa
namespace Go.Proofs.Ythffgbhphjkdeaa
open Go.RowKit Go.Shelf Go.Lib Go.Sort
set_option linter.unusedVariables false
set_option linter.unusedSimpArgs false

set_option maxRecDepth 100000 in
set_option maxHeartbeats 8000000 in
theorem stable_any (l : List Node) (lb sb : List Value) (sf : FuncId) (gr : Nat) (spare : List Value) (xs : List Int) (w : World) (hlt : gr < w.heap.size) (hg : w.heap[gr]? = some (.cells (xs.map (Value.int .i64) ++ spare).toArray 3 (0, 0))) (hsz : xs.length < 20)
    (hless : LessK l lb gr spare xs w) (hsw : SwapSwaps Try.prog sf sb.toArray (Value.int .i64) gr 0 xs.length) :
    Calls Try.prog 145 #[.agg #[.func (.func 129) #[] lb.toArray, .func (.func sf) #[] sb.toArray], .int .i64 (xs.length : Int)] w fun e w' => e = .returned (.tuple #[]) ∧ Mod (fun k => k = gr) w w' ∧ w'.heap[gr]? = some (.cells ((sorted l xs).map (Value.int .i64) ++ spare).toArray 3 (0, 0)) := by
  refine calls_sxL hg hlt Try.func145 rfl rfl (fun a h1 h2 h3 => ((Fr.nil h1 h2).arg (h3 1 _ rfl)).arg (h3 0 _ rfl)) ?_
  repeat (first | refine qan ?_ | refine qaj ?_ | refine qaf ?_ | refine qad ?_ | refine SX.block ?_ | (refine qao ?_; (refine qac (qai rfl) rfl ?_ ?_ ?_); rfl; rfl) | (refine qal ?_; (refine qac (qag rfl) rfl ?_ ?_ ?_); rfl; rfl) | (refine l_box ?_; refine qaG ?_ ?_ rfl rfl (fun g => ?_); rfl; rfl))
  refine SX.loop3 (fun (_ _ _ : Unit) => True) (fun _ _ _ => 0) (fun _ _ _ => [⟨g, [.func (.func 129) #[] lb.toArray, .func (.func sf) #[] sb.toArray], 195⟩, ⟨gr, xs.map (Value.int .i64) ++ spare, 3⟩]) (fun _ _ _ => []) (fun _ _ _ => []) (fun _ _ _ => [(1, .int .i64 xs.length), (2, .pointer (some ⟨g, 0, none⟩)), (4, .int .i64 20), (5, .int .i64 0), (6, .int .i64 20)]) () () () trivial ?_ (fun w hl => hl) ?_
  · (repeat (first | exact subF_nil _ | (refine subF_cons rfl ?_) | (refine subF_consv rfl (by rfl) ?_)))
  rintro _ _ _ _
  repeat (first | refine qan ?_ | refine qaj ?_ | refine qaf ?_ | refine qad ?_ | refine qas rfl ?_ | (refine qau ?_; (refine qac (qam 0 rfl rfl rfl) rfl ?_ ?_ ?_); rfl; rfl) | (refine qao ?_; (refine qac (qai rfl) rfl ?_ ?_ ?_); rfl; rfl) | (refine l_leq ?_; (refine qac (OpW.leqF rfl rfl (by omega)) rfl ?_ ?_ ?_); rfl; rfl) | refine SX.exit ?_ | refine qaF ?_ | refine qaD ?_)
  refine qat ?_
  refine SXl.callL (cells' := (sorted l xs).map (Value.int .i64) ++ spare) 1 rfl rfl rfl rfl (fun w' hl => insSort_any l lb sb sf gr spare xs w' (Nat.lt_of_lt_of_le hlt hl.mod.size) (hl.blk _ (.tail _ (.head _))).2 (by omega) (hless.mod hl.mod) hsw) rfl ?_
  simp only [List.set_cons_zero, List.set_cons_succ]
  repeat (first | refine qaj ?_ | refine qad ?_ | refine SX.block ?_)
  refine SX.loop3 (fun (_ _ _ : Unit) => True) (fun _ _ _ => 0) (fun _ _ _ => [⟨g, [.func (.func 129) #[] lb.toArray, .func (.func sf) #[] sb.toArray], 195⟩, ⟨gr, (sorted l xs).map (Value.int .i64) ++ spare, 3⟩]) (fun _ _ _ => []) (fun _ _ _ => []) (fun _ _ _ => [(1, .int .i64 xs.length), (2, .pointer (some ⟨g, 0, none⟩)), (4, .int .i64 20)]) () () () trivial ?_ (fun w hl => hl) ?_
  · (repeat (first | exact subF_nil _ | (refine subF_cons rfl ?_) | (refine subF_consv rfl (by rfl) ?_)))
  rintro _ _ _ _
  repeat (first | refine qan ?_ | refine qaj ?_ | refine qaf ?_ | refine qad ?_ | refine qas rfl ?_ | (refine qao ?_; (refine qac (qai rfl) rfl ?_ ?_ ?_); rfl; rfl) | (refine l_lss ?_; (refine qac (OpW.lssF rfl rfl (by omega)) rfl ?_ ?_ ?_); rfl; rfl) | refine SX.exit ?_ | refine qaF ?_ | refine qaD ?_)
  refine SQ.body0n rfl (fun w' hl => ⟨rfl, hl.mod, (hl.blk _ (.tail _ (.head _))).2⟩)
instance : TFun Try.prog 128 := ⟨_, Try.func128, by kernel_rfl, by kernel_rfl⟩
noncomputable def siT : TypeInfo := (Try.prog.info? 84).get (by kernel_rfl)
noncomputable def siE : TypeInfo := (Try.prog.info? 3).get (by kernel_rfl)
theorem siK (n : Nat) (h2 : 2 ≤ n) : Go.Lib.swapperK n siE 2 = 5 := by
  have a : siE.hasPointers = false := by kernel_rfl
  have b : siE.bytes = 8 := by kernel_rfl
  have c : (n == 0) = false := by simp; omega
  have d : (n == 1) = false := by simp; omega
  simp [Go.Lib.swapperK, a, b, c, d]
theorem siK1 (n : Nat) (h1 : n ≤ 1) : Go.Lib.swapperK n siE 2 = n + 1 := by
  rcases Nat.eq_zero_or_pos n with h | h
  · subst h; simp [Go.Lib.swapperK]
  · obtain rfl : n = 1 := by omega
    simp [Go.Lib.swapperK]
set_option maxRecDepth 100000 in
set_option maxHeartbeats 8000000 in
theorem sliceStable_any (l : List Node) (lb : List Value) (gr c : Nat) (spare : List Value) (xs : List Int) (w : World) (hlt : gr < w.heap.size) (hg : w.heap[gr]? = some (.cells (xs.map (Value.int .i64) ++ spare).toArray 3 (0, 0))) (h2 : 2 ≤ xs.length) (hsz : xs.length < 20) (hless : LessK l lb gr spare xs w) :
    Calls Try.prog 128 #[.iface 84 (.slice (some ⟨gr, 0, none⟩) xs.length c), .func (.func 129) #[] lb.toArray] w fun e w' => e = .returned (.tuple #[]) ∧ Mod (fun k => k = gr) w w' ∧ w'.heap[gr]? = some (.cells ((sorted l xs).map (Value.int .i64) ++ spare).toArray 3 (0, 0)) := by
  have hx : ∀ args W, (callFunc 164 args).run Try.prog W = ((Extern.ReflectliteSwapper.swap true args).run Try.prog W).andThen fun v w' => .ok (.value v) w' :=
    fun args W => run_callFunc_extern Try.func164 (by kernel_rfl) (by kernel_rfl) (by kernel_rfl) (e := Extern.ReflectliteSwapper.swap true) (by kernel_rfl) args W
  have hsw := swapSwaps_of_literal (P := Try.prog) true 164 hx 3 siE (by kernel_rfl) (by kernel_rfl) (fun _ => by kernel_rfl) (Value.int .i64) (fun _ => rfl) gr 0 xs.length c
  have hB : sliceBound Try.prog 3 siE 2 (some ⟨gr, 0, none⟩) xs.length c = #[.slice (some ⟨gr, 0, none⟩) xs.length c, typeHandle Try.prog 3] := by
    unfold sliceBound; rw [if_neg (swapperK_gt _ _ _ h2)]
  have hW : Mod (fun _ => False) w (stableWorld Try.prog Try.laysGt8_ren 84 (some ⟨gr, 0, none⟩) xs.length c w) := ((Mod.refl _ w).alloc _).alloc _
  have hp := stable_any l lb [.slice (some ⟨gr, 0, none⟩) xs.length c, typeHandle Try.prog 3] 164 gr spare xs _ (Nat.lt_of_lt_of_le hlt hW.size) (hW.blk hg (fun h => h)) hsz (hless.mod (hW.mono fun _ _ h => h.elim)) hsw
  rw [← hB] at hp
  refine (Any.sort_SliceStable_of_stable Try.laysGt8 84 3 siT siE (by kernel_rfl) (by kernel_rfl) (by kernel_rfl) (by kernel_rfl) 2 (fun _ => by kernel_rfl) (some ⟨gr, 0, none⟩) xs.length c (by omega) 164 (by rw [siK _ h2]; kernel_rfl) (.func 129) #[] lb.toArray w _ hp).mono ?_
  rintro e w' ⟨rfl, hm, hr⟩
  exact ⟨rfl, (hW.mono fun _ _ h => h.elim).then hm (fun _ _ e => e), hr⟩
set_option maxRecDepth 100000 in
set_option maxHeartbeats 8000000 in
theorem sliceTiny_any (lb : List Value) (p : Option Addr) (n c : Nat) (w : World) (h1 : n ≤ 1) :
    Calls Try.prog 128 #[.iface 84 (.slice p n c), .func (.func 129) #[] lb.toArray] w fun e w' => e = .returned (.tuple #[]) ∧ Mod (fun _ => False) w w' := by
  have hf : ∃ f, Try.prog.funcs.findIdx? (·.name == "internal/reflectlite" ++ ".Swapper$" ++ toString (swapperK n siE 2)) = some f := by
    rw [siK1 n h1]
    rcases Nat.eq_zero_or_pos n with h | h
    · subst h; exact ⟨160, by kernel_rfl⟩
    · obtain rfl : n = 1 := by omega
      exact ⟨161, by kernel_rfl⟩
  obtain ⟨f, hf⟩ := hf
  refine (Any.sort_SliceStable_tiny Try.laysGt8 84 3 siT siE (by kernel_rfl) (by kernel_rfl) (by kernel_rfl) (by kernel_rfl) 2 (fun _ => by kernel_rfl) p n c h1 f hf (.func 129) #[] lb.toArray w).mono ?_
  rintro e w' ⟨rfl, os, rfl⟩
  exact ⟨rfl, ⟨rfl, rfl, rfl, by rw [size_grow]; omega, fun k hk _ => by simp [grow, Array.getElem?_append_left hk]⟩⟩
end Go.Proofs.Ythffgbhphjkdeaa
namespace Go.Proofs.Ythffgbhphjkdeaa
open Go.RowKit
set_option linter.unusedVariables false
set_option linter.unusedSimpArgs false

set_option maxRecDepth 100000 in
set_option maxHeartbeats 16000000 in
theorem treeOk_any (l : List Node) (o : Bool) (a : Option Addr) (c : Nat) (R : Nat → Prop) (w : World) (hlen : l.length ≤ 1048576) (hfit : ∀ x ∈ l, x.fits 1048576) (h : NodeSlice o R w a l) :
    Calls Try.prog 22 #[.agg #[.slice a l.length c]] w fun e w' => e = .returned (.bool (treeOk l)) ∧ Mod (fun _ => False) w w' := by
  refine calls_sx Try.func22 rfl rfl (fun a h1 h2 h3 => ((Fr.nil h1 h2).arg (h3 0 _ rfl))) ?_
  by_cases hn : l.length ≤ 12
  rotate_left
  · repeat (first | refine qan ?_ | refine qaj ?_ | refine qaf ?_ | refine qad ?_ | refine qaq rfl ?_ | (refine qau ?_; (refine qac (qaw 0 rfl rfl rfl) rfl ?_ ?_ ?_); rfl; rfl) | (refine qak ?_; (refine qac (qae rfl) rfl ?_ ?_ ?_); rfl; rfl) | (refine qal ?_; (refine qac (qag rfl) rfl ?_ ?_ ?_); rfl; rfl) | (refine l_len ?_; (refine qac (OpW.len rfl) rfl ?_ ?_ ?_); rfl; rfl) | (refine l_gtr ?_; (refine qac (OpW.gtrT rfl rfl (by omega)) rfl ?_ ?_ ?_); rfl; rfl) | (refine l_box ?_; refine qaG ?_ ?_ rfl rfl (fun g => ?_); rfl; rfl) | refine qaA ?_ | refine qax ?_)
    refine qaz rfl rfl (fun w' hl => ⟨by rw [treeOk_long hn], hl.mod⟩)
  repeat (first | refine qan ?_ | refine qaj ?_ | refine qaf ?_ | refine qad ?_ | refine SX.block ?_ | refine qaC ?_ | refine qas rfl ?_ | (refine qau ?_; (refine qac (qaw 0 rfl rfl rfl) rfl ?_ ?_ ?_); rfl; rfl) | (refine qak ?_; (refine qac (qae rfl) rfl ?_ ?_ ?_); rfl; rfl) | (refine qao ?_; (refine qac (qai rfl) rfl ?_ ?_ ?_); rfl; rfl) | (refine qal ?_; (refine qac (qag rfl) rfl ?_ ?_ ?_); rfl; rfl) | (refine l_len ?_; (refine qac (OpW.len rfl) rfl ?_ ?_ ?_); rfl; rfl) | (refine l_gtr ?_; (refine qac (OpW.gtrF rfl rfl (by omega)) rfl ?_ ?_ ?_); rfl; rfl) | (refine l_box ?_; refine qaG ?_ ?_ rfl rfl (fun g => ?_); rfl; rfl))
  revert g; intro gt
  refine SX.loopi (fun k : Nat => k ≤ l.length ∧ ∀ i x, i < k → l[i]? = some x → nodeOk l i x = true) (fun k => l.length - k) (fun _ => [⟨gt, [.slice a l.length c], 37⟩]) (fun _ => []) (fun _ => []) (fun k => [(1, .pointer (some ⟨gt, 0, none⟩)), (16, .slice a l.length c), (17, .int .i64 l.length), (18, .int .i64 k)]) 0 ⟨Nat.zero_le _, fun i x h => absurd h (Nat.not_lt_zero _)⟩ ?_ (fun _ hl => hl) ?_
  · (repeat (first | exact subF_nil _ | (refine subF_cons rfl ?_) | (refine subF_consv rfl (by rfl) ?_)))
  rintro k ⟨hk, hs⟩
  by_cases hlt : k < l.length
  rotate_left
  · repeat (first | refine qan ?_ | refine qaj ?_ | refine qaf ?_ | refine qad ?_ | refine qas rfl ?_ | (refine qal ?_; (refine qac (qag rfl) rfl ?_ ?_ ?_); rfl; rfl) | (refine l_lss ?_; (refine qac (OpW.lssF rfl rfl (by omega)) rfl ?_ ?_ ?_); rfl; rfl) | refine qaA ?_ | refine SX.exit ?_ | refine qaF ?_ | refine qaD ?_)
    refine qaz rfl rfl (fun w' hl => ⟨by rw [treeOk_all hn hs (by omega)], hl.mod⟩)
  obtain ⟨b1, o1, ⟨up, kids, st, me, ru⟩, r1, rfl, hR1, hb1, hxk, hr1, hl1, hc1⟩ := h.get hlt
  obtain ⟨ka, kc, ra, rc, rfl, hk1, ht1, _⟩ := hr1
  replace hxk := hxk.out
  have hfx := hfit _ (List.mem_of_getElem? hxk)
  have hf1 : kids.length ≤ 1048576 := hfx.1
  have hf2 : ru.length ≤ 1048576 := hfx.2
  clear hfx
  simp only at hc1 hk1 ht1
  cases q1 : styleOk st
  · have hv := nodeOk_s (l := l) (i := k) (x := ⟨up, kids, st, me, ru⟩) q1
    repeat (first | refine qan ?_ | refine qaj ?_ | refine qaf ?_ | refine qad ?_ | refine SX.block ?_ | refine qaC ?_ | refine qaq rfl ?_ | (refine qaS rfl rfl rfl ?_) | (refine qau ?_; (first | refine qac (OpW.loadRowOld rfl hc1 (nodeRow_len _ _ _ _ _ _ _ _ _) (Nat.succ_pos _) (fun h => h)) rfl ?_ ?_ ?_ | refine qac (qaI (cells := nodeRow up ka kids.length kc st me ra ru.length rc) 0 rfl rfl rfl (nodeRow_style _ _ _ _ _ _ _ _ _)) rfl ?_ ?_ ?_ | refine qac (qam 1 rfl rfl rfl) rfl ?_ ?_ ?_); rfl; rfl) | (refine qat ?_; (refine qac (qap rfl (fun w hl => styleC_any _ _)) rfl ?_ ?_ ?_); rfl; rfl) | (refine qak ?_; (refine qac (qae rfl) rfl ?_ ?_ ?_); rfl; rfl) | (refine qao ?_; (refine qac (qai rfl) rfl ?_ ?_ ?_); rfl; rfl) | (refine qal ?_; (refine qac (qag rfl) rfl ?_ ?_ ?_); rfl; rfl) | (refine l_add ?_; (refine qac (OpW.succ rfl rfl (by omega)) rfl ?_ ?_ ?_); rfl; rfl) | (refine l_lss ?_; (refine qac (OpW.lssT rfl rfl (by omega)) rfl ?_ ?_ ?_); rfl; rfl) | (refine qaT ?_; (refine qac (OpW.not rfl) rfl ?_ ?_ ?_); rfl; rfl) | (refine qaE ?_; (refine qac (qav rfl rfl rfl) rfl ?_ ?_ ?_); rfl; rfl) | (refine qaM ?_; (refine qac (qaJ (by omega) rfl rfl) rfl ?_ ?_ ?_); rfl; rfl) | (refine qaR ?_; refine SXl.alloc ?_ ?_ (fun g => ?_); rfl; rfl) | (refine qay ?_; first | ((first | refine qaa 0 ?_ rfl rfl rfl rfl rfl rfl rfl ?_ | refine qaa 1 ?_ rfl rfl rfl rfl rfl rfl rfl ?_ | refine qaa 2 ?_ rfl rfl rfl rfl rfl rfl rfl ?_); rfl; simp only [List.set_cons_zero, List.set_cons_succ]) | ((first | refine qab 0 ?_ rfl rfl rfl rfl rfl rfl rfl ?_ | refine qab 1 ?_ rfl rfl rfl rfl rfl rfl rfl ?_ | refine qab 2 ?_ rfl rfl rfl rfl rfl rfl rfl ?_); rfl; simp only [over, List.set_cons_zero, List.set_cons_succ])) | (rw [q1]) | refine qaA ?_ | refine qax ?_ | refine qaH ?_)
    refine qaz rfl rfl (fun w' hl => ⟨by rw [treeOk_no hxk (hv)], hl.mod⟩)
  cases q2 : inB (depthF l (l.length + 1) ((k + 1 : Nat) : Int) (0 : Nat)) 1 4
  · have hv := nodeOk_d (x := ⟨up, kids, st, me, ru⟩) q2
    repeat (first | refine qan ?_ | refine qaj ?_ | refine qaf ?_ | refine qad ?_ | refine SX.block ?_ | refine qaC ?_ | refine qaq rfl ?_ | (refine qau ?_; (first | refine qac (OpW.loadRowOld rfl hc1 (nodeRow_len _ _ _ _ _ _ _ _ _) (Nat.succ_pos _) (fun h => h)) rfl ?_ ?_ ?_ | refine qac (qaI (cells := nodeRow up ka kids.length kc st me ra ru.length rc) 0 rfl rfl rfl (nodeRow_style _ _ _ _ _ _ _ _ _)) rfl ?_ ?_ ?_ | refine qac (qam 1 rfl rfl rfl) rfl ?_ ?_ ?_); rfl; rfl) | (refine qat ?_; (first | refine qac (qap rfl (fun w hl => styleC_any _ _)) rfl ?_ ?_ ?_ | refine qac (qap rfl (fun w hl => depthOf_any l _ o _ c R _ (by omega) (h.keep hl.mod))) rfl ?_ ?_ ?_ | refine qac (qaL rfl (fun w _ => in_any _ _ _ _)) rfl ?_ ?_ ?_); rfl; rfl) | (refine qak ?_; (refine qac (qae rfl) rfl ?_ ?_ ?_); rfl; rfl) | (refine qao ?_; (refine qac (qai rfl) rfl ?_ ?_ ?_); rfl; rfl) | (refine qal ?_; (refine qac (qag rfl) rfl ?_ ?_ ?_); rfl; rfl) | (refine l_add ?_; (refine qac (OpW.succ rfl rfl (by omega)) rfl ?_ ?_ ?_); rfl; rfl) | (refine l_lss ?_; (refine qac (OpW.lssT rfl rfl (by omega)) rfl ?_ ?_ ?_); rfl; rfl) | (refine qaT ?_; (refine qac (OpW.not rfl) rfl ?_ ?_ ?_); rfl; rfl) | (refine qaE ?_; (refine qac (qav rfl rfl rfl) rfl ?_ ?_ ?_); rfl; rfl) | (refine qaM ?_; (refine qac (qaJ (by omega) rfl rfl) rfl ?_ ?_ ?_); rfl; rfl) | (refine qaR ?_; refine SXl.alloc ?_ ?_ (fun g => ?_); rfl; rfl) | (refine qay ?_; first | ((first | refine qaa 0 ?_ rfl rfl rfl rfl rfl rfl rfl ?_ | refine qaa 1 ?_ rfl rfl rfl rfl rfl rfl rfl ?_ | refine qaa 2 ?_ rfl rfl rfl rfl rfl rfl rfl ?_); rfl; simp only [List.set_cons_zero, List.set_cons_succ]) | ((first | refine qab 0 ?_ rfl rfl rfl rfl rfl rfl rfl ?_ | refine qab 1 ?_ rfl rfl rfl rfl rfl rfl rfl ?_ | refine qab 2 ?_ rfl rfl rfl rfl rfl rfl rfl ?_); rfl; simp only [over, List.set_cons_zero, List.set_cons_succ])) | ((first | rw [q1] | rw [q2])) | refine qaA ?_ | refine qax ?_ | refine qaH ?_)
    refine qaz rfl rfl (fun w' hl => ⟨by rw [treeOk_no hxk (hv)], hl.mod⟩)
  repeat (first | refine qan ?_ | refine qaj ?_ | refine qaf ?_ | refine qad ?_ | refine SX.block ?_ | refine qaC ?_ | refine qaq rfl ?_ | refine qas rfl ?_ | (refine qau ?_; (first | refine qac (OpW.loadRowOld rfl hc1 (nodeRow_len _ _ _ _ _ _ _ _ _) (Nat.succ_pos _) (fun h => h)) rfl ?_ ?_ ?_ | refine qac (qaI (cells := nodeRow up ka kids.length kc st me ra ru.length rc) 0 rfl rfl rfl (nodeRow_style _ _ _ _ _ _ _ _ _)) rfl ?_ ?_ ?_ | refine qac (qaw 0 rfl rfl rfl) rfl ?_ ?_ ?_ | refine qac (qam 1 rfl rfl rfl) rfl ?_ ?_ ?_); rfl; rfl) | (refine qat ?_; (first | refine qac (qap rfl (fun w hl => styleC_any _ _)) rfl ?_ ?_ ?_ | refine qac (qap rfl (fun w hl => depthOf_any l _ o _ c R _ (by omega) (h.keep hl.mod))) rfl ?_ ?_ ?_ | refine qac (qaL rfl (fun w _ => in_any _ _ _ _)) rfl ?_ ?_ ?_); rfl; rfl) | (refine qak ?_; (refine qac (qae rfl) rfl ?_ ?_ ?_); rfl; rfl) | (refine qao ?_; (refine qac (qai rfl) rfl ?_ ?_ ?_); rfl; rfl) | (refine qal ?_; (refine qac (qag rfl) rfl ?_ ?_ ?_); rfl; rfl) | (refine l_len ?_; (refine qac (OpW.len rfl) rfl ?_ ?_ ?_); rfl; rfl) | (refine l_add ?_; (refine qac (OpW.succ rfl rfl (by omega)) rfl ?_ ?_ ?_); rfl; rfl) | (refine l_lss ?_; (refine qac (OpW.lssT rfl rfl (by omega)) rfl ?_ ?_ ?_); rfl; rfl) | (refine qaT ?_; (refine qac (OpW.not rfl) rfl ?_ ?_ ?_); rfl; rfl) | (refine qaE ?_; (refine qac (qav rfl rfl rfl) rfl ?_ ?_ ?_); rfl; rfl) | (refine qaM ?_; (refine qac (qaJ (by omega) rfl rfl) rfl ?_ ?_ ?_); rfl; rfl) | (refine qaR ?_; refine SXl.alloc ?_ ?_ (fun g => ?_); rfl; rfl) | (refine qay ?_; first | ((first | refine qaa 0 ?_ rfl rfl rfl rfl rfl rfl rfl ?_ | refine qaa 1 ?_ rfl rfl rfl rfl rfl rfl rfl ?_ | refine qaa 2 ?_ rfl rfl rfl rfl rfl rfl rfl ?_); rfl; simp only [List.set_cons_zero, List.set_cons_succ]) | ((first | refine qab 0 ?_ rfl rfl rfl rfl rfl rfl rfl ?_ | refine qab 1 ?_ rfl rfl rfl rfl rfl rfl rfl ?_ | refine qab 2 ?_ rfl rfl rfl rfl rfl rfl rfl ?_); rfl; simp only [over, List.set_cons_zero, List.set_cons_succ])) | ((first | rw [q1] | rw [q2])))
  refine SX.loopi (fun j : Nat => j ≤ kids.length ∧ ∀ i y, i < j → kids[i]? = some y → kidOk l k y = true) (fun j => kids.length - j) (fun _ => [⟨g, nodeRow up ka kids.length kc st me ra ru.length rc, 86⟩, ⟨gt, [.slice (some ⟨b1, o1, none⟩) l.length c], 37⟩]) (fun _ => []) (fun _ => []) (fun j => [(1, .pointer (some ⟨gt, 0, none⟩)), (4, .pointer (some ⟨g, 0, none⟩)), (5, .int .i64 ((k + 1 : Nat) : Int)), (16, .slice (some ⟨b1, o1, none⟩) l.length c), (17, .int .i64 l.length), (18, .int .i64 k), (37, .slice ka kids.length kc), (38, .int .i64 kids.length), (39, .int .i64 j)]) 0 ⟨Nat.zero_le _, fun i x h => absurd h (Nat.not_lt_zero _)⟩ ?_ (fun _ hl => hl) ?_
  · (repeat (first | exact subF_nil _ | (refine subF_cons rfl ?_) | (refine subF_consv rfl (by rfl) ?_)))
  rintro j ⟨hj, hks⟩
  by_cases hjl : j < kids.length
  · obtain ⟨b3, o3, y, e3, hR3, hb3, hyk, hc3⟩ := IntSlice.get hk1 hjl
    subst e3
    replace hyk := hyk.out
    cases p1 : inB y 1 l.length
    · have hv := nodeOk_k (l := l) (i := k) (x := ⟨up, kids, st, me, ru⟩) hyk (by simp [kidOk, p1])
      repeat (first | refine qan ?_ | refine qaj ?_ | refine qaf ?_ | refine qad ?_ | refine SX.block ?_ | refine qaC ?_ | refine qaq rfl ?_ | (refine qaS rfl rfl rfl ?_) | (refine qat ?_; (refine qac (qap rfl (fun w hl => isNode_any _ _ _ _ _)) rfl ?_ ?_ ?_); rfl; rfl) | (refine qau ?_; (first | refine qac (OpW.loadOld rfl (by assumption) (fun h => h)) rfl ?_ ?_ ?_ | refine qac (qam 1 rfl rfl rfl) rfl ?_ ?_ ?_); rfl; rfl) | (refine qao ?_; (refine qac (qai rfl) rfl ?_ ?_ ?_); rfl; rfl) | (refine qal ?_; (refine qac (qag rfl) rfl ?_ ?_ ?_); rfl; rfl) | (refine l_lss ?_; (refine qac (OpW.lssT rfl rfl (by omega)) rfl ?_ ?_ ?_); rfl; rfl) | (refine qaT ?_; (refine qac (OpW.not rfl) rfl ?_ ?_ ?_); rfl; rfl) | (refine qaE ?_; (refine qac (qav rfl rfl rfl) rfl ?_ ?_ ?_); rfl; rfl) | (refine qaM ?_; (refine qac (qaO (by omega) rfl rfl) rfl ?_ ?_ ?_); rfl; rfl) | (rw [p1]) | refine qaA ?_ | refine qax ?_ | refine qaH ?_)
      refine qaz rfl rfl (fun w' hl => ⟨by rw [treeOk_no hxk (hv)], hl.mod⟩)
    obtain ⟨ky, rfl, hky⟩ := inB_node p1
    obtain ⟨b2, o2, z, r2, e2, hR2, hb2, hzk, hr2, hl2, hc2⟩ := h.get hky
    obtain ⟨rfl, rfl⟩ : b1 = b2 ∧ o1 = o2 := by simpa using e2
    obtain ⟨kb, kd, rb, rd, rfl, _, _, _⟩ := hr2
    have hkid : kidOk l k ((ky + 1 : Nat) : Int) = decide (z.up = ((k + 1 : Nat) : Int)) := kidOk_at p1 hzk.out
    by_cases p2 : z.up = ((k + 1 : Nat) : Int)
    · repeat (first | refine qan ?_ | refine qaj ?_ | refine qaf ?_ | refine qad ?_ | refine SX.block ?_ | refine qaC ?_ | refine qaq rfl ?_ | refine qas rfl ?_ | (refine qat ?_; (first | refine qac (qap rfl (fun w hl => isNode_any _ _ _ _ _)) rfl ?_ ?_ ?_ | refine qac (qap rfl (fun w hl => node_any _ _ _ _ ky _ _ _ _ _ _ _ _ _ w (by omega) hky (fun j v hv => hl.old (hc2 j v hv) (fun h => h)))) rfl ?_ ?_ ?_); rfl; rfl) | (refine l_field ?_; (refine qac (OpW.field rfl (nodeRow_a0 _ _ _ _ _ _ _ _ _)) rfl ?_ ?_ ?_); rfl; rfl) | (refine qau ?_; (first | refine qac (OpW.loadOld rfl (by assumption) (fun h => h)) rfl ?_ ?_ ?_ | refine qac (qam 1 rfl rfl rfl) rfl ?_ ?_ ?_); rfl; rfl) | (refine qao ?_; (refine qac (qai rfl) rfl ?_ ?_ ?_); rfl; rfl) | (refine qal ?_; (refine qac (qag rfl) rfl ?_ ?_ ?_); rfl; rfl) | (refine l_add ?_; (refine qac (OpW.succ rfl rfl (by omega)) rfl ?_ ?_ ?_); rfl; rfl) | (refine l_lss ?_; (refine qac (OpW.lssT rfl rfl (by omega)) rfl ?_ ?_ ?_); rfl; rfl) | (refine l_neq ?_; (refine qac (OpW.neqF rfl rfl (by omega)) rfl ?_ ?_ ?_); rfl; rfl) | (refine qaT ?_; (refine qac (OpW.not rfl) rfl ?_ ?_ ?_); rfl; rfl) | (refine qaE ?_; (refine qac (qav rfl rfl rfl) rfl ?_ ?_ ?_); rfl; rfl) | (refine qaM ?_; (refine qac (qaO (by omega) rfl rfl) rfl ?_ ?_ ?_); rfl; rfl) | (rw [p1]) | refine qar ?_)
      refine SQ.roundi (j + 1) ⟨by omega, pto_succ hks hyk (by rw [hkid]; exact decide_eq_true p2)⟩ (by omega) ?_ (fun _ hl => hl)
      (repeat (first | exact subF_nil _ | (refine subF_cons rfl ?_) | (refine subF_consv rfl (by rfl) ?_)))
    · have hv := nodeOk_k (l := l) (i := k) (x := ⟨up, kids, st, me, ru⟩) hyk (by rw [hkid]; exact decide_eq_false p2)
      repeat (first | refine qan ?_ | refine qaj ?_ | refine qaf ?_ | refine qad ?_ | refine SX.block ?_ | refine qaC ?_ | refine qaq rfl ?_ | (refine qat ?_; (first | refine qac (qap rfl (fun w hl => isNode_any _ _ _ _ _)) rfl ?_ ?_ ?_ | refine qac (qap rfl (fun w hl => node_any _ _ _ _ ky _ _ _ _ _ _ _ _ _ w (by omega) hky (fun j v hv => hl.old (hc2 j v hv) (fun h => h)))) rfl ?_ ?_ ?_); rfl; rfl) | (refine l_field ?_; (refine qac (OpW.field rfl (nodeRow_a0 _ _ _ _ _ _ _ _ _)) rfl ?_ ?_ ?_); rfl; rfl) | (refine qau ?_; (first | refine qac (OpW.loadOld rfl (by assumption) (fun h => h)) rfl ?_ ?_ ?_ | refine qac (qam 1 rfl rfl rfl) rfl ?_ ?_ ?_); rfl; rfl) | (refine qao ?_; (refine qac (qai rfl) rfl ?_ ?_ ?_); rfl; rfl) | (refine qal ?_; (refine qac (qag rfl) rfl ?_ ?_ ?_); rfl; rfl) | (refine l_lss ?_; (refine qac (OpW.lssT rfl rfl (by omega)) rfl ?_ ?_ ?_); rfl; rfl) | (refine l_neq ?_; (refine qac (OpW.neqT rfl rfl (by omega)) rfl ?_ ?_ ?_); rfl; rfl) | (refine qaT ?_; (refine qac (OpW.not rfl) rfl ?_ ?_ ?_); rfl; rfl) | (refine qaE ?_; (refine qac (qav rfl rfl rfl) rfl ?_ ?_ ?_); rfl; rfl) | (refine qaM ?_; (refine qac (qaO (by omega) rfl rfl) rfl ?_ ?_ ?_); rfl; rfl) | (rw [p1]) | refine qaA ?_ | refine qax ?_ | refine qaH ?_)
      refine qaz rfl rfl (fun w' hl => ⟨by rw [treeOk_no hxk (hv)], hl.mod⟩)
  have hka := all_ints (p := kidOk l k) hks (by omega)
  by_cases u0 : up = 0
  · subst u0
    have hup : upOk l k ⟨0, kids, st, me, ru⟩ = true := rfl
    cases me
    · by_cases r0 : ru.length = 0
      · repeat (first | refine qan ?_ | refine qaj ?_ | refine qaf ?_ | refine qad ?_ | refine qaC ?_ | refine qas rfl ?_ | (refine qaS rfl rfl rfl ?_) | (refine qau ?_; (refine qac (qaw 0 rfl rfl rfl) rfl ?_ ?_ ?_); rfl; rfl) | (refine qak ?_; (refine qac (qae rfl) rfl ?_ ?_ ?_); rfl; rfl) | (refine qao ?_; (refine qac (qai rfl) rfl ?_ ?_ ?_); rfl; rfl) | (refine l_len ?_; (refine qac (OpW.len rfl) rfl ?_ ?_ ?_); rfl; rfl) | (refine l_add ?_; (refine qac (OpW.succ rfl rfl (by omega)) rfl ?_ ?_ ?_); rfl; rfl) | (refine l_gtr ?_; (refine qac (OpW.gtrF rfl rfl (by omega)) rfl ?_ ?_ ?_); rfl; rfl) | (refine l_lss ?_; (refine qac (OpW.lssF rfl rfl (by omega)) rfl ?_ ?_ ?_); rfl; rfl) | (refine l_neq ?_; (refine qac (OpW.neqF rfl rfl (by omega)) rfl ?_ ?_ ?_); rfl; rfl) | (refine qaT ?_; (refine qac (OpW.not rfl) rfl ?_ ?_ ?_); rfl; rfl) | (refine qaE ?_; (refine qac (qav rfl rfl rfl) rfl ?_ ?_ ?_); rfl; rfl) | refine SX.exit ?_ | refine qaF ?_ | refine qar ?_ | refine qaD ?_)
        refine SQ.roundi (k + 1) ⟨by omega, pto_succ hs hxk (nodeOk_y q1 q2 hka hup (by simp [tabOk, r0]))⟩ (by omega) ?_ (fun _ hl => hl.drop1)
        (repeat (first | exact subF_nil _ | (refine subF_cons rfl ?_) | (refine subF_consv rfl (by rfl) ?_)))
      · have hv := nodeOk_t (l := l) (i := k) (x := ⟨0, kids, st, false, ru⟩) (by simp [tabOk]; intro e; exact r0 (by rw [e]; rfl))
        repeat (first | refine qan ?_ | refine qaj ?_ | refine qaf ?_ | refine qad ?_ | refine qaC ?_ | refine qaq rfl ?_ | refine qas rfl ?_ | (refine qaS rfl rfl rfl ?_) | (refine qau ?_; (refine qac (qaw 0 rfl rfl rfl) rfl ?_ ?_ ?_); rfl; rfl) | (refine qak ?_; (refine qac (qae rfl) rfl ?_ ?_ ?_); rfl; rfl) | (refine qao ?_; (refine qac (qai rfl) rfl ?_ ?_ ?_); rfl; rfl) | (refine qal ?_; (refine qac (qag rfl) rfl ?_ ?_ ?_); rfl; rfl) | (refine l_len ?_; (refine qac (OpW.len rfl) rfl ?_ ?_ ?_); rfl; rfl) | (refine l_gtr ?_; (refine qac (OpW.gtrT rfl rfl (by omega)) rfl ?_ ?_ ?_); rfl; rfl) | (refine l_lss ?_; (refine qac (OpW.lssF rfl rfl (by omega)) rfl ?_ ?_ ?_); rfl; rfl) | (refine l_neq ?_; (refine qac (OpW.neqF rfl rfl (by omega)) rfl ?_ ?_ ?_); rfl; rfl) | (refine qaT ?_; (refine qac (OpW.not rfl) rfl ?_ ?_ ?_); rfl; rfl) | (refine qaE ?_; (refine qac (qav rfl rfl rfl) rfl ?_ ?_ ?_); rfl; rfl) | refine qaA ?_ | refine SX.exit ?_ | refine qax ?_ | refine qaF ?_ | refine qaH ?_ | refine qaD ?_)
        refine qaz rfl rfl (fun w' hl => ⟨by rw [treeOk_no hxk (hv)], hl.mod⟩)
    · cases tq : tableOk ru
      · have hv := nodeOk_t (l := l) (i := k) (x := ⟨0, kids, st, true, ru⟩) (by simp [tabOk, tq])
        repeat (first | refine qan ?_ | refine qaj ?_ | refine qaf ?_ | refine qad ?_ | refine qaC ?_ | refine qaq rfl ?_ | refine qas rfl ?_ | (refine qaS rfl rfl rfl ?_) | (refine qau ?_; (first | refine qac (qaI (cells := nodeRow _ _ _ _ _ _ _ _ _) 0 rfl rfl rfl (nodeRow_tab _ _ _ _ _ _ _ _ _)) rfl ?_ ?_ ?_ | refine qac (qaw 0 rfl rfl rfl) rfl ?_ ?_ ?_); rfl; rfl) | (refine qat ?_; (refine qac (qap rfl (fun w hl => tableOk_any ru ra rc R _ hf2 (ht1.flatKeep hl.mod))) rfl ?_ ?_ ?_); rfl; rfl) | (refine qak ?_; (refine qac (qae rfl) rfl ?_ ?_ ?_); rfl; rfl) | (refine qao ?_; (refine qac (qai rfl) rfl ?_ ?_ ?_); rfl; rfl) | (refine qal ?_; (refine qac (qag rfl) rfl ?_ ?_ ?_); rfl; rfl) | (refine l_lss ?_; (refine qac (OpW.lssF rfl rfl (by omega)) rfl ?_ ?_ ?_); rfl; rfl) | (refine l_neq ?_; (refine qac (OpW.neqF rfl rfl (by omega)) rfl ?_ ?_ ?_); rfl; rfl) | (refine qaT ?_; (refine qac (OpW.not rfl) rfl ?_ ?_ ?_); rfl; rfl) | (refine qaE ?_; (refine qac (qav rfl rfl rfl) rfl ?_ ?_ ?_); rfl; rfl) | (rw [tq]) | refine qaA ?_ | refine SX.exit ?_ | refine qax ?_ | refine qaF ?_ | refine qaH ?_ | refine qaD ?_)
        refine qaz rfl rfl (fun w' hl => ⟨by rw [treeOk_no hxk (hv)], hl.mod⟩)
      by_cases k0 : kids.length = 0
      · repeat (first | refine qan ?_ | refine qaj ?_ | refine qaf ?_ | refine qad ?_ | refine qaC ?_ | refine qas rfl ?_ | (refine qaS rfl rfl rfl ?_) | (refine qau ?_; (first | refine qac (qaI (cells := nodeRow _ _ _ _ _ _ _ _ _) 0 rfl rfl rfl (nodeRow_tab _ _ _ _ _ _ _ _ _)) rfl ?_ ?_ ?_ | refine qac (qaw 0 rfl rfl rfl) rfl ?_ ?_ ?_); rfl; rfl) | (refine qat ?_; (refine qac (qap rfl (fun w hl => tableOk_any ru ra rc R _ hf2 (ht1.flatKeep hl.mod))) rfl ?_ ?_ ?_); rfl; rfl) | (refine qak ?_; (refine qac (qae rfl) rfl ?_ ?_ ?_); rfl; rfl) | (refine qao ?_; (refine qac (qai rfl) rfl ?_ ?_ ?_); rfl; rfl) | (refine l_len ?_; (refine qac (OpW.len rfl) rfl ?_ ?_ ?_); rfl; rfl) | (refine l_add ?_; (refine qac (OpW.succ rfl rfl (by omega)) rfl ?_ ?_ ?_); rfl; rfl) | (refine l_gtr ?_; (refine qac (OpW.gtrF rfl rfl (by omega)) rfl ?_ ?_ ?_); rfl; rfl) | (refine l_lss ?_; (refine qac (OpW.lssF rfl rfl (by omega)) rfl ?_ ?_ ?_); rfl; rfl) | (refine l_neq ?_; (refine qac (OpW.neqF rfl rfl (by omega)) rfl ?_ ?_ ?_); rfl; rfl) | (refine qaT ?_; (refine qac (OpW.not rfl) rfl ?_ ?_ ?_); rfl; rfl) | (refine qaE ?_; (refine qac (qav rfl rfl rfl) rfl ?_ ?_ ?_); rfl; rfl) | (rw [tq]) | refine SX.exit ?_ | refine qaF ?_ | refine qar ?_ | refine qaD ?_)
        refine SQ.roundi (k + 1) ⟨by omega, pto_succ hs hxk (nodeOk_y q1 q2 hka hup (by simp [tabOk, tq, k0]))⟩ (by omega) ?_ (fun _ hl => hl.drop1)
        (repeat (first | exact subF_nil _ | (refine subF_cons rfl ?_) | (refine subF_consv rfl (by rfl) ?_)))
      · have hv := nodeOk_t (l := l) (i := k) (x := ⟨0, kids, st, true, ru⟩) (by simp [tabOk, tq]; intro e; exact k0 (by rw [e]; rfl))
        repeat (first | refine qan ?_ | refine qaj ?_ | refine qaf ?_ | refine qad ?_ | refine qaC ?_ | refine qaq rfl ?_ | refine qas rfl ?_ | (refine qaS rfl rfl rfl ?_) | (refine qau ?_; (first | refine qac (qaI (cells := nodeRow _ _ _ _ _ _ _ _ _) 0 rfl rfl rfl (nodeRow_tab _ _ _ _ _ _ _ _ _)) rfl ?_ ?_ ?_ | refine qac (qaw 0 rfl rfl rfl) rfl ?_ ?_ ?_); rfl; rfl) | (refine qat ?_; (refine qac (qap rfl (fun w hl => tableOk_any ru ra rc R _ hf2 (ht1.flatKeep hl.mod))) rfl ?_ ?_ ?_); rfl; rfl) | (refine qak ?_; (refine qac (qae rfl) rfl ?_ ?_ ?_); rfl; rfl) | (refine qao ?_; (refine qac (qai rfl) rfl ?_ ?_ ?_); rfl; rfl) | (refine qal ?_; (refine qac (qag rfl) rfl ?_ ?_ ?_); rfl; rfl) | (refine l_len ?_; (refine qac (OpW.len rfl) rfl ?_ ?_ ?_); rfl; rfl) | (refine l_gtr ?_; (refine qac (OpW.gtrT rfl rfl (by omega)) rfl ?_ ?_ ?_); rfl; rfl) | (refine l_lss ?_; (refine qac (OpW.lssF rfl rfl (by omega)) rfl ?_ ?_ ?_); rfl; rfl) | (refine l_neq ?_; (refine qac (OpW.neqF rfl rfl (by omega)) rfl ?_ ?_ ?_); rfl; rfl) | (refine qaT ?_; (refine qac (OpW.not rfl) rfl ?_ ?_ ?_); rfl; rfl) | (refine qaE ?_; (refine qac (qav rfl rfl rfl) rfl ?_ ?_ ?_); rfl; rfl) | (rw [tq]) | refine qaA ?_ | refine SX.exit ?_ | refine qax ?_ | refine qaF ?_ | refine qaH ?_ | refine qaD ?_)
        refine qaz rfl rfl (fun w' hl => ⟨by rw [treeOk_no hxk (hv)], hl.mod⟩)
  have hu0 : up ≠ 0 := u0
  obtain ⟨ku, rfl, hku⟩ := depth_up hxk q2 u0
  obtain ⟨b5, o5, z, r5, e5, hR5, hb5, hzk, hr5, hl5, hc5⟩ := h.get hku
  obtain ⟨rfl, rfl⟩ : b1 = b5 ∧ o1 = o5 := by simpa using e5
  obtain ⟨kb, kd, rb, rd, rfl, hk5, _, _⟩ := hr5
  have hfz : z.kids.length ≤ 1048576 := (hfit _ (List.mem_of_getElem? hzk.out)).1
  have hup := upOk_at (l := l) (i := k) (x := ⟨((ku + 1 : Nat) : Int), kids, st, me, ru⟩) rfl hzk.out
  repeat (first | refine qan ?_ | refine qaj ?_ | refine qaf ?_ | refine qad ?_ | refine SX.block ?_ | refine qaq rfl ?_ | refine qas rfl ?_ | (refine qat ?_; (refine qac (qap rfl (fun w hl => node_any _ _ _ _ ku _ _ _ _ _ _ _ _ _ w (by omega) hku (fun j v hv => hl.old (hc5 j v hv) (fun h => h)))) rfl ?_ ?_ ?_); rfl; rfl) | (refine l_field ?_; (refine qac (OpW.field rfl (nodeRow_a1 _ _ _ _ _ _ _ _ _)) rfl ?_ ?_ ?_); rfl; rfl) | (refine qau ?_; (first | refine qac (qaw 0 rfl rfl rfl) rfl ?_ ?_ ?_ | refine qac (qam 1 rfl rfl rfl) rfl ?_ ?_ ?_); rfl; rfl) | (refine qak ?_; (refine qac (qae rfl) rfl ?_ ?_ ?_); rfl; rfl) | (refine qao ?_; (refine qac (qai rfl) rfl ?_ ?_ ?_); rfl; rfl) | (refine qal ?_; (refine qac (qag rfl) rfl ?_ ?_ ?_); rfl; rfl) | (refine l_len ?_; (refine qac (OpW.len rfl) rfl ?_ ?_ ?_); rfl; rfl) | (refine l_lss ?_; (refine qac (OpW.lssF rfl rfl (by omega)) rfl ?_ ?_ ?_); rfl; rfl) | (refine l_neq ?_; (refine qac (OpW.neqT rfl rfl (by omega)) rfl ?_ ?_ ?_); rfl; rfl) | refine SX.exit ?_ | refine qaF ?_ | refine qaD ?_)
  refine SX.loopi (fun j : Nat => j ≤ z.kids.length) (fun j => z.kids.length - j) (fun _ => [⟨g, nodeRow ((ku + 1 : Nat) : Int) ka kids.length kc st me ra ru.length rc, 86⟩, ⟨gt, [.slice (some ⟨b1, o1, none⟩) l.length c], 37⟩]) (fun _ => []) (fun _ => []) (fun j => [(1, .pointer (some ⟨gt, 0, none⟩)), (4, .pointer (some ⟨g, 0, none⟩)), (5, .int .i64 ((k + 1 : Nat) : Int)), (16, .slice (some ⟨b1, o1, none⟩) l.length c), (17, .int .i64 l.length), (18, .int .i64 k), (8, .int .i64 (hasTo z.kids ((k + 1 : Nat) : Int) j : Nat)), (63, .slice kb z.kids.length kd), (64, .int .i64 z.kids.length), (65, .int .i64 j)]) 0 (Nat.zero_le _) ?_ (fun _ hl => hl) ?_
  · (repeat (first | exact subF_nil _ | (refine subF_cons rfl ?_) | (refine subF_consv rfl (by rfl) ?_)))
  intro j hj
  have hle := hasTo_le z.kids ((k + 1 : Nat) : Int) j
  by_cases hjl : j < z.kids.length
  · obtain ⟨b6, o6, y, rfl, _, _, hyk, hc6⟩ := IntSlice.get hk5 hjl
    have hsu := hasTo_succ (n := ((k + 1 : Nat) : Int)) hyk.out
    by_cases e : y = ((k + 1 : Nat) : Int)
    · rw [if_pos e] at hsu
      repeat (first | refine qan ?_ | refine qaj ?_ | refine qaf ?_ | refine qad ?_ | refine SX.block ?_ | refine qaC ?_ | refine qaq rfl ?_ | (refine qau ?_; (refine qac (OpW.loadOld rfl (by assumption) (fun h => h)) rfl ?_ ?_ ?_); rfl; rfl) | (refine qao ?_; (refine qac (qai rfl) rfl ?_ ?_ ?_); rfl; rfl) | (refine qal ?_; (refine qac (qag rfl) rfl ?_ ?_ ?_); rfl; rfl) | (refine l_add ?_; (refine qac (OpW.succ rfl rfl (by omega)) rfl ?_ ?_ ?_); rfl; rfl) | (refine l_eql ?_; (refine qac (qaQ rfl rfl (by omega)) rfl ?_ ?_ ?_); rfl; rfl) | (refine l_lss ?_; (refine qac (OpW.lssT rfl rfl (by omega)) rfl ?_ ?_ ?_); rfl; rfl) | (refine qaM ?_; (refine qac (qaO (by omega) rfl rfl) rfl ?_ ?_ ?_); rfl; rfl) | refine qar ?_)
      refine SQ.roundi (j + 1) (by omega) (by omega) ?_ (fun _ hl => hl)
      (repeat (first | exact subF_nil _ | (refine subF_cons rfl ?_) | (refine subF_consv rfl (by rw [hsu]) ?_)))
    · rw [if_neg e] at hsu
      repeat (first | refine qan ?_ | refine qaj ?_ | refine qaf ?_ | refine qad ?_ | refine SX.block ?_ | refine qaC ?_ | refine qaq rfl ?_ | refine qas rfl ?_ | (refine qau ?_; (refine qac (OpW.loadOld rfl (by assumption) (fun h => h)) rfl ?_ ?_ ?_); rfl; rfl) | (refine qao ?_; (refine qac (qai rfl) rfl ?_ ?_ ?_); rfl; rfl) | (refine qal ?_; (refine qac (qag rfl) rfl ?_ ?_ ?_); rfl; rfl) | (refine l_add ?_; (refine qac (OpW.succ rfl rfl (by omega)) rfl ?_ ?_ ?_); rfl; rfl) | (refine l_eql ?_; (refine qac (qaP rfl rfl (by omega)) rfl ?_ ?_ ?_); rfl; rfl) | (refine l_lss ?_; (refine qac (OpW.lssT rfl rfl (by omega)) rfl ?_ ?_ ?_); rfl; rfl) | (refine qaM ?_; (refine qac (qaO (by omega) rfl rfl) rfl ?_ ?_ ?_); rfl; rfl) | refine qar ?_)
      refine SQ.roundi (j + 1) (by omega) (by omega) ?_ (fun _ hl => hl)
      (repeat (first | exact subF_nil _ | (refine subF_cons rfl ?_) | (refine subF_consv rfl (by rw [hsu]; rfl) ?_)))
  have hjz : j = z.kids.length := by omega
  have hall := hasTo_all (n := ((k + 1 : Nat) : Int)) (show z.kids.length ≤ j by omega)
  by_cases c1 : z.kids.count ((k + 1 : Nat) : Int) = 1
  rotate_left
  · rw [decide_eq_false c1] at hup
    have hv := nodeOk_u hup
    repeat (first | refine qan ?_ | refine qaj ?_ | refine qaf ?_ | refine qad ?_ | refine qaq rfl ?_ | refine qas rfl ?_ | (refine qao ?_; (refine qac (qai rfl) rfl ?_ ?_ ?_); rfl; rfl) | (refine qal ?_; (refine qac (qag rfl) rfl ?_ ?_ ?_); rfl; rfl) | (refine l_lss ?_; (refine qac (OpW.lssF rfl rfl (by omega)) rfl ?_ ?_ ?_); rfl; rfl) | (refine l_neq ?_; (refine qac (OpW.neqT rfl rfl (by omega)) rfl ?_ ?_ ?_); rfl; rfl) | refine qaA ?_ | refine SX.exit ?_ | refine qax ?_ | refine qaF ?_ | refine qaH ?_ | refine qaD ?_)
    refine qaz rfl rfl (fun w' hl => ⟨by rw [treeOk_no hxk (hv)], hl.mod⟩)
  rw [decide_eq_true c1] at hup
  cases me
  · by_cases r0 : ru.length = 0
    · repeat (first | refine qan ?_ | refine qaj ?_ | refine qaf ?_ | refine qad ?_ | refine qaC ?_ | refine qas rfl ?_ | (refine qaS rfl rfl rfl ?_) | (refine qau ?_; (refine qac (qaw 0 rfl rfl rfl) rfl ?_ ?_ ?_); rfl; rfl) | (refine qak ?_; (refine qac (qae rfl) rfl ?_ ?_ ?_); rfl; rfl) | (refine qao ?_; (refine qac (qai rfl) rfl ?_ ?_ ?_); rfl; rfl) | (refine l_len ?_; (refine qac (OpW.len rfl) rfl ?_ ?_ ?_); rfl; rfl) | (refine l_add ?_; (refine qac (OpW.succ rfl rfl (by omega)) rfl ?_ ?_ ?_); rfl; rfl) | (refine l_gtr ?_; (refine qac (OpW.gtrF rfl rfl (by omega)) rfl ?_ ?_ ?_); rfl; rfl) | (refine l_lss ?_; (refine qac (OpW.lssF rfl rfl (by omega)) rfl ?_ ?_ ?_); rfl; rfl) | (refine l_neq ?_; (refine qac (OpW.neqF rfl rfl (by omega)) rfl ?_ ?_ ?_); rfl; rfl) | (refine qaT ?_; (refine qac (OpW.not rfl) rfl ?_ ?_ ?_); rfl; rfl) | (refine qaE ?_; (refine qac (qav rfl rfl rfl) rfl ?_ ?_ ?_); rfl; rfl) | refine SX.exit ?_ | refine qaF ?_ | refine qar ?_ | refine qaD ?_)
      refine SQ.roundi (k + 1) ⟨by omega, pto_succ hs hxk (nodeOk_y q1 q2 hka hup (by simp [tabOk, r0]))⟩ (by omega) ?_ (fun _ hl => hl.drop1)
      (repeat (first | exact subF_nil _ | (refine subF_cons rfl ?_) | (refine subF_consv rfl (by rfl) ?_)))
    · have hv := nodeOk_t (l := l) (i := k) (x := ⟨((ku + 1 : Nat) : Int), kids, st, false, ru⟩) (by simp [tabOk]; intro e; exact r0 (by rw [e]; rfl))
      repeat (first | refine qan ?_ | refine qaj ?_ | refine qaf ?_ | refine qad ?_ | refine qaC ?_ | refine qaq rfl ?_ | refine qas rfl ?_ | (refine qaS rfl rfl rfl ?_) | (refine qau ?_; (refine qac (qaw 0 rfl rfl rfl) rfl ?_ ?_ ?_); rfl; rfl) | (refine qak ?_; (refine qac (qae rfl) rfl ?_ ?_ ?_); rfl; rfl) | (refine qao ?_; (refine qac (qai rfl) rfl ?_ ?_ ?_); rfl; rfl) | (refine qal ?_; (refine qac (qag rfl) rfl ?_ ?_ ?_); rfl; rfl) | (refine l_len ?_; (refine qac (OpW.len rfl) rfl ?_ ?_ ?_); rfl; rfl) | (refine l_gtr ?_; (refine qac (OpW.gtrT rfl rfl (by omega)) rfl ?_ ?_ ?_); rfl; rfl) | (refine l_lss ?_; (refine qac (OpW.lssF rfl rfl (by omega)) rfl ?_ ?_ ?_); rfl; rfl) | (refine l_neq ?_; (refine qac (OpW.neqF rfl rfl (by omega)) rfl ?_ ?_ ?_); rfl; rfl) | (refine qaT ?_; (refine qac (OpW.not rfl) rfl ?_ ?_ ?_); rfl; rfl) | (refine qaE ?_; (refine qac (qav rfl rfl rfl) rfl ?_ ?_ ?_); rfl; rfl) | refine qaA ?_ | refine SX.exit ?_ | refine qax ?_ | refine qaF ?_ | refine qaH ?_ | refine qaD ?_)
      refine qaz rfl rfl (fun w' hl => ⟨by rw [treeOk_no hxk (hv)], hl.mod⟩)
  · cases tq : tableOk ru
    · have hv := nodeOk_t (l := l) (i := k) (x := ⟨((ku + 1 : Nat) : Int), kids, st, true, ru⟩) (by simp [tabOk, tq])
      repeat (first | refine qan ?_ | refine qaj ?_ | refine qaf ?_ | refine qad ?_ | refine qaC ?_ | refine qaq rfl ?_ | refine qas rfl ?_ | (refine qaS rfl rfl rfl ?_) | (refine qau ?_; (first | refine qac (qaI (cells := nodeRow _ _ _ _ _ _ _ _ _) 0 rfl rfl rfl (nodeRow_tab _ _ _ _ _ _ _ _ _)) rfl ?_ ?_ ?_ | refine qac (qaw 0 rfl rfl rfl) rfl ?_ ?_ ?_); rfl; rfl) | (refine qat ?_; (refine qac (qap rfl (fun w hl => tableOk_any ru ra rc R _ hf2 (ht1.flatKeep hl.mod))) rfl ?_ ?_ ?_); rfl; rfl) | (refine qak ?_; (refine qac (qae rfl) rfl ?_ ?_ ?_); rfl; rfl) | (refine qao ?_; (refine qac (qai rfl) rfl ?_ ?_ ?_); rfl; rfl) | (refine qal ?_; (refine qac (qag rfl) rfl ?_ ?_ ?_); rfl; rfl) | (refine l_lss ?_; (refine qac (OpW.lssF rfl rfl (by omega)) rfl ?_ ?_ ?_); rfl; rfl) | (refine l_neq ?_; (refine qac (OpW.neqF rfl rfl (by omega)) rfl ?_ ?_ ?_); rfl; rfl) | (refine qaT ?_; (refine qac (OpW.not rfl) rfl ?_ ?_ ?_); rfl; rfl) | (refine qaE ?_; (refine qac (qav rfl rfl rfl) rfl ?_ ?_ ?_); rfl; rfl) | (rw [tq]) | refine qaA ?_ | refine SX.exit ?_ | refine qax ?_ | refine qaF ?_ | refine qaH ?_ | refine qaD ?_)
      refine qaz rfl rfl (fun w' hl => ⟨by rw [treeOk_no hxk (hv)], hl.mod⟩)
    by_cases k0 : kids.length = 0
    · repeat (first | refine qan ?_ | refine qaj ?_ | refine qaf ?_ | refine qad ?_ | refine qaC ?_ | refine qas rfl ?_ | (refine qaS rfl rfl rfl ?_) | (refine qau ?_; (first | refine qac (qaI (cells := nodeRow _ _ _ _ _ _ _ _ _) 0 rfl rfl rfl (nodeRow_tab _ _ _ _ _ _ _ _ _)) rfl ?_ ?_ ?_ | refine qac (qaw 0 rfl rfl rfl) rfl ?_ ?_ ?_); rfl; rfl) | (refine qat ?_; (refine qac (qap rfl (fun w hl => tableOk_any ru ra rc R _ hf2 (ht1.flatKeep hl.mod))) rfl ?_ ?_ ?_); rfl; rfl) | (refine qak ?_; (refine qac (qae rfl) rfl ?_ ?_ ?_); rfl; rfl) | (refine qao ?_; (refine qac (qai rfl) rfl ?_ ?_ ?_); rfl; rfl) | (refine l_len ?_; (refine qac (OpW.len rfl) rfl ?_ ?_ ?_); rfl; rfl) | (refine l_add ?_; (refine qac (OpW.succ rfl rfl (by omega)) rfl ?_ ?_ ?_); rfl; rfl) | (refine l_gtr ?_; (refine qac (OpW.gtrF rfl rfl (by omega)) rfl ?_ ?_ ?_); rfl; rfl) | (refine l_lss ?_; (refine qac (OpW.lssF rfl rfl (by omega)) rfl ?_ ?_ ?_); rfl; rfl) | (refine l_neq ?_; (refine qac (OpW.neqF rfl rfl (by omega)) rfl ?_ ?_ ?_); rfl; rfl) | (refine qaT ?_; (refine qac (OpW.not rfl) rfl ?_ ?_ ?_); rfl; rfl) | (refine qaE ?_; (refine qac (qav rfl rfl rfl) rfl ?_ ?_ ?_); rfl; rfl) | (rw [tq]) | refine SX.exit ?_ | refine qaF ?_ | refine qar ?_ | refine qaD ?_)
      refine SQ.roundi (k + 1) ⟨by omega, pto_succ hs hxk (nodeOk_y q1 q2 hka hup (by simp [tabOk, tq, k0]))⟩ (by omega) ?_ (fun _ hl => hl.drop1)
      (repeat (first | exact subF_nil _ | (refine subF_cons rfl ?_) | (refine subF_consv rfl (by rfl) ?_)))
    · have hv := nodeOk_t (l := l) (i := k) (x := ⟨((ku + 1 : Nat) : Int), kids, st, true, ru⟩) (by simp [tabOk, tq]; intro e; exact k0 (by rw [e]; rfl))
      repeat (first | refine qan ?_ | refine qaj ?_ | refine qaf ?_ | refine qad ?_ | refine qaC ?_ | refine qaq rfl ?_ | refine qas rfl ?_ | (refine qaS rfl rfl rfl ?_) | (refine qau ?_; (first | refine qac (qaI (cells := nodeRow _ _ _ _ _ _ _ _ _) 0 rfl rfl rfl (nodeRow_tab _ _ _ _ _ _ _ _ _)) rfl ?_ ?_ ?_ | refine qac (qaw 0 rfl rfl rfl) rfl ?_ ?_ ?_); rfl; rfl) | (refine qat ?_; (refine qac (qap rfl (fun w hl => tableOk_any ru ra rc R _ hf2 (ht1.flatKeep hl.mod))) rfl ?_ ?_ ?_); rfl; rfl) | (refine qak ?_; (refine qac (qae rfl) rfl ?_ ?_ ?_); rfl; rfl) | (refine qao ?_; (refine qac (qai rfl) rfl ?_ ?_ ?_); rfl; rfl) | (refine qal ?_; (refine qac (qag rfl) rfl ?_ ?_ ?_); rfl; rfl) | (refine l_len ?_; (refine qac (OpW.len rfl) rfl ?_ ?_ ?_); rfl; rfl) | (refine l_gtr ?_; (refine qac (OpW.gtrT rfl rfl (by omega)) rfl ?_ ?_ ?_); rfl; rfl) | (refine l_lss ?_; (refine qac (OpW.lssF rfl rfl (by omega)) rfl ?_ ?_ ?_); rfl; rfl) | (refine l_neq ?_; (refine qac (OpW.neqF rfl rfl (by omega)) rfl ?_ ?_ ?_); rfl; rfl) | (refine qaT ?_; (refine qac (OpW.not rfl) rfl ?_ ?_ ?_); rfl; rfl) | (refine qaE ?_; (refine qac (qav rfl rfl rfl) rfl ?_ ?_ ?_); rfl; rfl) | (rw [tq]) | refine qaA ?_ | refine SX.exit ?_ | refine qax ?_ | refine qaF ?_ | refine qaH ?_ | refine qaD ?_)
      refine qaz rfl rfl (fun w' hl => ⟨by rw [treeOk_no hxk (hv)], hl.mod⟩)

end Go.Proofs.Ythffgbhphjkdeaa
namespace Go.Proofs.Ythffgbhphjkdeaa
open Go.RowKit
set_option linter.unusedVariables false
set_option linter.unusedSimpArgs false

set_option maxRecDepth 100000 in
set_option maxHeartbeats 16000000 in
theorem streeOk_any (l : List Node) (o : Bool) (a : Option Addr) (c : Nat) (R : Nat → Prop) (w : World) (hlen : l.length ≤ 1048576) (hfit : ∀ x ∈ l, x.fits 1048576) (h : NodeSlice o R w a l) :
    Calls Try.prog 23 #[.agg #[.slice a l.length c]] w fun e w' => e = .returned (.bool (treeOk l)) ∧ Mod (fun _ => False) w w' := by
  refine calls_sx Try.func23 rfl rfl (fun a h1 h2 h3 => ((Fr.nil h1 h2).arg (h3 0 _ rfl))) ?_
  by_cases hn : l.length ≤ 12
  rotate_left
  · repeat (first | refine qan ?_ | refine qaj ?_ | refine qaf ?_ | refine qad ?_ | refine qaq rfl ?_ | (refine qau ?_; (refine qac (qaw 0 rfl rfl rfl) rfl ?_ ?_ ?_); rfl; rfl) | (refine qak ?_; (refine qac (qae rfl) rfl ?_ ?_ ?_); rfl; rfl) | (refine qal ?_; (refine qac (qag rfl) rfl ?_ ?_ ?_); rfl; rfl) | (refine l_len ?_; (refine qac (OpW.len rfl) rfl ?_ ?_ ?_); rfl; rfl) | (refine l_gtr ?_; (refine qac (OpW.gtrT rfl rfl (by omega)) rfl ?_ ?_ ?_); rfl; rfl) | (refine l_box ?_; refine qaG ?_ ?_ rfl rfl (fun g => ?_); rfl; rfl) | refine qaA ?_ | refine qax ?_)
    refine qaz rfl rfl (fun w' hl => ⟨by rw [treeOk_long hn], hl.mod⟩)
  repeat (first | refine qan ?_ | refine qaj ?_ | refine qaf ?_ | refine qad ?_ | refine SX.block ?_ | refine qaC ?_ | refine qas rfl ?_ | (refine qau ?_; (refine qac (qaw 0 rfl rfl rfl) rfl ?_ ?_ ?_); rfl; rfl) | (refine qak ?_; (refine qac (qae rfl) rfl ?_ ?_ ?_); rfl; rfl) | (refine qal ?_; (refine qac (qag rfl) rfl ?_ ?_ ?_); rfl; rfl) | (refine l_len ?_; (refine qac (OpW.len rfl) rfl ?_ ?_ ?_); rfl; rfl) | (refine l_gtr ?_; (refine qac (OpW.gtrF rfl rfl (by omega)) rfl ?_ ?_ ?_); rfl; rfl) | (refine l_box ?_; refine qaG ?_ ?_ rfl rfl (fun g => ?_); rfl; rfl))
  revert g; intro gt
  refine SX.loopi (fun k : Nat => k ≤ l.length ∧ ∀ i x, i < k → l[i]? = some x → nodeOk l i x = true) (fun k => l.length - k) (fun _ => [⟨gt, [.slice a l.length c], 37⟩]) (fun _ => []) (fun _ => []) (fun k => [(1, .pointer (some ⟨gt, 0, none⟩)), (3, .int .i64 k)]) 0 ⟨Nat.zero_le _, fun i x h => absurd h (Nat.not_lt_zero _)⟩ ?_ (fun _ hl => hl) ?_
  · (repeat (first | exact subF_nil _ | (refine subF_cons rfl ?_) | (refine subF_consv rfl (by rfl) ?_)))
  rintro k ⟨hk, hs⟩
  by_cases hlt : k < l.length
  rotate_left
  · repeat (first | refine qan ?_ | refine qaj ?_ | refine qaf ?_ | refine qad ?_ | refine qas rfl ?_ | (refine qau ?_; (refine qac (qaw 0 rfl rfl rfl) rfl ?_ ?_ ?_); rfl; rfl) | (refine qak ?_; (refine qac (qae rfl) rfl ?_ ?_ ?_); rfl; rfl) | (refine qao ?_; (refine qac (qai rfl) rfl ?_ ?_ ?_); rfl; rfl) | (refine qal ?_; (refine qac (qag rfl) rfl ?_ ?_ ?_); rfl; rfl) | (refine l_len ?_; (refine qac (OpW.len rfl) rfl ?_ ?_ ?_); rfl; rfl) | (refine l_lss ?_; (refine qac (OpW.lssF rfl rfl (by omega)) rfl ?_ ?_ ?_); rfl; rfl) | refine qaA ?_ | refine SX.exit ?_ | refine qaF ?_ | refine qaD ?_)
    refine qaz rfl rfl (fun w' hl => ⟨by rw [treeOk_all hn hs (by omega)], hl.mod⟩)
  obtain ⟨b1, o1, ⟨up, kids, st, me, ru⟩, r1, rfl, hR1, hb1, hxk, hr1, hl1, hc1⟩ := h.get hlt
  obtain ⟨ka, kc, ra, rc, rfl, hk1, ht1, _⟩ := hr1
  replace hxk := hxk.out
  have hfx := hfit _ (List.mem_of_getElem? hxk)
  have hf1 : kids.length ≤ 1048576 := hfx.1
  have hf2 : ru.length ≤ 1048576 := hfx.2
  clear hfx
  simp only at hc1 hk1 ht1
  cases q1 : styleOk st
  · have hv := nodeOk_s (l := l) (i := k) (x := ⟨up, kids, st, me, ru⟩) q1
    repeat (first | refine qan ?_ | refine qaj ?_ | refine qaf ?_ | refine qad ?_ | refine SX.block ?_ | refine qaC ?_ | refine qaq rfl ?_ | (refine qaS rfl rfl rfl ?_) | (refine qau ?_; (first | refine qac (OpW.loadRowOld rfl hc1 (nodeRow_len _ _ _ _ _ _ _ _ _) (Nat.succ_pos _) (fun h => h)) rfl ?_ ?_ ?_ | refine qac (qaI (cells := nodeRow up ka kids.length kc st me ra ru.length rc) 0 rfl rfl rfl (nodeRow_style _ _ _ _ _ _ _ _ _)) rfl ?_ ?_ ?_ | refine qac (qaw 0 rfl rfl rfl) rfl ?_ ?_ ?_ | refine qac (qam 1 rfl rfl rfl) rfl ?_ ?_ ?_); rfl; rfl) | (refine qat ?_; (refine qac (qap rfl (fun w hl => sstyleC_any _ _)) rfl ?_ ?_ ?_); rfl; rfl) | (refine qak ?_; (refine qac (qae rfl) rfl ?_ ?_ ?_); rfl; rfl) | (refine qao ?_; (refine qac (qai rfl) rfl ?_ ?_ ?_); rfl; rfl) | (refine qal ?_; (refine qac (qag rfl) rfl ?_ ?_ ?_); rfl; rfl) | (refine l_len ?_; (refine qac (OpW.len rfl) rfl ?_ ?_ ?_); rfl; rfl) | (refine l_lss ?_; (refine qac (OpW.lssT rfl rfl (by omega)) rfl ?_ ?_ ?_); rfl; rfl) | (refine qaT ?_; (refine qac (OpW.not rfl) rfl ?_ ?_ ?_); rfl; rfl) | (refine qaE ?_; (refine qac (qav rfl rfl rfl) rfl ?_ ?_ ?_); rfl; rfl) | (refine qaM ?_; (refine qac (qaJ (by omega) rfl rfl) rfl ?_ ?_ ?_); rfl; rfl) | (refine qaR ?_; refine SXl.alloc ?_ ?_ (fun g => ?_); rfl; rfl) | (refine qay ?_; first | ((first | refine qaa 0 ?_ rfl rfl rfl rfl rfl rfl rfl ?_ | refine qaa 1 ?_ rfl rfl rfl rfl rfl rfl rfl ?_ | refine qaa 2 ?_ rfl rfl rfl rfl rfl rfl rfl ?_); rfl; simp only [List.set_cons_zero, List.set_cons_succ]) | ((first | refine qab 0 ?_ rfl rfl rfl rfl rfl rfl rfl ?_ | refine qab 1 ?_ rfl rfl rfl rfl rfl rfl rfl ?_ | refine qab 2 ?_ rfl rfl rfl rfl rfl rfl rfl ?_); rfl; simp only [over, List.set_cons_zero, List.set_cons_succ])) | (rw [q1]) | refine qaA ?_ | refine qax ?_ | refine qaH ?_)
    refine qaz rfl rfl (fun w' hl => ⟨by rw [treeOk_no hxk (hv)], hl.mod⟩)
  cases q2 : inB (depthF l (l.length + 1) ((k + 1 : Nat) : Int) (0 : Nat)) 1 4
  · have hv := nodeOk_d (x := ⟨up, kids, st, me, ru⟩) q2
    repeat (first | refine qan ?_ | refine qaj ?_ | refine qaf ?_ | refine qad ?_ | refine SX.block ?_ | refine qaC ?_ | refine qaq rfl ?_ | (refine qaS rfl rfl rfl ?_) | (refine qau ?_; (first | refine qac (OpW.loadRowOld rfl hc1 (nodeRow_len _ _ _ _ _ _ _ _ _) (Nat.succ_pos _) (fun h => h)) rfl ?_ ?_ ?_ | refine qac (qaI (cells := nodeRow up ka kids.length kc st me ra ru.length rc) 0 rfl rfl rfl (nodeRow_style _ _ _ _ _ _ _ _ _)) rfl ?_ ?_ ?_ | refine qac (qaw 0 rfl rfl rfl) rfl ?_ ?_ ?_ | refine qac (qam 1 rfl rfl rfl) rfl ?_ ?_ ?_); rfl; rfl) | (refine qat ?_; (first | refine qac (qap rfl (fun w hl => sstyleC_any _ _)) rfl ?_ ?_ ?_ | refine qac (qap rfl (fun w hl => sdepthOf_any l _ o _ c R _ (by omega) (h.keep hl.mod))) rfl ?_ ?_ ?_ | refine qac (qaL rfl (fun w _ => l01In_any _ _ _ _)) rfl ?_ ?_ ?_); rfl; rfl) | (refine qak ?_; (refine qac (qae rfl) rfl ?_ ?_ ?_); rfl; rfl) | (refine qao ?_; (refine qac (qai rfl) rfl ?_ ?_ ?_); rfl; rfl) | (refine qal ?_; (refine qac (qag rfl) rfl ?_ ?_ ?_); rfl; rfl) | (refine l_len ?_; (refine qac (OpW.len rfl) rfl ?_ ?_ ?_); rfl; rfl) | (refine l_add ?_; (refine qac (OpW.succ rfl rfl (by omega)) rfl ?_ ?_ ?_); rfl; rfl) | (refine l_lss ?_; (refine qac (OpW.lssT rfl rfl (by omega)) rfl ?_ ?_ ?_); rfl; rfl) | (refine qaT ?_; (refine qac (OpW.not rfl) rfl ?_ ?_ ?_); rfl; rfl) | (refine qaE ?_; (refine qac (qav rfl rfl rfl) rfl ?_ ?_ ?_); rfl; rfl) | (refine qaM ?_; (refine qac (qaJ (by omega) rfl rfl) rfl ?_ ?_ ?_); rfl; rfl) | (refine qaR ?_; refine SXl.alloc ?_ ?_ (fun g => ?_); rfl; rfl) | (refine qay ?_; first | ((first | refine qaa 0 ?_ rfl rfl rfl rfl rfl rfl rfl ?_ | refine qaa 1 ?_ rfl rfl rfl rfl rfl rfl rfl ?_ | refine qaa 2 ?_ rfl rfl rfl rfl rfl rfl rfl ?_); rfl; simp only [List.set_cons_zero, List.set_cons_succ]) | ((first | refine qab 0 ?_ rfl rfl rfl rfl rfl rfl rfl ?_ | refine qab 1 ?_ rfl rfl rfl rfl rfl rfl rfl ?_ | refine qab 2 ?_ rfl rfl rfl rfl rfl rfl rfl ?_); rfl; simp only [over, List.set_cons_zero, List.set_cons_succ])) | ((first | rw [q1] | rw [q2])) | refine qaA ?_ | refine qax ?_ | refine qaH ?_)
    refine qaz rfl rfl (fun w' hl => ⟨by rw [treeOk_no hxk (hv)], hl.mod⟩)
  by_cases u0 : up = 0
  · subst u0
    have hup : upOk l k ⟨0, kids, st, me, ru⟩ = true := rfl
    repeat (first | refine qan ?_ | refine qaj ?_ | refine qaf ?_ | refine qad ?_ | refine SX.block ?_ | refine qaC ?_ | refine qaq rfl ?_ | refine qas rfl ?_ | (refine qaS rfl rfl rfl ?_) | (refine qau ?_; (first | refine qac (OpW.loadRowOld rfl hc1 (nodeRow_len _ _ _ _ _ _ _ _ _) (Nat.succ_pos _) (fun h => h)) rfl ?_ ?_ ?_ | refine qac (qaw 0 rfl rfl rfl) rfl ?_ ?_ ?_ | refine qac (qam 1 rfl rfl rfl) rfl ?_ ?_ ?_ | refine qac (qaI 0 rfl rfl rfl rfl) rfl ?_ ?_ ?_); rfl; rfl) | (refine qat ?_; (first | refine qac (qap rfl (fun w hl => sstyleC_any _ _)) rfl ?_ ?_ ?_ | refine qac (qap rfl (fun w hl => sdepthOf_any l _ o _ c R _ (by omega) (h.keep hl.mod))) rfl ?_ ?_ ?_ | refine qac (qaL rfl (fun w _ => l01In_any _ _ _ _)) rfl ?_ ?_ ?_); rfl; rfl) | (refine qak ?_; (refine qac (qae rfl) rfl ?_ ?_ ?_); rfl; rfl) | (refine qao ?_; (refine qac (qai rfl) rfl ?_ ?_ ?_); rfl; rfl) | (refine qal ?_; (refine qac (qag rfl) rfl ?_ ?_ ?_); rfl; rfl) | (refine l_len ?_; (refine qac (OpW.len rfl) rfl ?_ ?_ ?_); rfl; rfl) | (refine l_add ?_; (refine qac (OpW.succ rfl rfl (by omega)) rfl ?_ ?_ ?_); rfl; rfl) | (refine l_lss ?_; (refine qac (OpW.lssT rfl rfl (by omega)) rfl ?_ ?_ ?_); rfl; rfl) | (refine l_neq ?_; (refine qac (OpW.neqF rfl rfl (by omega)) rfl ?_ ?_ ?_); rfl; rfl) | (refine qaT ?_; (refine qac (OpW.not rfl) rfl ?_ ?_ ?_); rfl; rfl) | (refine qaE ?_; (refine qac (qav rfl rfl rfl) rfl ?_ ?_ ?_); rfl; rfl) | (refine qaM ?_; (refine qac (qaJ (by omega) rfl rfl) rfl ?_ ?_ ?_); rfl; rfl) | (refine qaR ?_; refine SXl.alloc ?_ ?_ (fun g => ?_); rfl; rfl) | (refine qay ?_; first | ((first | refine qaa 0 ?_ rfl rfl rfl rfl rfl rfl rfl ?_ | refine qaa 1 ?_ rfl rfl rfl rfl rfl rfl rfl ?_ | refine qaa 2 ?_ rfl rfl rfl rfl rfl rfl rfl ?_); rfl; simp only [List.set_cons_zero, List.set_cons_succ]) | ((first | refine qab 0 ?_ rfl rfl rfl rfl rfl rfl rfl ?_ | refine qab 1 ?_ rfl rfl rfl rfl rfl rfl rfl ?_ | refine qab 2 ?_ rfl rfl rfl rfl rfl rfl rfl ?_); rfl; simp only [over, List.set_cons_zero, List.set_cons_succ])) | ((first | rw [q1] | rw [q2])))
    refine SX.loopi (fun j : Nat => j ≤ kids.length ∧ ∀ i y, i < j → kids[i]? = some y → kidOk l k y = true) (fun j => kids.length - j) (fun _ => [⟨g, nodeRow 0 ka kids.length kc st me ra ru.length rc, 86⟩, ⟨gt, [.slice (some ⟨b1, o1, none⟩) l.length c], 37⟩]) (fun _ => []) (fun _ => []) (fun j => [(1, .pointer (some ⟨gt, 0, none⟩)), (4, .pointer (some ⟨g, 0, none⟩)), (3, .int .i64 k), (5, .int .i64 j)]) 0 ⟨Nat.zero_le _, fun i x h => absurd h (Nat.not_lt_zero _)⟩ ?_ (fun _ hl => hl) ?_
    · (repeat (first | exact subF_nil _ | (refine subF_cons rfl ?_) | (refine subF_consv rfl (by rfl) ?_)))
    rintro j ⟨hj, hks⟩
    by_cases hjl : j < kids.length
    · obtain ⟨b3, o3, y, e3, hR3, hb3, hyk, hc3⟩ := IntSlice.get hk1 hjl
      subst e3
      replace hyk := hyk.out
      cases p1 : inB y 1 l.length
      · have hv := nodeOk_k (l := l) (i := k) (x := ⟨0, kids, st, me, ru⟩) hyk (by simp [kidOk, p1])
        repeat (first | refine qan ?_ | refine qaj ?_ | refine qaf ?_ | refine qad ?_ | refine SX.block ?_ | refine qaC ?_ | refine qaq rfl ?_ | (refine qau ?_; (refine qac (qaw 0 rfl rfl rfl) rfl ?_ ?_ ?_); rfl; rfl) | (refine qak ?_; (refine qac (qae rfl) rfl ?_ ?_ ?_); rfl; rfl) | (refine qao ?_; (refine qac (qai rfl) rfl ?_ ?_ ?_); rfl; rfl) | (refine qal ?_; (refine qac (qag rfl) rfl ?_ ?_ ?_); rfl; rfl) | (refine l_len ?_; (refine qac (OpW.len rfl) rfl ?_ ?_ ?_); rfl; rfl) | (refine l_lss ?_; (refine qac (OpW.lssT rfl rfl (by omega)) rfl ?_ ?_ ?_); rfl; rfl) | refine SX.drawn (by kernel_rfl) (by kernel_rfl) ?_ | refine SXr.nil ?_ | (refine SXr.no rfl rfl rfl ?_) | (refine r_call ?_; (refine SXr.v (qap rfl (fun w hl => sisNode_any _ _ _ _ _)) rfl ?_ ?_ ?_); rfl; rfl) | (refine r_load ?_; (first | refine SXr.v (qaw 0 rfl rfl rfl) rfl ?_ ?_ ?_ | refine SXr.v (OpW.loadOld rfl (by assumption) (fun h => h)) rfl ?_ ?_ ?_ | refine SXr.v (qam 1 rfl rfl rfl) rfl ?_ ?_ ?_); rfl; rfl) | (refine r_fieldAddr ?_; (refine SXr.v (qae rfl) rfl ?_ ?_ ?_); rfl; rfl) | (refine r_move ?_; (refine SXr.v (qai rfl) rfl ?_ ?_ ?_); rfl; rfl) | (refine r_not ?_; (refine SXr.v (OpW.not rfl) rfl ?_ ?_ ?_); rfl; rfl) | (refine r_pick ?_; (refine SXr.v (qav rfl rfl rfl) rfl ?_ ?_ ?_); rfl; rfl) | (refine r_indexAddr ?_; (refine SXr.v (qaO (by omega) rfl rfl) rfl ?_ ?_ ?_); rfl; rfl) | (rw [p1]) | refine qaA ?_ | refine qax ?_ | refine qaH ?_)
        refine qaz rfl rfl (fun w' hl => ⟨by rw [treeOk_no hxk (hv)], hl.mod⟩)
      obtain ⟨ky, rfl, hky⟩ := inB_node p1
      obtain ⟨b2, o2, z, r2, e2, hR2, hb2, hzk, hr2, hl2, hc2⟩ := h.get hky
      obtain ⟨rfl, rfl⟩ : b1 = b2 ∧ o1 = o2 := by simpa using e2
      obtain ⟨kb, kd, rb, rd, rfl, _, _, _⟩ := hr2
      have hkid : kidOk l k ((ky + 1 : Nat) : Int) = decide (z.up = ((k + 1 : Nat) : Int)) := kidOk_at p1 hzk.out
      by_cases p2 : z.up = ((k + 1 : Nat) : Int)
      · repeat (first | refine qan ?_ | refine qaj ?_ | refine qaf ?_ | refine qad ?_ | refine SX.block ?_ | refine qaC ?_ | refine qaq rfl ?_ | refine qas rfl ?_ | (refine qau ?_; (refine qac (qaw 0 rfl rfl rfl) rfl ?_ ?_ ?_); rfl; rfl) | (refine qak ?_; (refine qac (qae rfl) rfl ?_ ?_ ?_); rfl; rfl) | (refine qao ?_; (refine qac (qai rfl) rfl ?_ ?_ ?_); rfl; rfl) | (refine qal ?_; (refine qac (qag rfl) rfl ?_ ?_ ?_); rfl; rfl) | (refine l_len ?_; (refine qac (OpW.len rfl) rfl ?_ ?_ ?_); rfl; rfl) | (refine l_add ?_; (refine qac (OpW.succ rfl rfl (by omega)) rfl ?_ ?_ ?_); rfl; rfl) | (refine l_lss ?_; (refine qac (OpW.lssT rfl rfl (by omega)) rfl ?_ ?_ ?_); rfl; rfl) | refine SX.drawn (by kernel_rfl) (by kernel_rfl) ?_ | refine SXr.nil ?_ | (refine r_call ?_; (first | refine SXr.v (qap rfl (fun w hl => sisNode_any _ _ _ _ _)) rfl ?_ ?_ ?_ | refine SXr.v (qap rfl (fun w hl => snode_any _ _ _ _ ky _ _ _ _ _ _ _ _ _ w (by omega) hky (fun j v hv => hl.old (hc2 j v hv) (fun h => h)))) rfl ?_ ?_ ?_); rfl; rfl) | (refine r_field ?_; (refine SXr.v (OpW.field rfl (nodeRow_a0 _ _ _ _ _ _ _ _ _)) rfl ?_ ?_ ?_); rfl; rfl) | (refine r_load ?_; (first | refine SXr.v (qaw 0 rfl rfl rfl) rfl ?_ ?_ ?_ | refine SXr.v (OpW.loadOld rfl (by assumption) (fun h => h)) rfl ?_ ?_ ?_ | refine SXr.v (qam 1 rfl rfl rfl) rfl ?_ ?_ ?_); rfl; rfl) | (refine r_fieldAddr ?_; (refine SXr.v (qae rfl) rfl ?_ ?_ ?_); rfl; rfl) | (refine r_move ?_; (refine SXr.v (qai rfl) rfl ?_ ?_ ?_); rfl; rfl) | (refine r_add ?_; (refine SXr.v (OpW.succ rfl rfl (by omega)) rfl ?_ ?_ ?_); rfl; rfl) | (refine r_neq ?_; (refine SXr.v (OpW.neqF rfl rfl (by omega)) rfl ?_ ?_ ?_); rfl; rfl) | (refine r_not ?_; (refine SXr.v (OpW.not rfl) rfl ?_ ?_ ?_); rfl; rfl) | (refine r_pick ?_; (refine SXr.v (qav rfl rfl rfl) rfl ?_ ?_ ?_); rfl; rfl) | (refine r_indexAddr ?_; (refine SXr.v (qaO (by omega) rfl rfl) rfl ?_ ?_ ?_); rfl; rfl) | (rw [p1]) | refine qar ?_)
        refine SQ.roundi (j + 1) ⟨by omega, pto_succ hks hyk (by rw [hkid]; exact decide_eq_true p2)⟩ (by omega) ?_ (fun _ hl => hl)
        (repeat (first | exact subF_nil _ | (refine subF_cons rfl ?_) | (refine subF_consv rfl (by rfl) ?_)))
      · have hv := nodeOk_k (l := l) (i := k) (x := ⟨0, kids, st, me, ru⟩) hyk (by rw [hkid]; exact decide_eq_false p2)
        repeat (first | refine qan ?_ | refine qaj ?_ | refine qaf ?_ | refine qad ?_ | refine SX.block ?_ | refine qaC ?_ | refine qaq rfl ?_ | (refine qau ?_; (refine qac (qaw 0 rfl rfl rfl) rfl ?_ ?_ ?_); rfl; rfl) | (refine qak ?_; (refine qac (qae rfl) rfl ?_ ?_ ?_); rfl; rfl) | (refine qao ?_; (refine qac (qai rfl) rfl ?_ ?_ ?_); rfl; rfl) | (refine qal ?_; (refine qac (qag rfl) rfl ?_ ?_ ?_); rfl; rfl) | (refine l_len ?_; (refine qac (OpW.len rfl) rfl ?_ ?_ ?_); rfl; rfl) | (refine l_lss ?_; (refine qac (OpW.lssT rfl rfl (by omega)) rfl ?_ ?_ ?_); rfl; rfl) | refine SX.drawn (by kernel_rfl) (by kernel_rfl) ?_ | refine SXr.nil ?_ | (refine r_call ?_; (first | refine SXr.v (qap rfl (fun w hl => sisNode_any _ _ _ _ _)) rfl ?_ ?_ ?_ | refine SXr.v (qap rfl (fun w hl => snode_any _ _ _ _ ky _ _ _ _ _ _ _ _ _ w (by omega) hky (fun j v hv => hl.old (hc2 j v hv) (fun h => h)))) rfl ?_ ?_ ?_); rfl; rfl) | (refine r_field ?_; (refine SXr.v (OpW.field rfl (nodeRow_a0 _ _ _ _ _ _ _ _ _)) rfl ?_ ?_ ?_); rfl; rfl) | (refine r_load ?_; (first | refine SXr.v (qaw 0 rfl rfl rfl) rfl ?_ ?_ ?_ | refine SXr.v (OpW.loadOld rfl (by assumption) (fun h => h)) rfl ?_ ?_ ?_ | refine SXr.v (qam 1 rfl rfl rfl) rfl ?_ ?_ ?_); rfl; rfl) | (refine r_fieldAddr ?_; (refine SXr.v (qae rfl) rfl ?_ ?_ ?_); rfl; rfl) | (refine r_move ?_; (refine SXr.v (qai rfl) rfl ?_ ?_ ?_); rfl; rfl) | (refine r_add ?_; (refine SXr.v (OpW.succ rfl rfl (by omega)) rfl ?_ ?_ ?_); rfl; rfl) | (refine r_neq ?_; (refine SXr.v (OpW.neqT rfl rfl (by omega)) rfl ?_ ?_ ?_); rfl; rfl) | (refine r_not ?_; (refine SXr.v (OpW.not rfl) rfl ?_ ?_ ?_); rfl; rfl) | (refine r_pick ?_; (refine SXr.v (qav rfl rfl rfl) rfl ?_ ?_ ?_); rfl; rfl) | (refine r_indexAddr ?_; (refine SXr.v (qaO (by omega) rfl rfl) rfl ?_ ?_ ?_); rfl; rfl) | (rw [p1]) | refine qaA ?_ | refine qax ?_ | refine qaH ?_)
        refine qaz rfl rfl (fun w' hl => ⟨by rw [treeOk_no hxk (hv)], hl.mod⟩)
    have hka := all_ints (p := kidOk l k) hks (by omega)
    cases me
    · by_cases r0 : ru.length = 0
      · repeat (first | refine qan ?_ | refine qaj ?_ | refine qaf ?_ | refine qad ?_ | refine qaC ?_ | refine qas rfl ?_ | (refine qaS rfl rfl rfl ?_) | (refine qau ?_; (refine qac (qaw 0 rfl rfl rfl) rfl ?_ ?_ ?_); rfl; rfl) | (refine qak ?_; (refine qac (qae rfl) rfl ?_ ?_ ?_); rfl; rfl) | (refine qao ?_; (refine qac (qai rfl) rfl ?_ ?_ ?_); rfl; rfl) | (refine qal ?_; (refine qac (qag rfl) rfl ?_ ?_ ?_); rfl; rfl) | (refine l_len ?_; (refine qac (OpW.len rfl) rfl ?_ ?_ ?_); rfl; rfl) | (refine l_add ?_; (refine qac (OpW.succ rfl rfl (by omega)) rfl ?_ ?_ ?_); rfl; rfl) | (refine l_gtr ?_; (refine qac (OpW.gtrF rfl rfl (by omega)) rfl ?_ ?_ ?_); rfl; rfl) | (refine l_lss ?_; (refine qac (OpW.lssF rfl rfl (by omega)) rfl ?_ ?_ ?_); rfl; rfl) | (refine qaT ?_; (refine qac (OpW.not rfl) rfl ?_ ?_ ?_); rfl; rfl) | (refine qaE ?_; (refine qac (qav rfl rfl rfl) rfl ?_ ?_ ?_); rfl; rfl) | refine SX.exit ?_ | refine qaF ?_ | refine qar ?_ | refine qaD ?_)
        refine SQ.roundi (k + 1) ⟨by omega, pto_succ hs hxk (nodeOk_y q1 q2 hka hup (by simp [tabOk, r0]))⟩ (by omega) ?_ (fun _ hl => hl.drop1)
        (repeat (first | exact subF_nil _ | (refine subF_cons rfl ?_) | (refine subF_consv rfl (by rfl) ?_)))
      · have hv := nodeOk_t (l := l) (i := k) (x := ⟨0, kids, st, false, ru⟩) (by simp [tabOk]; intro e; exact r0 (by rw [e]; rfl))
        repeat (first | refine qan ?_ | refine qaj ?_ | refine qaf ?_ | refine qad ?_ | refine qaq rfl ?_ | refine qas rfl ?_ | (refine qaS rfl rfl rfl ?_) | (refine qau ?_; (refine qac (qaw 0 rfl rfl rfl) rfl ?_ ?_ ?_); rfl; rfl) | (refine qak ?_; (refine qac (qae rfl) rfl ?_ ?_ ?_); rfl; rfl) | (refine qao ?_; (refine qac (qai rfl) rfl ?_ ?_ ?_); rfl; rfl) | (refine qal ?_; (refine qac (qag rfl) rfl ?_ ?_ ?_); rfl; rfl) | (refine l_len ?_; (refine qac (OpW.len rfl) rfl ?_ ?_ ?_); rfl; rfl) | (refine l_gtr ?_; (refine qac (OpW.gtrT rfl rfl (by omega)) rfl ?_ ?_ ?_); rfl; rfl) | (refine l_lss ?_; (refine qac (OpW.lssF rfl rfl (by omega)) rfl ?_ ?_ ?_); rfl; rfl) | (refine qaT ?_; (refine qac (OpW.not rfl) rfl ?_ ?_ ?_); rfl; rfl) | (refine qaE ?_; (refine qac (qav rfl rfl rfl) rfl ?_ ?_ ?_); rfl; rfl) | refine qaA ?_ | refine SX.exit ?_ | refine qax ?_ | refine qaF ?_ | refine qaH ?_ | refine qaD ?_)
        refine qaz rfl rfl (fun w' hl => ⟨by rw [treeOk_no hxk (hv)], hl.mod⟩)
    · cases tq : tableOk ru
      · have hv := nodeOk_t (l := l) (i := k) (x := ⟨0, kids, st, true, ru⟩) (by simp [tabOk, tq])
        repeat (first | refine qan ?_ | refine qaj ?_ | refine qaf ?_ | refine qad ?_ | refine qaq rfl ?_ | refine qas rfl ?_ | (refine qaS rfl rfl rfl ?_) | (refine qau ?_; (first | refine qac (qaI (cells := nodeRow _ _ _ _ _ _ _ _ _) 0 rfl rfl rfl (nodeRow_tab _ _ _ _ _ _ _ _ _)) rfl ?_ ?_ ?_ | refine qac (qaw 0 rfl rfl rfl) rfl ?_ ?_ ?_); rfl; rfl) | (refine qat ?_; (refine qac (qap rfl (fun w hl => stableOk_any ru ra rc R _ hf2 (ht1.flatKeep hl.mod))) rfl ?_ ?_ ?_); rfl; rfl) | (refine qak ?_; (refine qac (qae rfl) rfl ?_ ?_ ?_); rfl; rfl) | (refine qao ?_; (refine qac (qai rfl) rfl ?_ ?_ ?_); rfl; rfl) | (refine qal ?_; (refine qac (qag rfl) rfl ?_ ?_ ?_); rfl; rfl) | (refine l_len ?_; (refine qac (OpW.len rfl) rfl ?_ ?_ ?_); rfl; rfl) | (refine l_lss ?_; (refine qac (OpW.lssF rfl rfl (by omega)) rfl ?_ ?_ ?_); rfl; rfl) | (refine qaT ?_; (refine qac (OpW.not rfl) rfl ?_ ?_ ?_); rfl; rfl) | (refine qaE ?_; (refine qac (qav rfl rfl rfl) rfl ?_ ?_ ?_); rfl; rfl) | (rw [tq]) | refine qaA ?_ | refine SX.exit ?_ | refine qax ?_ | refine qaF ?_ | refine qaH ?_ | refine qaD ?_)
        refine qaz rfl rfl (fun w' hl => ⟨by rw [treeOk_no hxk (hv)], hl.mod⟩)
      by_cases k0 : kids.length = 0
      · repeat (first | refine qan ?_ | refine qaj ?_ | refine qaf ?_ | refine qad ?_ | refine qaC ?_ | refine qas rfl ?_ | (refine qaS rfl rfl rfl ?_) | (refine qau ?_; (first | refine qac (qaI (cells := nodeRow _ _ _ _ _ _ _ _ _) 0 rfl rfl rfl (nodeRow_tab _ _ _ _ _ _ _ _ _)) rfl ?_ ?_ ?_ | refine qac (qaw 0 rfl rfl rfl) rfl ?_ ?_ ?_); rfl; rfl) | (refine qat ?_; (refine qac (qap rfl (fun w hl => stableOk_any ru ra rc R _ hf2 (ht1.flatKeep hl.mod))) rfl ?_ ?_ ?_); rfl; rfl) | (refine qak ?_; (refine qac (qae rfl) rfl ?_ ?_ ?_); rfl; rfl) | (refine qao ?_; (refine qac (qai rfl) rfl ?_ ?_ ?_); rfl; rfl) | (refine qal ?_; (refine qac (qag rfl) rfl ?_ ?_ ?_); rfl; rfl) | (refine l_len ?_; (refine qac (OpW.len rfl) rfl ?_ ?_ ?_); rfl; rfl) | (refine l_add ?_; (refine qac (OpW.succ rfl rfl (by omega)) rfl ?_ ?_ ?_); rfl; rfl) | (refine l_gtr ?_; (refine qac (OpW.gtrF rfl rfl (by omega)) rfl ?_ ?_ ?_); rfl; rfl) | (refine l_lss ?_; (refine qac (OpW.lssF rfl rfl (by omega)) rfl ?_ ?_ ?_); rfl; rfl) | (refine qaT ?_; (refine qac (OpW.not rfl) rfl ?_ ?_ ?_); rfl; rfl) | (refine qaE ?_; (refine qac (qav rfl rfl rfl) rfl ?_ ?_ ?_); rfl; rfl) | (rw [tq]) | refine SX.exit ?_ | refine qaF ?_ | refine qar ?_ | refine qaD ?_)
        refine SQ.roundi (k + 1) ⟨by omega, pto_succ hs hxk (nodeOk_y q1 q2 hka hup (by simp [tabOk, tq, k0]))⟩ (by omega) ?_ (fun _ hl => hl.drop1)
        (repeat (first | exact subF_nil _ | (refine subF_cons rfl ?_) | (refine subF_consv rfl (by rfl) ?_)))
      · have hv := nodeOk_t (l := l) (i := k) (x := ⟨0, kids, st, true, ru⟩) (by simp [tabOk, tq]; intro e; exact k0 (by rw [e]; rfl))
        repeat (first | refine qan ?_ | refine qaj ?_ | refine qaf ?_ | refine qad ?_ | refine qaq rfl ?_ | refine qas rfl ?_ | (refine qaS rfl rfl rfl ?_) | (refine qau ?_; (first | refine qac (qaI (cells := nodeRow _ _ _ _ _ _ _ _ _) 0 rfl rfl rfl (nodeRow_tab _ _ _ _ _ _ _ _ _)) rfl ?_ ?_ ?_ | refine qac (qaw 0 rfl rfl rfl) rfl ?_ ?_ ?_); rfl; rfl) | (refine qat ?_; (refine qac (qap rfl (fun w hl => stableOk_any ru ra rc R _ hf2 (ht1.flatKeep hl.mod))) rfl ?_ ?_ ?_); rfl; rfl) | (refine qak ?_; (refine qac (qae rfl) rfl ?_ ?_ ?_); rfl; rfl) | (refine qao ?_; (refine qac (qai rfl) rfl ?_ ?_ ?_); rfl; rfl) | (refine qal ?_; (refine qac (qag rfl) rfl ?_ ?_ ?_); rfl; rfl) | (refine l_len ?_; (refine qac (OpW.len rfl) rfl ?_ ?_ ?_); rfl; rfl) | (refine l_gtr ?_; (refine qac (OpW.gtrT rfl rfl (by omega)) rfl ?_ ?_ ?_); rfl; rfl) | (refine l_lss ?_; (refine qac (OpW.lssF rfl rfl (by omega)) rfl ?_ ?_ ?_); rfl; rfl) | (refine qaT ?_; (refine qac (OpW.not rfl) rfl ?_ ?_ ?_); rfl; rfl) | (refine qaE ?_; (refine qac (qav rfl rfl rfl) rfl ?_ ?_ ?_); rfl; rfl) | (rw [tq]) | refine qaA ?_ | refine SX.exit ?_ | refine qax ?_ | refine qaF ?_ | refine qaH ?_ | refine qaD ?_)
        refine qaz rfl rfl (fun w' hl => ⟨by rw [treeOk_no hxk (hv)], hl.mod⟩)
  have hu0 : up ≠ 0 := u0
  obtain ⟨ku, rfl, hku⟩ := depth_up hxk q2 u0
  obtain ⟨b5, o5, z, r5, e5, hR5, hb5, hzk, hr5, hl5, hc5⟩ := h.get hku
  obtain ⟨rfl, rfl⟩ : b1 = b5 ∧ o1 = o5 := by simpa using e5
  obtain ⟨kb, kd, rb, rd, rfl, hk5, _, _⟩ := hr5
  have hfz : z.kids.length ≤ 1048576 := (hfit _ (List.mem_of_getElem? hzk.out)).1
  have hup := upOk_at (l := l) (i := k) (x := ⟨((ku + 1 : Nat) : Int), kids, st, me, ru⟩) rfl hzk.out
  by_cases c1 : z.kids.count ((k + 1 : Nat) : Int) = 1
  rotate_left
  · rw [decide_eq_false c1] at hup
    have hv := nodeOk_u hup
    repeat (first | refine qan ?_ | refine qaj ?_ | refine qaf ?_ | refine qad ?_ | refine SX.block ?_ | refine qaC ?_ | refine qaq rfl ?_ | (refine qau ?_; (first | refine qac (OpW.loadRowOld rfl hc1 (nodeRow_len _ _ _ _ _ _ _ _ _) (Nat.succ_pos _) (fun h => h)) rfl ?_ ?_ ?_ | refine qac (qaI (cells := nodeRow _ ka kids.length kc st me ra ru.length rc) 0 rfl rfl rfl (nodeRow_style _ _ _ _ _ _ _ _ _)) rfl ?_ ?_ ?_ | refine qac (qaw 0 rfl rfl rfl) rfl ?_ ?_ ?_ | refine qac (qam 1 rfl rfl rfl) rfl ?_ ?_ ?_); rfl; rfl) | (refine qat ?_; (first | refine qac (qap rfl (fun w hl => sstyleC_any _ _)) rfl ?_ ?_ ?_ | refine qac (qap rfl (fun w hl => sdepthOf_any l _ o _ c R _ (by omega) (h.keep hl.mod))) rfl ?_ ?_ ?_ | refine qac (qap rfl (fun w hl => snode_any _ _ _ _ ku _ _ _ _ _ _ _ _ _ w (by omega) hku (fun j v hv => hl.old (hc5 j v hv) (fun h => h)))) rfl ?_ ?_ ?_ | refine qac (qap rfl (fun w hl => shas_any z.kids _ kb kd R _ hfz (hk5.flatKeep hl.mod))) rfl ?_ ?_ ?_ | refine qac (qaL rfl (fun w _ => l01In_any _ _ _ _)) rfl ?_ ?_ ?_); rfl; rfl) | (refine l_field ?_; (refine qac (OpW.field rfl (nodeRow_a1 _ _ _ _ _ _ _ _ _)) rfl ?_ ?_ ?_); rfl; rfl) | (refine qak ?_; (refine qac (qae rfl) rfl ?_ ?_ ?_); rfl; rfl) | (refine qao ?_; (refine qac (qai rfl) rfl ?_ ?_ ?_); rfl; rfl) | (refine qal ?_; (refine qac (qag rfl) rfl ?_ ?_ ?_); rfl; rfl) | (refine l_len ?_; (refine qac (OpW.len rfl) rfl ?_ ?_ ?_); rfl; rfl) | (refine l_add ?_; (refine qac (OpW.succ rfl rfl (by omega)) rfl ?_ ?_ ?_); rfl; rfl) | (refine l_lss ?_; (refine qac (OpW.lssT rfl rfl (by omega)) rfl ?_ ?_ ?_); rfl; rfl) | (refine l_neq ?_; (refine qac (OpW.neqT rfl rfl (by omega)) rfl ?_ ?_ ?_); rfl; rfl) | (refine qaT ?_; (refine qac (OpW.not rfl) rfl ?_ ?_ ?_); rfl; rfl) | (refine qaE ?_; (refine qac (qav rfl rfl rfl) rfl ?_ ?_ ?_); rfl; rfl) | (refine qaM ?_; (refine qac (qaJ (by omega) rfl rfl) rfl ?_ ?_ ?_); rfl; rfl) | (refine qaR ?_; refine SXl.alloc ?_ ?_ (fun g => ?_); rfl; rfl) | (refine qay ?_; first | ((first | refine qaa 0 ?_ rfl rfl rfl rfl rfl rfl rfl ?_ | refine qaa 1 ?_ rfl rfl rfl rfl rfl rfl rfl ?_ | refine qaa 2 ?_ rfl rfl rfl rfl rfl rfl rfl ?_); rfl; simp only [List.set_cons_zero, List.set_cons_succ]) | ((first | refine qab 0 ?_ rfl rfl rfl rfl rfl rfl rfl ?_ | refine qab 1 ?_ rfl rfl rfl rfl rfl rfl rfl ?_ | refine qab 2 ?_ rfl rfl rfl rfl rfl rfl rfl ?_); rfl; simp only [over, List.set_cons_zero, List.set_cons_succ])) | ((first | rw [q1] | rw [q2])) | refine qaA ?_ | refine qax ?_ | refine qaH ?_)
    refine qaz rfl rfl (fun w' hl => ⟨by rw [treeOk_no hxk (hv)], hl.mod⟩)
  rw [decide_eq_true c1] at hup
  repeat (first | refine qan ?_ | refine qaj ?_ | refine qaf ?_ | refine qad ?_ | refine SX.block ?_ | refine qaC ?_ | refine qaq rfl ?_ | refine qas rfl ?_ | (refine qau ?_; (first | refine qac (OpW.loadRowOld rfl hc1 (nodeRow_len _ _ _ _ _ _ _ _ _) (Nat.succ_pos _) (fun h => h)) rfl ?_ ?_ ?_ | refine qac (qaI (cells := nodeRow _ ka kids.length kc st me ra ru.length rc) 0 rfl rfl rfl (nodeRow_style _ _ _ _ _ _ _ _ _)) rfl ?_ ?_ ?_ | refine qac (qaw 0 rfl rfl rfl) rfl ?_ ?_ ?_ | refine qac (qam 1 rfl rfl rfl) rfl ?_ ?_ ?_); rfl; rfl) | (refine qat ?_; (first | refine qac (qap rfl (fun w hl => sstyleC_any _ _)) rfl ?_ ?_ ?_ | refine qac (qap rfl (fun w hl => sdepthOf_any l _ o _ c R _ (by omega) (h.keep hl.mod))) rfl ?_ ?_ ?_ | refine qac (qap rfl (fun w hl => snode_any _ _ _ _ ku _ _ _ _ _ _ _ _ _ w (by omega) hku (fun j v hv => hl.old (hc5 j v hv) (fun h => h)))) rfl ?_ ?_ ?_ | refine qac (qap rfl (fun w hl => shas_any z.kids _ kb kd R _ hfz (hk5.flatKeep hl.mod))) rfl ?_ ?_ ?_ | refine qac (qaL rfl (fun w _ => l01In_any _ _ _ _)) rfl ?_ ?_ ?_); rfl; rfl) | (refine l_field ?_; (refine qac (OpW.field rfl (nodeRow_a1 _ _ _ _ _ _ _ _ _)) rfl ?_ ?_ ?_); rfl; rfl) | (refine qak ?_; (refine qac (qae rfl) rfl ?_ ?_ ?_); rfl; rfl) | (refine qao ?_; (refine qac (qai rfl) rfl ?_ ?_ ?_); rfl; rfl) | (refine qal ?_; (refine qac (qag rfl) rfl ?_ ?_ ?_); rfl; rfl) | (refine l_len ?_; (refine qac (OpW.len rfl) rfl ?_ ?_ ?_); rfl; rfl) | (refine l_add ?_; (refine qac (OpW.succ rfl rfl (by omega)) rfl ?_ ?_ ?_); rfl; rfl) | (refine l_lss ?_; (refine qac (OpW.lssT rfl rfl (by omega)) rfl ?_ ?_ ?_); rfl; rfl) | (refine l_neq ?_; (first | refine qac (OpW.neqT rfl rfl (by omega)) rfl ?_ ?_ ?_ | refine qac (OpW.neqF rfl rfl (by omega)) rfl ?_ ?_ ?_); rfl; rfl) | (refine qaT ?_; (refine qac (OpW.not rfl) rfl ?_ ?_ ?_); rfl; rfl) | (refine qaE ?_; (refine qac (qav rfl rfl rfl) rfl ?_ ?_ ?_); rfl; rfl) | (refine qaM ?_; (refine qac (qaJ (by omega) rfl rfl) rfl ?_ ?_ ?_); rfl; rfl) | (refine qaR ?_; refine SXl.alloc ?_ ?_ (fun g => ?_); rfl; rfl) | (refine qay ?_; first | ((first | refine qaa 0 ?_ rfl rfl rfl rfl rfl rfl rfl ?_ | refine qaa 1 ?_ rfl rfl rfl rfl rfl rfl rfl ?_ | refine qaa 2 ?_ rfl rfl rfl rfl rfl rfl rfl ?_); rfl; simp only [List.set_cons_zero, List.set_cons_succ]) | ((first | refine qab 0 ?_ rfl rfl rfl rfl rfl rfl rfl ?_ | refine qab 1 ?_ rfl rfl rfl rfl rfl rfl rfl ?_ | refine qab 2 ?_ rfl rfl rfl rfl rfl rfl rfl ?_); rfl; simp only [over, List.set_cons_zero, List.set_cons_succ])) | ((first | rw [q1] | rw [q2])))
  refine SX.loopi (fun j : Nat => j ≤ kids.length ∧ ∀ i y, i < j → kids[i]? = some y → kidOk l k y = true) (fun j => kids.length - j) (fun _ => [⟨g, nodeRow ((ku + 1 : Nat) : Int) ka kids.length kc st me ra ru.length rc, 86⟩, ⟨gt, [.slice (some ⟨b1, o1, none⟩) l.length c], 37⟩]) (fun _ => []) (fun _ => []) (fun j => [(1, .pointer (some ⟨gt, 0, none⟩)), (4, .pointer (some ⟨g, 0, none⟩)), (3, .int .i64 k), (5, .int .i64 j)]) 0 ⟨Nat.zero_le _, fun i x h => absurd h (Nat.not_lt_zero _)⟩ ?_ (fun _ hl => hl) ?_
  · (repeat (first | exact subF_nil _ | (refine subF_cons rfl ?_) | (refine subF_consv rfl (by rfl) ?_)))
  rintro j ⟨hj, hks⟩
  by_cases hjl : j < kids.length
  · obtain ⟨b3, o3, y, e3, hR3, hb3, hyk, hc3⟩ := IntSlice.get hk1 hjl
    subst e3
    replace hyk := hyk.out
    cases p1 : inB y 1 l.length
    · have hv := nodeOk_k (l := l) (i := k) (x := ⟨((ku + 1 : Nat) : Int), kids, st, me, ru⟩) hyk (by simp [kidOk, p1])
      repeat (first | refine qan ?_ | refine qaj ?_ | refine qaf ?_ | refine qad ?_ | refine SX.block ?_ | refine qaC ?_ | refine qaq rfl ?_ | (refine qau ?_; (refine qac (qaw 0 rfl rfl rfl) rfl ?_ ?_ ?_); rfl; rfl) | (refine qak ?_; (refine qac (qae rfl) rfl ?_ ?_ ?_); rfl; rfl) | (refine qao ?_; (refine qac (qai rfl) rfl ?_ ?_ ?_); rfl; rfl) | (refine qal ?_; (refine qac (qag rfl) rfl ?_ ?_ ?_); rfl; rfl) | (refine l_len ?_; (refine qac (OpW.len rfl) rfl ?_ ?_ ?_); rfl; rfl) | (refine l_lss ?_; (refine qac (OpW.lssT rfl rfl (by omega)) rfl ?_ ?_ ?_); rfl; rfl) | refine SX.drawn (by kernel_rfl) (by kernel_rfl) ?_ | refine SXr.nil ?_ | (refine SXr.no rfl rfl rfl ?_) | (refine r_call ?_; (refine SXr.v (qap rfl (fun w hl => sisNode_any _ _ _ _ _)) rfl ?_ ?_ ?_); rfl; rfl) | (refine r_load ?_; (first | refine SXr.v (qaw 0 rfl rfl rfl) rfl ?_ ?_ ?_ | refine SXr.v (OpW.loadOld rfl (by assumption) (fun h => h)) rfl ?_ ?_ ?_ | refine SXr.v (qam 1 rfl rfl rfl) rfl ?_ ?_ ?_); rfl; rfl) | (refine r_fieldAddr ?_; (refine SXr.v (qae rfl) rfl ?_ ?_ ?_); rfl; rfl) | (refine r_move ?_; (refine SXr.v (qai rfl) rfl ?_ ?_ ?_); rfl; rfl) | (refine r_not ?_; (refine SXr.v (OpW.not rfl) rfl ?_ ?_ ?_); rfl; rfl) | (refine r_pick ?_; (refine SXr.v (qav rfl rfl rfl) rfl ?_ ?_ ?_); rfl; rfl) | (refine r_indexAddr ?_; (refine SXr.v (qaO (by omega) rfl rfl) rfl ?_ ?_ ?_); rfl; rfl) | (rw [p1]) | refine qaA ?_ | refine qax ?_ | refine qaH ?_)
      refine qaz rfl rfl (fun w' hl => ⟨by rw [treeOk_no hxk (hv)], hl.mod⟩)
    obtain ⟨ky, rfl, hky⟩ := inB_node p1
    obtain ⟨b2, o2, z, r2, e2, hR2, hb2, hzk, hr2, hl2, hc2⟩ := h.get hky
    obtain ⟨rfl, rfl⟩ : b1 = b2 ∧ o1 = o2 := by simpa using e2
    obtain ⟨kb, kd, rb, rd, rfl, _, _, _⟩ := hr2
    have hkid : kidOk l k ((ky + 1 : Nat) : Int) = decide (z.up = ((k + 1 : Nat) : Int)) := kidOk_at p1 hzk.out
    by_cases p2 : z.up = ((k + 1 : Nat) : Int)
    · repeat (first | refine qan ?_ | refine qaj ?_ | refine qaf ?_ | refine qad ?_ | refine SX.block ?_ | refine qaC ?_ | refine qaq rfl ?_ | refine qas rfl ?_ | (refine qau ?_; (refine qac (qaw 0 rfl rfl rfl) rfl ?_ ?_ ?_); rfl; rfl) | (refine qak ?_; (refine qac (qae rfl) rfl ?_ ?_ ?_); rfl; rfl) | (refine qao ?_; (refine qac (qai rfl) rfl ?_ ?_ ?_); rfl; rfl) | (refine qal ?_; (refine qac (qag rfl) rfl ?_ ?_ ?_); rfl; rfl) | (refine l_len ?_; (refine qac (OpW.len rfl) rfl ?_ ?_ ?_); rfl; rfl) | (refine l_add ?_; (refine qac (OpW.succ rfl rfl (by omega)) rfl ?_ ?_ ?_); rfl; rfl) | (refine l_lss ?_; (refine qac (OpW.lssT rfl rfl (by omega)) rfl ?_ ?_ ?_); rfl; rfl) | refine SX.drawn (by kernel_rfl) (by kernel_rfl) ?_ | refine SXr.nil ?_ | (refine r_call ?_; (first | refine SXr.v (qap rfl (fun w hl => sisNode_any _ _ _ _ _)) rfl ?_ ?_ ?_ | refine SXr.v (qap rfl (fun w hl => snode_any _ _ _ _ ky _ _ _ _ _ _ _ _ _ w (by omega) hky (fun j v hv => hl.old (hc2 j v hv) (fun h => h)))) rfl ?_ ?_ ?_); rfl; rfl) | (refine r_field ?_; (refine SXr.v (OpW.field rfl (nodeRow_a0 _ _ _ _ _ _ _ _ _)) rfl ?_ ?_ ?_); rfl; rfl) | (refine r_load ?_; (first | refine SXr.v (qaw 0 rfl rfl rfl) rfl ?_ ?_ ?_ | refine SXr.v (OpW.loadOld rfl (by assumption) (fun h => h)) rfl ?_ ?_ ?_ | refine SXr.v (qam 1 rfl rfl rfl) rfl ?_ ?_ ?_); rfl; rfl) | (refine r_fieldAddr ?_; (refine SXr.v (qae rfl) rfl ?_ ?_ ?_); rfl; rfl) | (refine r_move ?_; (refine SXr.v (qai rfl) rfl ?_ ?_ ?_); rfl; rfl) | (refine r_add ?_; (refine SXr.v (OpW.succ rfl rfl (by omega)) rfl ?_ ?_ ?_); rfl; rfl) | (refine r_neq ?_; (refine SXr.v (OpW.neqF rfl rfl (by omega)) rfl ?_ ?_ ?_); rfl; rfl) | (refine r_not ?_; (refine SXr.v (OpW.not rfl) rfl ?_ ?_ ?_); rfl; rfl) | (refine r_pick ?_; (refine SXr.v (qav rfl rfl rfl) rfl ?_ ?_ ?_); rfl; rfl) | (refine r_indexAddr ?_; (refine SXr.v (qaO (by omega) rfl rfl) rfl ?_ ?_ ?_); rfl; rfl) | (rw [p1]) | refine qar ?_)
      refine SQ.roundi (j + 1) ⟨by omega, pto_succ hks hyk (by rw [hkid]; exact decide_eq_true p2)⟩ (by omega) ?_ (fun _ hl => hl)
      (repeat (first | exact subF_nil _ | (refine subF_cons rfl ?_) | (refine subF_consv rfl (by rfl) ?_)))
    · have hv := nodeOk_k (l := l) (i := k) (x := ⟨((ku + 1 : Nat) : Int), kids, st, me, ru⟩) hyk (by rw [hkid]; exact decide_eq_false p2)
      repeat (first | refine qan ?_ | refine qaj ?_ | refine qaf ?_ | refine qad ?_ | refine SX.block ?_ | refine qaC ?_ | refine qaq rfl ?_ | (refine qau ?_; (refine qac (qaw 0 rfl rfl rfl) rfl ?_ ?_ ?_); rfl; rfl) | (refine qak ?_; (refine qac (qae rfl) rfl ?_ ?_ ?_); rfl; rfl) | (refine qao ?_; (refine qac (qai rfl) rfl ?_ ?_ ?_); rfl; rfl) | (refine qal ?_; (refine qac (qag rfl) rfl ?_ ?_ ?_); rfl; rfl) | (refine l_len ?_; (refine qac (OpW.len rfl) rfl ?_ ?_ ?_); rfl; rfl) | (refine l_lss ?_; (refine qac (OpW.lssT rfl rfl (by omega)) rfl ?_ ?_ ?_); rfl; rfl) | refine SX.drawn (by kernel_rfl) (by kernel_rfl) ?_ | refine SXr.nil ?_ | (refine r_call ?_; (first | refine SXr.v (qap rfl (fun w hl => sisNode_any _ _ _ _ _)) rfl ?_ ?_ ?_ | refine SXr.v (qap rfl (fun w hl => snode_any _ _ _ _ ky _ _ _ _ _ _ _ _ _ w (by omega) hky (fun j v hv => hl.old (hc2 j v hv) (fun h => h)))) rfl ?_ ?_ ?_); rfl; rfl) | (refine r_field ?_; (refine SXr.v (OpW.field rfl (nodeRow_a0 _ _ _ _ _ _ _ _ _)) rfl ?_ ?_ ?_); rfl; rfl) | (refine r_load ?_; (first | refine SXr.v (qaw 0 rfl rfl rfl) rfl ?_ ?_ ?_ | refine SXr.v (OpW.loadOld rfl (by assumption) (fun h => h)) rfl ?_ ?_ ?_ | refine SXr.v (qam 1 rfl rfl rfl) rfl ?_ ?_ ?_); rfl; rfl) | (refine r_fieldAddr ?_; (refine SXr.v (qae rfl) rfl ?_ ?_ ?_); rfl; rfl) | (refine r_move ?_; (refine SXr.v (qai rfl) rfl ?_ ?_ ?_); rfl; rfl) | (refine r_add ?_; (refine SXr.v (OpW.succ rfl rfl (by omega)) rfl ?_ ?_ ?_); rfl; rfl) | (refine r_neq ?_; (refine SXr.v (OpW.neqT rfl rfl (by omega)) rfl ?_ ?_ ?_); rfl; rfl) | (refine r_not ?_; (refine SXr.v (OpW.not rfl) rfl ?_ ?_ ?_); rfl; rfl) | (refine r_pick ?_; (refine SXr.v (qav rfl rfl rfl) rfl ?_ ?_ ?_); rfl; rfl) | (refine r_indexAddr ?_; (refine SXr.v (qaO (by omega) rfl rfl) rfl ?_ ?_ ?_); rfl; rfl) | (rw [p1]) | refine qaA ?_ | refine qax ?_ | refine qaH ?_)
      refine qaz rfl rfl (fun w' hl => ⟨by rw [treeOk_no hxk (hv)], hl.mod⟩)
  have hka := all_ints (p := kidOk l k) hks (by omega)
  cases me
  · by_cases r0 : ru.length = 0
    · repeat (first | refine qan ?_ | refine qaj ?_ | refine qaf ?_ | refine qad ?_ | refine qaC ?_ | refine qas rfl ?_ | (refine qaS rfl rfl rfl ?_) | (refine qau ?_; (refine qac (qaw 0 rfl rfl rfl) rfl ?_ ?_ ?_); rfl; rfl) | (refine qak ?_; (refine qac (qae rfl) rfl ?_ ?_ ?_); rfl; rfl) | (refine qao ?_; (refine qac (qai rfl) rfl ?_ ?_ ?_); rfl; rfl) | (refine qal ?_; (refine qac (qag rfl) rfl ?_ ?_ ?_); rfl; rfl) | (refine l_len ?_; (refine qac (OpW.len rfl) rfl ?_ ?_ ?_); rfl; rfl) | (refine l_add ?_; (refine qac (OpW.succ rfl rfl (by omega)) rfl ?_ ?_ ?_); rfl; rfl) | (refine l_gtr ?_; (refine qac (OpW.gtrF rfl rfl (by omega)) rfl ?_ ?_ ?_); rfl; rfl) | (refine l_lss ?_; (refine qac (OpW.lssF rfl rfl (by omega)) rfl ?_ ?_ ?_); rfl; rfl) | (refine qaT ?_; (refine qac (OpW.not rfl) rfl ?_ ?_ ?_); rfl; rfl) | (refine qaE ?_; (refine qac (qav rfl rfl rfl) rfl ?_ ?_ ?_); rfl; rfl) | refine SX.exit ?_ | refine qaF ?_ | refine qar ?_ | refine qaD ?_)
      refine SQ.roundi (k + 1) ⟨by omega, pto_succ hs hxk (nodeOk_y q1 q2 hka hup (by simp [tabOk, r0]))⟩ (by omega) ?_ (fun _ hl => hl.drop1)
      (repeat (first | exact subF_nil _ | (refine subF_cons rfl ?_) | (refine subF_consv rfl (by rfl) ?_)))
    · have hv := nodeOk_t (l := l) (i := k) (x := ⟨((ku + 1 : Nat) : Int), kids, st, false, ru⟩) (by simp [tabOk]; intro e; exact r0 (by rw [e]; rfl))
      repeat (first | refine qan ?_ | refine qaj ?_ | refine qaf ?_ | refine qad ?_ | refine qaq rfl ?_ | refine qas rfl ?_ | (refine qaS rfl rfl rfl ?_) | (refine qau ?_; (refine qac (qaw 0 rfl rfl rfl) rfl ?_ ?_ ?_); rfl; rfl) | (refine qak ?_; (refine qac (qae rfl) rfl ?_ ?_ ?_); rfl; rfl) | (refine qao ?_; (refine qac (qai rfl) rfl ?_ ?_ ?_); rfl; rfl) | (refine qal ?_; (refine qac (qag rfl) rfl ?_ ?_ ?_); rfl; rfl) | (refine l_len ?_; (refine qac (OpW.len rfl) rfl ?_ ?_ ?_); rfl; rfl) | (refine l_gtr ?_; (refine qac (OpW.gtrT rfl rfl (by omega)) rfl ?_ ?_ ?_); rfl; rfl) | (refine l_lss ?_; (refine qac (OpW.lssF rfl rfl (by omega)) rfl ?_ ?_ ?_); rfl; rfl) | (refine qaT ?_; (refine qac (OpW.not rfl) rfl ?_ ?_ ?_); rfl; rfl) | (refine qaE ?_; (refine qac (qav rfl rfl rfl) rfl ?_ ?_ ?_); rfl; rfl) | refine qaA ?_ | refine SX.exit ?_ | refine qax ?_ | refine qaF ?_ | refine qaH ?_ | refine qaD ?_)
      refine qaz rfl rfl (fun w' hl => ⟨by rw [treeOk_no hxk (hv)], hl.mod⟩)
  · cases tq : tableOk ru
    · have hv := nodeOk_t (l := l) (i := k) (x := ⟨((ku + 1 : Nat) : Int), kids, st, true, ru⟩) (by simp [tabOk, tq])
      repeat (first | refine qan ?_ | refine qaj ?_ | refine qaf ?_ | refine qad ?_ | refine qaq rfl ?_ | refine qas rfl ?_ | (refine qaS rfl rfl rfl ?_) | (refine qau ?_; (first | refine qac (qaI (cells := nodeRow _ _ _ _ _ _ _ _ _) 0 rfl rfl rfl (nodeRow_tab _ _ _ _ _ _ _ _ _)) rfl ?_ ?_ ?_ | refine qac (qaw 0 rfl rfl rfl) rfl ?_ ?_ ?_); rfl; rfl) | (refine qat ?_; (refine qac (qap rfl (fun w hl => stableOk_any ru ra rc R _ hf2 (ht1.flatKeep hl.mod))) rfl ?_ ?_ ?_); rfl; rfl) | (refine qak ?_; (refine qac (qae rfl) rfl ?_ ?_ ?_); rfl; rfl) | (refine qao ?_; (refine qac (qai rfl) rfl ?_ ?_ ?_); rfl; rfl) | (refine qal ?_; (refine qac (qag rfl) rfl ?_ ?_ ?_); rfl; rfl) | (refine l_len ?_; (refine qac (OpW.len rfl) rfl ?_ ?_ ?_); rfl; rfl) | (refine l_lss ?_; (refine qac (OpW.lssF rfl rfl (by omega)) rfl ?_ ?_ ?_); rfl; rfl) | (refine qaT ?_; (refine qac (OpW.not rfl) rfl ?_ ?_ ?_); rfl; rfl) | (refine qaE ?_; (refine qac (qav rfl rfl rfl) rfl ?_ ?_ ?_); rfl; rfl) | (rw [tq]) | refine qaA ?_ | refine SX.exit ?_ | refine qax ?_ | refine qaF ?_ | refine qaH ?_ | refine qaD ?_)
      refine qaz rfl rfl (fun w' hl => ⟨by rw [treeOk_no hxk (hv)], hl.mod⟩)
    by_cases k0 : kids.length = 0
    · repeat (first | refine qan ?_ | refine qaj ?_ | refine qaf ?_ | refine qad ?_ | refine qaC ?_ | refine qas rfl ?_ | (refine qaS rfl rfl rfl ?_) | (refine qau ?_; (first | refine qac (qaI (cells := nodeRow _ _ _ _ _ _ _ _ _) 0 rfl rfl rfl (nodeRow_tab _ _ _ _ _ _ _ _ _)) rfl ?_ ?_ ?_ | refine qac (qaw 0 rfl rfl rfl) rfl ?_ ?_ ?_); rfl; rfl) | (refine qat ?_; (refine qac (qap rfl (fun w hl => stableOk_any ru ra rc R _ hf2 (ht1.flatKeep hl.mod))) rfl ?_ ?_ ?_); rfl; rfl) | (refine qak ?_; (refine qac (qae rfl) rfl ?_ ?_ ?_); rfl; rfl) | (refine qao ?_; (refine qac (qai rfl) rfl ?_ ?_ ?_); rfl; rfl) | (refine qal ?_; (refine qac (qag rfl) rfl ?_ ?_ ?_); rfl; rfl) | (refine l_len ?_; (refine qac (OpW.len rfl) rfl ?_ ?_ ?_); rfl; rfl) | (refine l_add ?_; (refine qac (OpW.succ rfl rfl (by omega)) rfl ?_ ?_ ?_); rfl; rfl) | (refine l_gtr ?_; (refine qac (OpW.gtrF rfl rfl (by omega)) rfl ?_ ?_ ?_); rfl; rfl) | (refine l_lss ?_; (refine qac (OpW.lssF rfl rfl (by omega)) rfl ?_ ?_ ?_); rfl; rfl) | (refine qaT ?_; (refine qac (OpW.not rfl) rfl ?_ ?_ ?_); rfl; rfl) | (refine qaE ?_; (refine qac (qav rfl rfl rfl) rfl ?_ ?_ ?_); rfl; rfl) | (rw [tq]) | refine SX.exit ?_ | refine qaF ?_ | refine qar ?_ | refine qaD ?_)
      refine SQ.roundi (k + 1) ⟨by omega, pto_succ hs hxk (nodeOk_y q1 q2 hka hup (by simp [tabOk, tq, k0]))⟩ (by omega) ?_ (fun _ hl => hl.drop1)
      (repeat (first | exact subF_nil _ | (refine subF_cons rfl ?_) | (refine subF_consv rfl (by rfl) ?_)))
    · have hv := nodeOk_t (l := l) (i := k) (x := ⟨((ku + 1 : Nat) : Int), kids, st, true, ru⟩) (by simp [tabOk, tq]; intro e; exact k0 (by rw [e]; rfl))
      repeat (first | refine qan ?_ | refine qaj ?_ | refine qaf ?_ | refine qad ?_ | refine qaq rfl ?_ | refine qas rfl ?_ | (refine qaS rfl rfl rfl ?_) | (refine qau ?_; (first | refine qac (qaI (cells := nodeRow _ _ _ _ _ _ _ _ _) 0 rfl rfl rfl (nodeRow_tab _ _ _ _ _ _ _ _ _)) rfl ?_ ?_ ?_ | refine qac (qaw 0 rfl rfl rfl) rfl ?_ ?_ ?_); rfl; rfl) | (refine qat ?_; (refine qac (qap rfl (fun w hl => stableOk_any ru ra rc R _ hf2 (ht1.flatKeep hl.mod))) rfl ?_ ?_ ?_); rfl; rfl) | (refine qak ?_; (refine qac (qae rfl) rfl ?_ ?_ ?_); rfl; rfl) | (refine qao ?_; (refine qac (qai rfl) rfl ?_ ?_ ?_); rfl; rfl) | (refine qal ?_; (refine qac (qag rfl) rfl ?_ ?_ ?_); rfl; rfl) | (refine l_len ?_; (refine qac (OpW.len rfl) rfl ?_ ?_ ?_); rfl; rfl) | (refine l_gtr ?_; (refine qac (OpW.gtrT rfl rfl (by omega)) rfl ?_ ?_ ?_); rfl; rfl) | (refine l_lss ?_; (refine qac (OpW.lssF rfl rfl (by omega)) rfl ?_ ?_ ?_); rfl; rfl) | (refine qaT ?_; (refine qac (OpW.not rfl) rfl ?_ ?_ ?_); rfl; rfl) | (refine qaE ?_; (refine qac (qav rfl rfl rfl) rfl ?_ ?_ ?_); rfl; rfl) | (rw [tq]) | refine qaA ?_ | refine SX.exit ?_ | refine qax ?_ | refine qaF ?_ | refine qaH ?_ | refine qaD ?_)
      refine qaz rfl rfl (fun w' hl => ⟨by rw [treeOk_no hxk (hv)], hl.mod⟩)

end Go.Proofs.Ythffgbhphjkdeaa
namespace Go.Proofs.Ythffgbhphjkdeaa
open Go.RowKit
set_option linter.unusedVariables false
set_option linter.unusedSimpArgs false

/-- A field of several cells, of a struct that is no variable. -/
class TFr (P : Program) (T j : Nat) (off m : outParam Nat) : Prop where
  h : ∃ fs f d, P.underlying T = some (.struct fs) ∧ fs[j]? = some f ∧ f.offset = off ∧ P.underlying f.type = some d ∧ d.isRow = true ∧ (P.info? f.type).map (·.size) = some m
theorem OpW.fieldRow {P : Program} {n : Nat} {W : World} {R : Rg W} {L : List Blk} {O : List Own} {E : List Res} {f : List (Nat × Value)} {d : Option Tmp} {T j : Nat} {x : Operand} {ty : TypeId} {pos : String} {af : Array Edge} {gd : Option (Nat × Bool)} {off m : Nat} {cs : Array Value} {r : List Value} [t : TFr P T j off m] (hx : evO f x = some (.agg cs)) (hr : cs.extract off (off + m) = r.toArray) : OpW P n W R L O E f ⟨d, .field T x j, ty, pos, af, gd⟩ (.agg r.toArray) :=
  OpW.of (fun a w hf _ => by
    obtain ⟨fs, fl, d, h1, h2, h3, h4, h5, h7⟩ := t.h
    have h6 : (isAgg fl.type).run P w = .ok true w := by
      cases d <;> simp_all [isAgg, run_underlying h4, TypeDesc.isRow]
    obtain ⟨i, hi, hs⟩ := Option.map_eq_some_iff.1 h7
    subst h3 hs
    simp [execOp, hf.eval hx, Instr.field, run_underlying h1, h2, part, asAgg, h6, sizeOf, typeInfo, hi, hr])
instance : TFr Try.prog 86 2 2 60 := ⟨_, _, _, Try.underlying86, rfl, rfl, Try.underlying66, rfl, by kernel_rfl⟩
theorem nodeRow_st (up : Int) (k : Option Addr) (n c : Nat) (s : Style) (m : Bool) (t : Option Addr) (n' c' : Nat) : (nodeRow up k n c s m t n' c').toArray.extract 2 (2 + 60) = s.cells.toArray := by
  have h := nodeRow_style up k n c s m t n' c'
  rw [List.extract_toArray, List.extract_eq_take_drop]
  exact congrArg List.toArray h

instance tfvApart : TFv Try.prog 66 6 6 := ⟨_, _, _, Try.underlying66, rfl, rfl, Try.underlying4, rfl⟩
instance tfvHid : TFv Try.prog 66 7 7 := ⟨_, _, _, Try.underlying66, rfl, rfl, Try.underlying4, rfl⟩
instance tfvOrd : TFv Try.prog 66 8 8 := ⟨_, _, _, Try.underlying66, rfl, rfl, Try.underlying3, rfl⟩
theorem cells_7 (s : Style) : s.cells.toArray[7]? = some (.bool s.hidden) := rfl
theorem cells_8 (s : Style) : s.cells.toArray[8]? = some (.int .i64 s.order) := rfl
abbrev nrow (x : Node) (ka : Option Addr) (kc : Nat) (ra : Option Addr) (rc : Nat) : List Value := nodeRow x.up ka x.kids.length kc x.style x.measured ra x.rules.length rc
section
variable {n : Nat} {W : World} {R : Rg W} {L : List Blk} {O : List Own} {E : List Res} {f : List (Nat × Value)} {d : Option Tmp} {x : Operand} {ty : TypeId} {pos : String} {af : Array Edge} {gd : Option (Nat × Bool)} {z : Node} {ka ra : Option Addr} {kc rc : Nat} {s : Style}
theorem OpW.nodeUp (hx : evO f x = some (.agg (nrow z ka kc ra rc).toArray)) : OpW Try.prog n W R L O E f ⟨d, .field 86 x 0, ty, pos, af, gd⟩ (.int .i64 z.up) := OpW.field hx (nodeRow_a0 _ _ _ _ _ _ _ _ _)
theorem OpW.nodeKids (hx : evO f x = some (.agg (nrow z ka kc ra rc).toArray)) : OpW Try.prog n W R L O E f ⟨d, .field 86 x 1, ty, pos, af, gd⟩ (.slice ka z.kids.length kc) := OpW.field hx (nodeRow_a1 _ _ _ _ _ _ _ _ _)
theorem OpW.nodeSty (hx : evO f x = some (.agg (nrow z ka kc ra rc).toArray)) : OpW Try.prog n W R L O E f ⟨d, .field 86 x 2, ty, pos, af, gd⟩ (.agg z.style.cells.toArray) := OpW.fieldRow hx (nodeRow_st _ _ _ _ _ _ _ _ _)
theorem OpW.styHid (hx : evO f x = some (.agg s.cells.toArray)) : OpW Try.prog n W R L O E f ⟨d, .field 66 x 7, ty, pos, af, gd⟩ (.bool s.hidden) := OpW.field hx (cells_7 s)
theorem OpW.styOrd (hx : evO f x = some (.agg s.cells.toArray)) : OpW Try.prog n W R L O E f ⟨d, .field 66 x 8, ty, pos, af, gd⟩ (.int .i64 s.order) := OpW.field hx (cells_8 s)
end
end Go.Proofs.Ythffgbhphjkdeaa
namespace Go.Proofs.Ythffgbhphjkdeaa
open Go.RowKit
set_option linter.unusedVariables false
set_option linter.unusedSimpArgs false

/-- A node's row, as both sides hand it back. -/
theorem node_row {l : List Node} {o : Bool} {R : Nat → Prop} {w : World} {a : Option Addr} {c : Nat} (hlen : l.length ≤ 1048576) (h : NodeSlice o R w a l) {n : Int} (hn : inB n 1 l.length = true) :
    ∃ (ka : Option Addr) (kc : Nat) (ra : Option Addr) (rc : Nat), IntSlice R w ka (nodeAt l n).kids ∧
      (∀ w', Mod (fun _ => False) w w' → Calls Try.prog 74 #[.agg #[.slice a l.length c], .int .i64 n] w' fun e w'' => e = .returned (.agg (nrow (nodeAt l n) ka kc ra rc).toArray) ∧ Mod (fun _ => False) w' w'') ∧
      (∀ w', Mod (fun _ => False) w w' → Calls Try.prog 79 #[.agg #[.slice a l.length c], .int .i64 n] w' fun e w'' => e = .returned (.agg (nrow (nodeAt l n) ka kc ra rc).toArray) ∧ Mod (fun _ => False) w' w'') := by
  obtain ⟨k, x, rfl, hk, hx, hnx⟩ := node_get hn
  obtain ⟨b1, o1, x1, r1, rfl, hR1, hb1, hxk, hr1, hl1, hc1⟩ := h.get hk
  obtain rfl : x1 = x := Option.some.inj (hxk.out.symm.trans hx)
  obtain ⟨ka, kc, ra, rc, rfl, hk1, ht1, _⟩ := hr1
  rw [hnx]
  have hc : ∀ w', Mod (fun _ => False) w w' → ∀ j v, (nodeRow x1.up ka x1.kids.length kc x1.style x1.measured ra x1.rules.length rc)[j]? = some v → w'.cell? ⟨b1, o1 + k * 64 + j, none⟩ = some v := fun w' hm j v hv => by
    rw [hm.cell (a := ⟨b1, o1 + k * 64 + j, none⟩) hb1 (fun h => h)]
    exact hc1 j v hv
  exact ⟨ka, kc, ra, rc, hk1, fun w' hm => node_any _ _ _ _ k _ _ _ _ _ _ _ _ _ w' hlen hk (hc w' hm), fun w' hm => snode_any _ _ _ _ k _ _ _ _ _ _ _ _ _ w' hlen hk (hc w' hm)⟩
set_option maxRecDepth 100000 in
set_option maxHeartbeats 8000000 in
theorem isGone_any (l : List Node) (n : Int) (o : Bool) (a : Option Addr) (c : Nat) (R : Nat → Prop) (w : World) (hlen : l.length ≤ 1048576) (hfit : ∀ x ∈ l, x.fits 1048576) (h : NodeSlice o R w a l) :
    Calls Try.prog 49 #[.agg #[.slice a l.length c], .int .i64 n] w fun e w' => e = .returned (.bool (goneW l n)) ∧ Mod (fun _ => False) w w' := by
  refine calls_sx Try.func49 rfl rfl (fun a h1 h2 h3 => ((Fr.nil h1 h2).arg (h3 1 _ rfl)).arg (h3 0 _ rfl)) ?_
  have hT := fun w' (hm : Mod (fun _ => False) w w') => treeOk_any l o a c R w' hlen hfit (h.keep hm)
  cases hv : treeOk l
  · have e : goneW l n = true := by simp [goneW, hv]
    rw [e]
    rw [hv] at hT
    repeat (first | refine qan ?_ | refine qaj ?_ | refine qaf ?_ | refine qad ?_ | refine qaq rfl ?_ | (refine qaS rfl rfl rfl ?_) | (refine qat ?_; (refine qac (qap rfl (fun w hl => hT _ hl.mod)) rfl ?_ ?_ ?_); rfl; rfl) | (refine qau ?_; (refine qac (qam 0 rfl rfl rfl) rfl ?_ ?_ ?_); rfl; rfl) | (refine qao ?_; (refine qac (qai rfl) rfl ?_ ?_ ?_); rfl; rfl) | (refine qal ?_; (refine qac (qag rfl) rfl ?_ ?_ ?_); rfl; rfl) | (refine qaT ?_; (refine qac (OpW.not rfl) rfl ?_ ?_ ?_); rfl; rfl) | (refine qaE ?_; (refine qac (qav rfl rfl rfl) rfl ?_ ?_ ?_); rfl; rfl) | (refine l_box ?_; refine qaG ?_ ?_ rfl rfl (fun g => ?_); rfl; rfl) | refine qaA ?_ | refine qax ?_)
    refine qaz rfl rfl (fun w' hl => ⟨rfl, hl.mod⟩)
  rw [hv] at hT
  cases hn : inB n 1 l.length
  · have e : goneW l n = true := by simp [goneW, hn]
    rw [e]
    repeat (first | refine qan ?_ | refine qaj ?_ | refine qaf ?_ | refine qad ?_ | refine qaq rfl ?_ | (refine qat ?_; (first | refine qac (qap rfl (fun w hl => hT _ hl.mod)) rfl ?_ ?_ ?_ | refine qac (qap rfl (fun w hl => isNode_any _ _ _ _ _)) rfl ?_ ?_ ?_); rfl; rfl) | (refine qau ?_; (refine qac (qam 0 rfl rfl rfl) rfl ?_ ?_ ?_); rfl; rfl) | (refine qao ?_; (refine qac (qai rfl) rfl ?_ ?_ ?_); rfl; rfl) | (refine qal ?_; (refine qac (qag rfl) rfl ?_ ?_ ?_); rfl; rfl) | (refine qaT ?_; (refine qac (OpW.not rfl) rfl ?_ ?_ ?_); rfl; rfl) | (refine qaE ?_; (refine qac (qav rfl rfl rfl) rfl ?_ ?_ ?_); rfl; rfl) | (refine l_box ?_; refine qaG ?_ ?_ rfl rfl (fun g => ?_); rfl; rfl) | (rw [hn]) | refine qaA ?_ | refine qax ?_)
    refine qaz rfl rfl (fun w' hl => ⟨rfl, hl.mod⟩)
  repeat (first | refine qan ?_ | refine qaj ?_ | refine qaf ?_ | refine qad ?_ | refine SX.block ?_ | refine qaC ?_ | refine qas rfl ?_ | (refine qat ?_; (first | refine qac (qap rfl (fun w hl => hT _ hl.mod)) rfl ?_ ?_ ?_ | refine qac (qap rfl (fun w hl => isNode_any _ _ _ _ _)) rfl ?_ ?_ ?_); rfl; rfl) | (refine qau ?_; (refine qac (qam 0 rfl rfl rfl) rfl ?_ ?_ ?_); rfl; rfl) | (refine qao ?_; (refine qac (qai rfl) rfl ?_ ?_ ?_); rfl; rfl) | (refine qal ?_; (refine qac (qag rfl) rfl ?_ ?_ ?_); rfl; rfl) | (refine qaT ?_; (refine qac (OpW.not rfl) rfl ?_ ?_ ?_); rfl; rfl) | (refine qaE ?_; (refine qac (qav rfl rfl rfl) rfl ?_ ?_ ?_); rfl; rfl) | (refine l_box ?_; refine qaG ?_ ?_ rfl rfl (fun g => ?_); rfl; rfl) | (rw [hn]))
  refine SX.loop3 (fun (f : Nat) (m : Int) (_ : Unit) => UpG l f m ∧ goneF l f m = goneF l 5 n) (fun f _ _ => f) (fun _ _ _ => [⟨g, [.slice a l.length c], 37⟩]) (fun _ _ _ => []) (fun _ _ _ => []) (fun _ m _ => [(1, .int .i64 m), (2, .pointer (some ⟨g, 0, none⟩)), (4, .bool false)]) 5 n () ⟨.inr ⟨hn, by have := ok_dep hv hn; omega⟩, rfl⟩ ?_ (fun w hl => hl) ?_
  · (repeat (first | exact subF_nil _ | (refine subF_cons rfl ?_) | (refine subF_consv rfl (by rfl) ?_)))
  rintro f m _ ⟨hu, he⟩
  by_cases h0 : m = 0
  · subst h0
    have e : goneW l n = false := by unfold goneW; rw [hv, hn, ← he, goneF_zero]; rfl
    rw [e]
    repeat (first | refine qan ?_ | refine qaj ?_ | refine qaf ?_ | refine qad ?_ | refine qas rfl ?_ | (refine qao ?_; (refine qac (qai rfl) rfl ?_ ?_ ?_); rfl; rfl) | (refine qal ?_; (refine qac (qag rfl) rfl ?_ ?_ ?_); rfl; rfl) | (refine l_neq ?_; (refine qac (OpW.neqF rfl rfl (by omega)) rfl ?_ ?_ ?_); rfl; rfl) | refine qaA ?_ | refine SX.exit ?_ | refine qaF ?_ | refine qaD ?_)
    refine qaz rfl rfl (fun w' hl => ⟨rfl, hl.mod⟩)
  obtain ⟨hm, hd⟩ := hu.resolve_left h0
  have hd1 := ok_dep hv hm
  obtain ⟨f', rfl⟩ : ∃ f', f = f' + 1 := ⟨f - 1, by omega⟩
  have hu' := UpG.next hv hu h0
  rw [goneF_step h0] at he
  obtain ⟨ka, kc, ra, rc, _, hN, _⟩ := node_row (c := c) hlen h hm
  generalize nodeAt l m = z at *
  cases hh : z.style.hidden
  · rw [hh, if_neg (by decide)] at he
    repeat (first | refine qan ?_ | refine qaj ?_ | refine qaf ?_ | refine qad ?_ | refine SX.block ?_ | refine qaC ?_ | refine qaq rfl ?_ | refine qas rfl ?_ | (refine qat ?_; (refine qac (qap rfl (fun w hl => hN _ hl.mod)) rfl ?_ ?_ ?_); rfl; rfl) | (refine l_field ?_; (first | refine qac (OpW.nodeSty rfl) rfl ?_ ?_ ?_ | refine qac (OpW.styHid rfl) rfl ?_ ?_ ?_ | refine qac (OpW.nodeUp rfl) rfl ?_ ?_ ?_); rfl; rfl) | (refine qau ?_; (refine qac (qam 0 rfl rfl rfl) rfl ?_ ?_ ?_); rfl; rfl) | (refine qao ?_; (refine qac (qai rfl) rfl ?_ ?_ ?_); rfl; rfl) | (refine qal ?_; (refine qac (qag rfl) rfl ?_ ?_ ?_); rfl; rfl) | (refine l_neq ?_; (refine qac (OpW.neqT rfl rfl (by omega)) rfl ?_ ?_ ?_); rfl; rfl) | (rw [hh]) | refine qar ?_)
    refine SQ.round3 f' z.up () ⟨hu', he⟩ (by omega) ?_ (fun _ hl => hl)
    (repeat (first | exact subF_nil _ | (refine subF_cons rfl ?_) | (refine subF_consv rfl (by rfl) ?_)))
  · rw [hh, if_pos rfl] at he
    have e : goneW l n = true := by unfold goneW; rw [hv, hn, ← he]; rfl
    rw [e]
    repeat (first | refine qan ?_ | refine qaj ?_ | refine qaf ?_ | refine qad ?_ | refine SX.block ?_ | refine qaC ?_ | refine qaq rfl ?_ | (refine qat ?_; (refine qac (qap rfl (fun w hl => hN _ hl.mod)) rfl ?_ ?_ ?_); rfl; rfl) | (refine l_field ?_; (first | refine qac (OpW.nodeSty rfl) rfl ?_ ?_ ?_ | refine qac (OpW.styHid rfl) rfl ?_ ?_ ?_); rfl; rfl) | (refine qau ?_; (refine qac (qam 0 rfl rfl rfl) rfl ?_ ?_ ?_); rfl; rfl) | (refine qao ?_; (refine qac (qai rfl) rfl ?_ ?_ ?_); rfl; rfl) | (refine qal ?_; (refine qac (qag rfl) rfl ?_ ?_ ?_); rfl; rfl) | (refine l_neq ?_; (refine qac (OpW.neqT rfl rfl (by omega)) rfl ?_ ?_ ?_); rfl; rfl) | (rw [hh]) | refine qaA ?_ | refine qax ?_ | refine qaH ?_)
    refine qaz rfl rfl (fun w' hl => ⟨rfl, hl.mod⟩)
set_option maxRecDepth 100000 in
set_option maxHeartbeats 8000000 in
theorem sisGone_any (l : List Node) (n : Int) (o : Bool) (a : Option Addr) (c : Nat) (R : Nat → Prop) (w : World) (hlen : l.length ≤ 1048576) (hfit : ∀ x ∈ l, x.fits 1048576) (h : NodeSlice o R w a l) :
    Calls Try.prog 50 #[.agg #[.slice a l.length c], .int .i64 n] w fun e w' => e = .returned (.bool (goneW l n)) ∧ Mod (fun _ => False) w w' := by
  refine calls_sx Try.func50 rfl rfl (fun a h1 h2 h3 => ((Fr.nil h1 h2).arg (h3 1 _ rfl)).arg (h3 0 _ rfl)) ?_
  have hT := fun w' (hm : Mod (fun _ => False) w w') => streeOk_any l o a c R w' hlen hfit (h.keep hm)
  cases hv : treeOk l
  · have e : goneW l n = true := by simp [goneW, hv]
    rw [e]
    rw [hv] at hT
    repeat (first | refine qan ?_ | refine qaj ?_ | refine qaf ?_ | refine qad ?_ | refine qaq rfl ?_ | (refine qaS rfl rfl rfl ?_) | (refine qat ?_; (refine qac (qap rfl (fun w hl => hT _ hl.mod)) rfl ?_ ?_ ?_); rfl; rfl) | (refine qau ?_; (refine qac (qam 0 rfl rfl rfl) rfl ?_ ?_ ?_); rfl; rfl) | (refine qao ?_; (refine qac (qai rfl) rfl ?_ ?_ ?_); rfl; rfl) | (refine qal ?_; (refine qac (qag rfl) rfl ?_ ?_ ?_); rfl; rfl) | (refine qaT ?_; (refine qac (OpW.not rfl) rfl ?_ ?_ ?_); rfl; rfl) | (refine qaE ?_; (refine qac (qav rfl rfl rfl) rfl ?_ ?_ ?_); rfl; rfl) | (refine l_box ?_; refine qaG ?_ ?_ rfl rfl (fun g => ?_); rfl; rfl) | refine qaA ?_ | refine qax ?_)
    refine qaz rfl rfl (fun w' hl => ⟨rfl, hl.mod⟩)
  rw [hv] at hT
  cases hn : inB n 1 l.length
  · have e : goneW l n = true := by simp [goneW, hn]
    rw [e]
    repeat (first | refine qan ?_ | refine qaj ?_ | refine qaf ?_ | refine qad ?_ | refine qaq rfl ?_ | (refine qat ?_; (first | refine qac (qap rfl (fun w hl => hT _ hl.mod)) rfl ?_ ?_ ?_ | refine qac (qap rfl (fun w hl => sisNode_any _ _ _ _ _)) rfl ?_ ?_ ?_); rfl; rfl) | (refine qau ?_; (refine qac (qam 0 rfl rfl rfl) rfl ?_ ?_ ?_); rfl; rfl) | (refine qao ?_; (refine qac (qai rfl) rfl ?_ ?_ ?_); rfl; rfl) | (refine qal ?_; (refine qac (qag rfl) rfl ?_ ?_ ?_); rfl; rfl) | (refine qaT ?_; (refine qac (OpW.not rfl) rfl ?_ ?_ ?_); rfl; rfl) | (refine qaE ?_; (refine qac (qav rfl rfl rfl) rfl ?_ ?_ ?_); rfl; rfl) | (refine l_box ?_; refine qaG ?_ ?_ rfl rfl (fun g => ?_); rfl; rfl) | (rw [hn]) | refine qaA ?_ | refine qax ?_)
    refine qaz rfl rfl (fun w' hl => ⟨rfl, hl.mod⟩)
  repeat (first | refine qan ?_ | refine qaj ?_ | refine qaf ?_ | refine qad ?_ | refine SX.block ?_ | refine qaC ?_ | refine qas rfl ?_ | (refine qat ?_; (first | refine qac (qap rfl (fun w hl => hT _ hl.mod)) rfl ?_ ?_ ?_ | refine qac (qap rfl (fun w hl => sisNode_any _ _ _ _ _)) rfl ?_ ?_ ?_); rfl; rfl) | (refine qau ?_; (refine qac (qam 0 rfl rfl rfl) rfl ?_ ?_ ?_); rfl; rfl) | (refine qao ?_; (refine qac (qai rfl) rfl ?_ ?_ ?_); rfl; rfl) | (refine qal ?_; (refine qac (qag rfl) rfl ?_ ?_ ?_); rfl; rfl) | (refine qaT ?_; (refine qac (OpW.not rfl) rfl ?_ ?_ ?_); rfl; rfl) | (refine qaE ?_; (refine qac (qav rfl rfl rfl) rfl ?_ ?_ ?_); rfl; rfl) | (refine l_box ?_; refine qaG ?_ ?_ rfl rfl (fun g => ?_); rfl; rfl) | (rw [hn]))
  refine SX.loop3 (fun (f : Nat) (m : Int) (_ : Unit) => UpG l f m ∧ goneF l f m = goneF l 5 n) (fun f _ _ => f) (fun _ _ _ => [⟨g, [.slice a l.length c], 37⟩]) (fun _ _ _ => []) (fun _ _ _ => []) (fun _ m _ => [(1, .int .i64 m), (2, .pointer (some ⟨g, 0, none⟩)), (4, .bool false)]) 5 n () ⟨.inr ⟨hn, by have := ok_dep hv hn; omega⟩, rfl⟩ ?_ (fun w hl => hl) ?_
  · (repeat (first | exact subF_nil _ | (refine subF_cons rfl ?_) | (refine subF_consv rfl (by rfl) ?_)))
  rintro f m _ ⟨hu, he⟩
  by_cases h0 : m = 0
  · subst h0
    have e : goneW l n = false := by unfold goneW; rw [hv, hn, ← he, goneF_zero]; rfl
    rw [e]
    repeat (first | refine qan ?_ | refine qaj ?_ | refine qaf ?_ | refine qad ?_ | refine qas rfl ?_ | (refine qao ?_; (refine qac (qai rfl) rfl ?_ ?_ ?_); rfl; rfl) | (refine qal ?_; (refine qac (qag rfl) rfl ?_ ?_ ?_); rfl; rfl) | (refine l_neq ?_; (refine qac (OpW.neqF rfl rfl (by omega)) rfl ?_ ?_ ?_); rfl; rfl) | refine qaA ?_ | refine SX.exit ?_ | refine qaF ?_ | refine qaD ?_)
    refine qaz rfl rfl (fun w' hl => ⟨rfl, hl.mod⟩)
  obtain ⟨hm, hd⟩ := hu.resolve_left h0
  have hd1 := ok_dep hv hm
  obtain ⟨f', rfl⟩ : ∃ f', f = f' + 1 := ⟨f - 1, by omega⟩
  have hu' := UpG.next hv hu h0
  rw [goneF_step h0] at he
  obtain ⟨ka, kc, ra, rc, _, _, hN⟩ := node_row (c := c) hlen h hm
  generalize nodeAt l m = z at *
  cases hh : z.style.hidden
  · rw [hh, if_neg (by decide)] at he
    repeat (first | refine qan ?_ | refine qaj ?_ | refine qaf ?_ | refine qad ?_ | refine SX.block ?_ | refine qaC ?_ | refine qaq rfl ?_ | refine qas rfl ?_ | (refine qat ?_; (refine qac (qap rfl (fun w hl => hN _ hl.mod)) rfl ?_ ?_ ?_); rfl; rfl) | (refine l_field ?_; (first | refine qac (OpW.nodeSty rfl) rfl ?_ ?_ ?_ | refine qac (OpW.styHid rfl) rfl ?_ ?_ ?_ | refine qac (OpW.nodeUp rfl) rfl ?_ ?_ ?_); rfl; rfl) | (refine qau ?_; (refine qac (qam 0 rfl rfl rfl) rfl ?_ ?_ ?_); rfl; rfl) | (refine qao ?_; (refine qac (qai rfl) rfl ?_ ?_ ?_); rfl; rfl) | (refine qal ?_; (refine qac (qag rfl) rfl ?_ ?_ ?_); rfl; rfl) | (refine l_neq ?_; (refine qac (OpW.neqT rfl rfl (by omega)) rfl ?_ ?_ ?_); rfl; rfl) | (rw [hh]) | refine qar ?_)
    refine SQ.round3 f' z.up () ⟨hu', he⟩ (by omega) ?_ (fun _ hl => hl)
    (repeat (first | exact subF_nil _ | (refine subF_cons rfl ?_) | (refine subF_consv rfl (by rfl) ?_)))
  · rw [hh, if_pos rfl] at he
    have e : goneW l n = true := by unfold goneW; rw [hv, hn, ← he]; rfl
    rw [e]
    repeat (first | refine qan ?_ | refine qaj ?_ | refine qaf ?_ | refine qad ?_ | refine SX.block ?_ | refine qaC ?_ | refine qaq rfl ?_ | (refine qat ?_; (refine qac (qap rfl (fun w hl => hN _ hl.mod)) rfl ?_ ?_ ?_); rfl; rfl) | (refine l_field ?_; (first | refine qac (OpW.nodeSty rfl) rfl ?_ ?_ ?_ | refine qac (OpW.styHid rfl) rfl ?_ ?_ ?_); rfl; rfl) | (refine qau ?_; (refine qac (qam 0 rfl rfl rfl) rfl ?_ ?_ ?_); rfl; rfl) | (refine qao ?_; (refine qac (qai rfl) rfl ?_ ?_ ?_); rfl; rfl) | (refine qal ?_; (refine qac (qag rfl) rfl ?_ ?_ ?_); rfl; rfl) | (refine l_neq ?_; (refine qac (OpW.neqT rfl rfl (by omega)) rfl ?_ ?_ ?_); rfl; rfl) | (rw [hh]) | refine qaA ?_ | refine qax ?_ | refine qaH ?_)
    refine qaz rfl rfl (fun w' hl => ⟨rfl, hl.mod⟩)
set_option maxRecDepth 100000 in
set_option maxHeartbeats 8000000 in
theorem rootOf_any (l : List Node) (n : Int) (o : Bool) (a : Option Addr) (c : Nat) (R : Nat → Prop) (w : World) (hlen : l.length ≤ 1048576) (hfit : ∀ x ∈ l, x.fits 1048576) (h : NodeSlice o R w a l) :
    Calls Try.prog 51 #[.agg #[.slice a l.length c], .int .i64 n] w fun e w' => e = .returned (.int .i64 (rootW l n)) ∧ Mod (fun _ => False) w w' := by
  refine calls_sx Try.func51 rfl rfl (fun a h1 h2 h3 => ((Fr.nil h1 h2).arg (h3 1 _ rfl)).arg (h3 0 _ rfl)) ?_
  have hT := fun w' (hm : Mod (fun _ => False) w w') => treeOk_any l o a c R w' hlen hfit (h.keep hm)
  cases hv : treeOk l
  · have e : rootW l n = 0 := by simp [rootW, hv]
    rw [e]
    rw [hv] at hT
    repeat (first | refine qan ?_ | refine qaj ?_ | refine qaf ?_ | refine qad ?_ | refine qaq rfl ?_ | (refine qaS rfl rfl rfl ?_) | (refine qat ?_; (refine qac (qap rfl (fun w hl => hT _ hl.mod)) rfl ?_ ?_ ?_); rfl; rfl) | (refine qau ?_; (refine qac (qam 0 rfl rfl rfl) rfl ?_ ?_ ?_); rfl; rfl) | (refine qao ?_; (refine qac (qai rfl) rfl ?_ ?_ ?_); rfl; rfl) | (refine qal ?_; (refine qac (qag rfl) rfl ?_ ?_ ?_); rfl; rfl) | (refine qaT ?_; (refine qac (OpW.not rfl) rfl ?_ ?_ ?_); rfl; rfl) | (refine qaE ?_; (refine qac (qav rfl rfl rfl) rfl ?_ ?_ ?_); rfl; rfl) | (refine l_box ?_; refine qaG ?_ ?_ rfl rfl (fun g => ?_); rfl; rfl) | refine qaA ?_ | refine qax ?_)
    refine qaz rfl rfl (fun w' hl => ⟨rfl, hl.mod⟩)
  rw [hv] at hT
  cases hn : inB n 1 l.length
  · have e : rootW l n = 0 := by simp [rootW, hn]
    rw [e]
    repeat (first | refine qan ?_ | refine qaj ?_ | refine qaf ?_ | refine qad ?_ | refine qaq rfl ?_ | (refine qat ?_; (first | refine qac (qap rfl (fun w hl => hT _ hl.mod)) rfl ?_ ?_ ?_ | refine qac (qap rfl (fun w hl => isNode_any _ _ _ _ _)) rfl ?_ ?_ ?_); rfl; rfl) | (refine qau ?_; (refine qac (qam 0 rfl rfl rfl) rfl ?_ ?_ ?_); rfl; rfl) | (refine qao ?_; (refine qac (qai rfl) rfl ?_ ?_ ?_); rfl; rfl) | (refine qal ?_; (refine qac (qag rfl) rfl ?_ ?_ ?_); rfl; rfl) | (refine qaT ?_; (refine qac (OpW.not rfl) rfl ?_ ?_ ?_); rfl; rfl) | (refine qaE ?_; (refine qac (qav rfl rfl rfl) rfl ?_ ?_ ?_); rfl; rfl) | (refine l_box ?_; refine qaG ?_ ?_ rfl rfl (fun g => ?_); rfl; rfl) | (rw [hn]) | refine qaA ?_ | refine qax ?_)
    refine qaz rfl rfl (fun w' hl => ⟨rfl, hl.mod⟩)
  repeat (first | refine qan ?_ | refine qaj ?_ | refine qaf ?_ | refine qad ?_ | refine SX.block ?_ | refine qaC ?_ | refine qas rfl ?_ | (refine qat ?_; (first | refine qac (qap rfl (fun w hl => hT _ hl.mod)) rfl ?_ ?_ ?_ | refine qac (qap rfl (fun w hl => isNode_any _ _ _ _ _)) rfl ?_ ?_ ?_); rfl; rfl) | (refine qau ?_; (refine qac (qam 0 rfl rfl rfl) rfl ?_ ?_ ?_); rfl; rfl) | (refine qao ?_; (refine qac (qai rfl) rfl ?_ ?_ ?_); rfl; rfl) | (refine qal ?_; (refine qac (qag rfl) rfl ?_ ?_ ?_); rfl; rfl) | (refine qaT ?_; (refine qac (OpW.not rfl) rfl ?_ ?_ ?_); rfl; rfl) | (refine qaE ?_; (refine qac (qav rfl rfl rfl) rfl ?_ ?_ ?_); rfl; rfl) | (refine l_box ?_; refine qaG ?_ ?_ rfl rfl (fun g => ?_); rfl; rfl) | (rw [hn]))
  refine SX.loop3 (fun (f : Nat) (m : Int) (_ : Unit) => inB m 1 l.length = true ∧ dep l m ≤ f ∧ rootF l f m = rootF l 4 n) (fun f _ _ => f) (fun _ _ _ => [⟨g, [.slice a l.length c], 37⟩]) (fun _ _ _ => []) (fun _ _ _ => []) (fun _ m _ => [(1, .int .i64 m), (2, .pointer (some ⟨g, 0, none⟩))]) 4 n () ⟨hn, by have := ok_dep hv hn; omega, rfl⟩ ?_ (fun w hl => hl) ?_
  · (repeat (first | exact subF_nil _ | (refine subF_cons rfl ?_) | (refine subF_consv rfl (by rfl) ?_)))
  rintro f m _ ⟨hm, hd, he⟩
  have hd1 := ok_dep hv hm
  obtain ⟨f', rfl⟩ : ∃ f', f = f' + 1 := ⟨f - 1, by omega⟩
  obtain ⟨ka, kc, ra, rc, _, hN, _⟩ := node_row (c := c) hlen h hm
  by_cases h0 : (nodeAt l m).up = 0
  · have e : rootW l n = m := by unfold rootW; rw [hv, hn, ← he]; simp [rootF, h0]
    rw [e]
    repeat (first | refine qan ?_ | refine qaj ?_ | refine qaf ?_ | refine qad ?_ | refine qas rfl ?_ | (refine qat ?_; (refine qac (qap rfl (fun w hl => hN _ hl.mod)) rfl ?_ ?_ ?_); rfl; rfl) | (refine l_field ?_; (refine qac (OpW.nodeUp rfl) rfl ?_ ?_ ?_); rfl; rfl) | (refine qau ?_; (refine qac (qam 0 rfl rfl rfl) rfl ?_ ?_ ?_); rfl; rfl) | (refine qao ?_; (refine qac (qai rfl) rfl ?_ ?_ ?_); rfl; rfl) | (refine qal ?_; (refine qac (qag rfl) rfl ?_ ?_ ?_); rfl; rfl) | (refine l_neq ?_; (refine qac (OpW.neqF rfl rfl (by omega)) rfl ?_ ?_ ?_); rfl; rfl) | refine qaA ?_ | refine SX.exit ?_ | refine qaF ?_ | refine qaD ?_)
    refine qaz rfl rfl (fun w' hl => ⟨rfl, hl.mod⟩)
  · obtain ⟨q1, q2⟩ := up_dep hv hm h0
    rw [rootF, if_neg h0] at he
    repeat (first | refine qan ?_ | refine qaj ?_ | refine qaf ?_ | refine qad ?_ | refine SX.block ?_ | refine qaC ?_ | refine qaq rfl ?_ | (refine qat ?_; (refine qac (qap rfl (fun w hl => hN _ hl.mod)) rfl ?_ ?_ ?_); rfl; rfl) | (refine l_field ?_; (refine qac (OpW.nodeUp rfl) rfl ?_ ?_ ?_); rfl; rfl) | (refine qau ?_; (refine qac (qam 0 rfl rfl rfl) rfl ?_ ?_ ?_); rfl; rfl) | (refine qao ?_; (refine qac (qai rfl) rfl ?_ ?_ ?_); rfl; rfl) | (refine qal ?_; (refine qac (qag rfl) rfl ?_ ?_ ?_); rfl; rfl) | (refine l_neq ?_; (refine qac (OpW.neqT rfl rfl (by omega)) rfl ?_ ?_ ?_); rfl; rfl) | refine qar ?_)
    refine SQ.round3 f' (nodeAt l m).up () ⟨q1, by omega, he⟩ (by omega) ?_ (fun _ hl => hl)
    (repeat (first | exact subF_nil _ | (refine subF_cons rfl ?_) | (refine subF_consv rfl (by rfl) ?_)))
set_option maxRecDepth 100000 in
set_option maxHeartbeats 8000000 in
theorem srootOf_any (l : List Node) (n : Int) (o : Bool) (a : Option Addr) (c : Nat) (R : Nat → Prop) (w : World) (hlen : l.length ≤ 1048576) (hfit : ∀ x ∈ l, x.fits 1048576) (h : NodeSlice o R w a l) :
    Calls Try.prog 52 #[.agg #[.slice a l.length c], .int .i64 n] w fun e w' => e = .returned (.int .i64 (rootW l n)) ∧ Mod (fun _ => False) w w' := by
  refine calls_sx Try.func52 rfl rfl (fun a h1 h2 h3 => ((Fr.nil h1 h2).arg (h3 1 _ rfl)).arg (h3 0 _ rfl)) ?_
  have hT := fun w' (hm : Mod (fun _ => False) w w') => streeOk_any l o a c R w' hlen hfit (h.keep hm)
  cases hv : treeOk l
  · have e : rootW l n = 0 := by simp [rootW, hv]
    rw [e]
    rw [hv] at hT
    repeat (first | refine qan ?_ | refine qaj ?_ | refine qaf ?_ | refine qad ?_ | refine qaq rfl ?_ | (refine qaS rfl rfl rfl ?_) | (refine qat ?_; (refine qac (qap rfl (fun w hl => hT _ hl.mod)) rfl ?_ ?_ ?_); rfl; rfl) | (refine qau ?_; (refine qac (qam 0 rfl rfl rfl) rfl ?_ ?_ ?_); rfl; rfl) | (refine qao ?_; (refine qac (qai rfl) rfl ?_ ?_ ?_); rfl; rfl) | (refine qal ?_; (refine qac (qag rfl) rfl ?_ ?_ ?_); rfl; rfl) | (refine qaT ?_; (refine qac (OpW.not rfl) rfl ?_ ?_ ?_); rfl; rfl) | (refine qaE ?_; (refine qac (qav rfl rfl rfl) rfl ?_ ?_ ?_); rfl; rfl) | (refine l_box ?_; refine qaG ?_ ?_ rfl rfl (fun g => ?_); rfl; rfl) | refine qaA ?_ | refine qax ?_)
    refine qaz rfl rfl (fun w' hl => ⟨rfl, hl.mod⟩)
  rw [hv] at hT
  cases hn : inB n 1 l.length
  · have e : rootW l n = 0 := by simp [rootW, hn]
    rw [e]
    repeat (first | refine qan ?_ | refine qaj ?_ | refine qaf ?_ | refine qad ?_ | refine qaq rfl ?_ | (refine qat ?_; (first | refine qac (qap rfl (fun w hl => hT _ hl.mod)) rfl ?_ ?_ ?_ | refine qac (qap rfl (fun w hl => sisNode_any _ _ _ _ _)) rfl ?_ ?_ ?_); rfl; rfl) | (refine qau ?_; (refine qac (qam 0 rfl rfl rfl) rfl ?_ ?_ ?_); rfl; rfl) | (refine qao ?_; (refine qac (qai rfl) rfl ?_ ?_ ?_); rfl; rfl) | (refine qal ?_; (refine qac (qag rfl) rfl ?_ ?_ ?_); rfl; rfl) | (refine qaT ?_; (refine qac (OpW.not rfl) rfl ?_ ?_ ?_); rfl; rfl) | (refine qaE ?_; (refine qac (qav rfl rfl rfl) rfl ?_ ?_ ?_); rfl; rfl) | (refine l_box ?_; refine qaG ?_ ?_ rfl rfl (fun g => ?_); rfl; rfl) | (rw [hn]) | refine qaA ?_ | refine qax ?_)
    refine qaz rfl rfl (fun w' hl => ⟨rfl, hl.mod⟩)
  repeat (first | refine qan ?_ | refine qaj ?_ | refine qaf ?_ | refine qad ?_ | refine SX.block ?_ | refine qaC ?_ | refine qas rfl ?_ | (refine qat ?_; (first | refine qac (qap rfl (fun w hl => hT _ hl.mod)) rfl ?_ ?_ ?_ | refine qac (qap rfl (fun w hl => sisNode_any _ _ _ _ _)) rfl ?_ ?_ ?_); rfl; rfl) | (refine qau ?_; (refine qac (qam 0 rfl rfl rfl) rfl ?_ ?_ ?_); rfl; rfl) | (refine qao ?_; (refine qac (qai rfl) rfl ?_ ?_ ?_); rfl; rfl) | (refine qal ?_; (refine qac (qag rfl) rfl ?_ ?_ ?_); rfl; rfl) | (refine qaT ?_; (refine qac (OpW.not rfl) rfl ?_ ?_ ?_); rfl; rfl) | (refine qaE ?_; (refine qac (qav rfl rfl rfl) rfl ?_ ?_ ?_); rfl; rfl) | (refine l_box ?_; refine qaG ?_ ?_ rfl rfl (fun g => ?_); rfl; rfl) | (rw [hn]))
  refine SX.loop3 (fun (f : Nat) (m : Int) (_ : Unit) => inB m 1 l.length = true ∧ dep l m ≤ f ∧ rootF l f m = rootF l 4 n) (fun f _ _ => f) (fun _ _ _ => [⟨g, [.slice a l.length c], 37⟩]) (fun _ _ _ => []) (fun _ _ _ => []) (fun _ m _ => [(1, .int .i64 m), (2, .pointer (some ⟨g, 0, none⟩))]) 4 n () ⟨hn, by have := ok_dep hv hn; omega, rfl⟩ ?_ (fun w hl => hl) ?_
  · (repeat (first | exact subF_nil _ | (refine subF_cons rfl ?_) | (refine subF_consv rfl (by rfl) ?_)))
  rintro f m _ ⟨hm, hd, he⟩
  have hd1 := ok_dep hv hm
  obtain ⟨f', rfl⟩ : ∃ f', f = f' + 1 := ⟨f - 1, by omega⟩
  obtain ⟨ka, kc, ra, rc, _, _, hN⟩ := node_row (c := c) hlen h hm
  by_cases h0 : (nodeAt l m).up = 0
  · have e : rootW l n = m := by unfold rootW; rw [hv, hn, ← he]; simp [rootF, h0]
    rw [e]
    repeat (first | refine qan ?_ | refine qaj ?_ | refine qaf ?_ | refine qad ?_ | refine qas rfl ?_ | (refine qat ?_; (refine qac (qap rfl (fun w hl => hN _ hl.mod)) rfl ?_ ?_ ?_); rfl; rfl) | (refine l_field ?_; (refine qac (OpW.nodeUp rfl) rfl ?_ ?_ ?_); rfl; rfl) | (refine qau ?_; (refine qac (qam 0 rfl rfl rfl) rfl ?_ ?_ ?_); rfl; rfl) | (refine qao ?_; (refine qac (qai rfl) rfl ?_ ?_ ?_); rfl; rfl) | (refine qal ?_; (refine qac (qag rfl) rfl ?_ ?_ ?_); rfl; rfl) | (refine l_neq ?_; (refine qac (OpW.neqF rfl rfl (by omega)) rfl ?_ ?_ ?_); rfl; rfl) | refine qaA ?_ | refine SX.exit ?_ | refine qaF ?_ | refine qaD ?_)
    refine qaz rfl rfl (fun w' hl => ⟨rfl, hl.mod⟩)
  · obtain ⟨q1, q2⟩ := up_dep hv hm h0
    rw [rootF, if_neg h0] at he
    repeat (first | refine qan ?_ | refine qaj ?_ | refine qaf ?_ | refine qad ?_ | refine SX.block ?_ | refine qaC ?_ | refine qaq rfl ?_ | (refine qat ?_; (refine qac (qap rfl (fun w hl => hN _ hl.mod)) rfl ?_ ?_ ?_); rfl; rfl) | (refine l_field ?_; (refine qac (OpW.nodeUp rfl) rfl ?_ ?_ ?_); rfl; rfl) | (refine qau ?_; (refine qac (qam 0 rfl rfl rfl) rfl ?_ ?_ ?_); rfl; rfl) | (refine qao ?_; (refine qac (qai rfl) rfl ?_ ?_ ?_); rfl; rfl) | (refine qal ?_; (refine qac (qag rfl) rfl ?_ ?_ ?_); rfl; rfl) | (refine l_neq ?_; (refine qac (OpW.neqT rfl rfl (by omega)) rfl ?_ ?_ ?_); rfl; rfl) | refine qar ?_)
    refine SQ.round3 f' (nodeAt l m).up () ⟨q1, by omega, he⟩ (by omega) ?_ (fun _ hl => hl)
    (repeat (first | exact subF_nil _ | (refine subF_cons rfl ?_) | (refine subF_consv rfl (by rfl) ?_)))
end Go.Proofs.Ythffgbhphjkdeaa
